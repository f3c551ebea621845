/- The ghost's run for the kernel; runs with hints. -/
import Derived.Test.YtlendaofkmhgmaaHlE
set_option linter.unusedVariables false
set_option linter.unusedSimpArgs false
/- The ghost's run, in a form that the kernel runs fast: values are made ready as soon as they are stored. It is the same run. -/
namespace Go.HL
section
variable {α : Type}

def forceN (n : Nat) (k : Nat → α) : α := match n with | 0 => k 0 | m + 1 => k (m + 1)
def forceI (n : Int) (k : Int → α) : α := match n with | .ofNat m => forceN m fun m => k (.ofNat m) | .negSucc m => forceN m fun m => k (.negSucc m)
def forceS (v : HV) (k : HV → α) : α :=
  match v with
  | .int i n => forceI n fun n => k (.int i n)
  | .bool b => match b with | true => k (.bool true) | false => k (.bool false)
  | .sl b off len cap tot s => forceN b fun b => forceN off fun off => forceN len fun len => forceN tot fun tot => k (.sl b off len cap tot s)
  | .ptr b i off tot => forceN b fun b => forceN i fun i => forceN off fun off => forceN tot fun tot => k (.ptr b i off tot)
  | .undef => k .undef
  | .nilS s => k (.nilS s)
  | .empS s => k (.empS s)
  | .str s => k (.str s)
  | .agg l => k (.agg l)
  | .tuple l => k (.tuple l)
  | .imm g s l => k (.imm g s l)
  | .own s l => k (.own s l)
  | .aview b i off len => k (.aview b i off len)
  | .vptr v => k (.vptr v)
  | .map b => forceN b fun b => k (.map b)
  | .nilmap => k .nilmap
  | .imap g ks vs => k (.imap g ks vs)
  | .omap ks vs => k (.omap ks vs)
  | .func f a c => k (.func f a c)
  | .nilFunc => k .nilFunc

theorem forceN_eq (n : Nat) (k : Nat → α) : forceN n k = k n := by cases n <;> rfl
theorem forceI_eq (n : Int) (k : Int → α) : forceI n k = k n := by cases n <;> simp [forceI, forceN_eq]
theorem forceS_eq (v : HV) (k : HV → α) : forceS v k = k v := by
  cases v with
  | bool b => cases b <;> rfl
  | int i n => simp only [forceS, forceI_eq]
  | sl => simp only [forceS, forceN_eq]
  | ptr => simp only [forceS, forceN_eq]
  | map => simp only [forceS, forceN_eq]
  | _ => rfl

mutual
  def forceV : HV → (HV → α) → α
    | .agg l, k => forceL l fun l => k (.agg l)
    | .tuple l, k => forceL l fun l => k (.tuple l)
    | .imm g s l, k => forceL l fun l => k (.imm g s l)
    | .own s l, k => forceL l fun l => k (.own s l)
    | .undef, k => k .undef
    | .nilS s, k => k (.nilS s)
    | .empS s, k => k (.empS s)
    | .str s, k => k (.str s)
    | .int i n, k => forceS (.int i n) k
    | .bool b, k => forceS (.bool b) k
    | .sl b off len cap tot s, k => forceS (.sl b off len cap tot s) k
    | .ptr b i off tot, k => forceS (.ptr b i off tot) k
    | .map b, k => forceS (.map b) k
    | .aview b i off len, k => k (.aview b i off len)
    | .vptr v, k => k (.vptr v)
    | .nilmap, k => k .nilmap
    | .imap g ks vs, k => k (.imap g ks vs)
    | .omap ks vs, k => k (.omap ks vs)
    | .func f a c, k => k (.func f a c)
    | .nilFunc, k => k .nilFunc
  termination_by structural v => v
  def forceL : List HV → (List HV → α) → α
    | [], k => k []
    | v :: l, k => forceV v fun v => forceL l fun l => k (v :: l)
  termination_by structural l => l
end

mutual
  theorem forceV_eq : ∀ (v : HV) (k : HV → α), forceV v k = k v
    | .agg l, k | .tuple l, k | .imm _ _ l, k | .own _ l, k => by simp only [forceV, forceL_eq l]
    | .undef, k | .nilS _, k | .empS _, k | .int _ _, k | .bool _, k | .str _, k | .sl .., k | .aview .., k | .ptr .., k | .vptr _, k | .map _, k | .nilmap, k | .imap .., k | .omap .., k | .func .., k | .nilFunc, k => by simp only [forceV, forceS_eq]
  theorem forceL_eq : ∀ (l : List HV) (k : List HV → α), forceL l k = k l
    | [], k => rfl
    | v :: l, k => by simp only [forceL, forceV_eq v, forceL_eq l]
end

def forceB (b : Blk) (k : Blk → α) : α :=
  match b with
  | .arr s els wr mx => forceL els fun els => match wr with | true => forceN mx fun mx => k (.arr s els true mx) | false => forceN mx fun mx => k (.arr s els false mx)
  | .map ks vs mx => forceL ks fun ks => forceL vs fun vs => forceN mx fun mx => k (.map ks vs mx)
  | .dead => k .dead
theorem forceB_eq (b : Blk) (k : Blk → α) : forceB b k = k b := by
  unfold forceB
  split <;> simp only [forceL_eq, forceN_eq]
  split <;> rfl

def forceH : Heap → (Heap → α) → α
  | [], k => k []
  | b :: H, k => forceB b fun b => forceH H fun H => k (b :: H)
theorem forceH_eq : ∀ (H : Heap) (k : Heap → α), forceH H k = k H
  | [], k => rfl
  | b :: H, k => by simp only [forceH, forceB_eq, forceH_eq H]

end
section
noncomputable def getF (s : Nat) (e : Env) : HV := @List.rec (Nat × HV) (fun _ => HV) .undef (fun p _ ih => @Bool.rec (fun _ => HV) ih p.2 (Nat.beq p.1 s)) e
theorem getF_eq (s : Nat) : ∀ (e : Env), getF s e = e.get s
  | [] => rfl
  | (t, v) :: e => by
    have ih := getF_eq s e
    show @Bool.rec (fun _ => HV) (getF s e) v (Nat.beq t s) = Env.get ((t, v) :: e) s
    rw [ih]
    simp only [Env.get]
    cases h : Nat.beq t s with
    | true => rw [if_pos (Nat.eq_of_beq_eq_true h)]
    | false => rw [if_neg (Nat.ne_of_beq_eq_false h)]
noncomputable def opValF (e : Env) (x : Operand) : HV :=
  match x with
  | .tmp t => getF t e
  | .const v => ofConst v
  | .func f => .func f [] []
  | .global _ => .undef
theorem opValF_eq (e : Env) (x : Operand) : opValF e x = opVal e x := by cases x <;> simp only [opValF, opVal, getF_eq]
def someH (H : Heap) (r : Option HV) : Option (HV × Heap) := match r with | some v => some (v, H) | none => none
theorem someH_eq (H : Heap) (r : Option HV) : someH H r = r.map fun v => (v, H) := by cases r <;> rfl
def pickF (c a b : HV) (H : Heap) : Option (HV × Heap) := match c with | .bool t => some (if t then a else b, H) | _ => none
def binF (P : Program) (H : Heap) (op : BinOp) (t : TypeId) (y : Operand) (vx vy : HV) : Option (HV × Heap) :=
  match y with
  | .const (.slice none 0 0) => someH H (nilTest P op t vx)
  | _ => someH H (binV P op t vx vy)
def extractF (H : Heap) (i : Nat) (v : HV) : Option (HV × Heap) := match v with | .tuple vs => someH H vs[i]? | _ => none
def storeF (P : Program) (sl : Bool) (t : TypeId) (a x : HV) (H : Heap) : Option (HV × Heap) :=
  match (if sl then seal1 H x else some (x, H)) with
  | some (v, H) => (storeV P H t a v).map fun H => (.tuple [], H)
  | none => none
def callVF (P : Program) (call : CallFn) (t : Option (FuncId × List HV)) (H : Heap) : Option (HV × Heap) :=
  match t with
  | some (g, args) => if callable P g then call g args H else none
  | none => none
noncomputable def callF (P : Program) (call : CallFn) (c : Call) (e : Env) (H : Heap) : Option (HV × Heap) :=
  match c.callee with
  | .builtin b => builtinV P b c.argTypes.toList (c.args.toList.map (opValF e)) H
  | .value g => callVF P call (targetV (opValF e g) (c.args.toList.map (opValF e))) H
  | .invoke _ _ => none
noncomputable def evOpF (P : Program) (pol : Pol) (f : FuncId) (rg : Nat) (asg : List Nat) (call : CallFn) (o : Oper) (e : Env) (H : Heap) : Option (HV × Heap) :=
  match o.op with
  | .move x => some (opValF e x, H)
  | .pick c a b => pickF (opValF e c) (opValF e a) (opValF e b) H
  | .load t a => someH H (loadV P H t (opValF e a))
  | .store t a x => storeF P (pol.freezeS f rg) t (opValF e a) (opValF e x) H
  | .binOp op t x y _ => binF P H op t y (opValF e x) (opValF e y)
  | .unOp op _ x => someH H (unV op (opValF e x))
  | .indexAddr t x i => someH H (idxV P t (opValF e x) (opValF e i))
  | .index t x i => someH H (elemV P t (opValF e x) (opValF e i))
  | .extract t i => extractF H i (opValF e t)
  | .call c => callF P call c e H
  | _ => evOp P pol f rg asg call o e H
theorem evOpF_eq (P : Program) (pol : Pol) (f : FuncId) (rg : Nat) (asg : List Nat) (call : CallFn) (o : Oper) (e : Env) (H : Heap) : evOpF P pol f rg asg call o e H = evOp P pol f rg asg call o e H := by
  have hm : (opValF e : Operand → HV) = opVal e := funext fun x => opValF_eq e x
  unfold evOpF
  obtain ⟨dst, op, ty, pos, aft, gd⟩ := o
  cases op with
  | move x => simp only [evOp, opValF_eq]
  | pick c a b => simp only [evOp, opValF_eq, pickF]; cases opVal e c <;> rfl
  | load t a => simp only [evOp, opValF_eq, someH_eq]
  | store t a x =>
    simp only [evOp, opValF_eq, storeF]
    cases pol.freezeS f rg with
    | true => simp only [if_true]; cases seal1 H (opVal e x) <;> rfl
    | false => rfl
  | binOp op t x y _ =>
    simp only [evOp, opValF_eq, binF, someH_eq]
    split
    · rfl
    · rename_i h
      congr 1
      split
      · exact absurd rfl h
      · rfl
  | unOp op _ x => simp only [evOp, opValF_eq, someH_eq]
  | indexAddr t x i => simp only [evOp, opValF_eq, someH_eq]
  | index t x i => simp only [evOp, opValF_eq, someH_eq]
  | extract t i => simp only [evOp, opValF_eq, extractF, someH_eq]; cases opVal e t <;> rfl
  | call c =>
    simp only [evOp, callF, hm, opValF_eq, callVF]
    cases c.callee with
    | builtin b => rfl
    | invoke _ _ => rfl
    | value g =>
      simp only []
      cases targetV (opVal e g) (c.args.toList.map (opVal e)) <;> rfl
  | _ => rfl
noncomputable def wantedF (ops : Array Oper) (o : Oper) (e : Env) : Option Bool :=
  match o.guard with
  | none => some true
  | some (j, want) =>
    match (ops[j]?).bind (·.dst) with
    | none => some false
    | some d =>
      match getF d e with
      | .bool b => some (b == want)
      | .tuple [] => some false
      | _ => none
theorem wantedF_eq (ops : Array Oper) (o : Oper) (e : Env) : wantedF ops o e = wantedV ops o e := by
  unfold wantedF wantedV
  simp only [getF_eq]
  cases o.guard with
  | none => rfl
  | some p =>
    obtain ⟨j, want⟩ := p
    simp only []
    cases (ops[j]?).bind (·.dst) with
    | none => rfl
    | some d =>
      simp only []
      cases e.get d with
      | tuple l => cases l <;> rfl
      | _ => rfl
noncomputable def restrS {α : Type} : List Nat → Env → (Env → α) → α
  | [], _, k => k []
  | t :: l, e, k => forceS (getF t e) fun v => restrS l e fun r => k ((t, v) :: r)
theorem restrS_eq {α : Type} : ∀ (l : List Nat) (e : Env) (k : Env → α), restrS l e k = k (restr l e)
  | [], _, _ => rfl
  | t :: l, e, k => by simp only [restrS, forceS_eq, getF_eq, restrS_eq l]; rfl

variable (P : Program) (pol : Pol)

noncomputable def evOpsF (f : FuncId) (rg : Nat) (ops : Array Oper) (asg : List Nat) (call : CallFn) : List Oper → Env → Heap → Option (Env × Heap)
  | [], e, H => some (e, H)
  | o :: os, e, H =>
    match wantedF ops o e with
    | some true =>
      match evOpF P pol f rg asg call o e H with
      | some (v, H') => forceS v fun v => evOpsF f rg ops asg call os (e.put o.dst v) H'
      | none => none
    | some false => evOpsF f rg ops asg call os (e.put o.dst (.tuple [])) H
    | none => none
theorem evOpsF_eq (f : FuncId) (rg : Nat) (ops : Array Oper) (asg : List Nat) (call : CallFn) : ∀ (os : List Oper) (e : Env) (H : Heap), evOpsF P pol f rg ops asg call os e H = evOps P pol f rg ops asg call os e H
  | [], _, _ => rfl
  | o :: os, e, H => by
    simp only [evOpsF, evOps, wantedF_eq, evOpF_eq]
    cases wantedV ops o e with
    | none => rfl
    | some t =>
      cases t with
      | false => exact evOpsF_eq f rg ops asg call os _ _
      | true =>
        cases evOp P pol f rg asg call o e H with
        | none => rfl
        | some p => simp only [forceS_eq]; exact evOpsF_eq f rg ops asg call os _ _

noncomputable def evRegionF (f : FuncId) (rg : Nat) (ops : Array Oper) (draw : Bool) (call : CallFn) (e : Env) (H : Heap) : Option (Env × Heap) :=
  let asg := asgTmps ops.toList
  if draw && !(chk ops (pol.quiet f rg)).isEmpty then
    if (chk ops (pol.quiet f rg)).all (recheck P pol f rg ops asg call (trace P pol f rg ops asg call ops.toList e H)) then evOpsF P pol f rg ops asg call ops.toList e H else none
  else evOpsF P pol f rg ops asg call ops.toList e H

noncomputable def evCF (call : CallFn) : Nat → FuncId → Code → Env → Heap → Option Out
  | 0, _, _, _, _ => none
  | n + 1, f, c, e, H =>
    match c with
    | .skip => some (.normal, e, H)
    | .label _ => some (.normal, e, H)
    | .region id ops draw => match evRegionF P pol f id ops draw call e H with | some (e, H) => some (.normal, e, H) | none => none
    | .seq a b =>
      match evCF call n f a e H with
      | some (.normal, e, H) => restrS (pol.keys f ++ headTmp b) e fun e => evCF call n f b e H
      | r => r
    | .cond c a b =>
      match opValF e c with
      | .bool t => restrS (pol.keys f) e fun e => match t with | true => evCF call n f a e H | false => evCF call n f b e H
      | _ => none
    | .block id b =>
      match evCF call n f b e H with
      | some (.exit i, e, H) => if i = id then some (.normal, e, H) else some (.exit i, e, H)
      | r => r
    | .loop b => restrS ((pol.keys f).filter fun t => !(pol.dead f (headReg b)).contains t) e fun e => restrS (pol.keys f) e fun e =>
      match evCF call n f b e H with
      | some (.normal, e, H') => restrS ((pol.keys f).filter fun t => !(pol.dead f (headReg b)).contains t) e fun e => restrS (pol.keys f) e fun e => forceH (gc H.length (bndE e) H') fun H => evCF call n f (.loop b) e H
      | r => r
    | .exit id => some (.exit id, e, H)
    | .ret => some (.ret, e, H)
    | _ => none

theorem evCF_eq (call : CallFn) : ∀ (n : Nat) (f : FuncId) (c : Code) (e : Env) (H : Heap), evCF P pol call n f c e H = evC P pol call n f c e H
  | 0, _, _, _, _ => rfl
  | n + 1, f, c, e, H => by
    have ih := evCF_eq call n
    cases c with
    | region id ops draw =>
      have : evRegionF P pol f id ops draw call e H = evRegion P pol f id ops draw call e H := by
        unfold evRegionF evRegion
        simp only [evOpsF_eq]
      simp only [evCF, evC, this]
      cases evRegion P pol f id ops draw call e H <;> rfl
    | seq a b =>
      simp only [evCF, evC, ih]
      cases evC P pol call n f a e H with
      | none => rfl
      | some p =>
        obtain ⟨x, e, H⟩ := p
        cases x with
        | normal => simp only [restrS_eq, ih]
        | _ => rfl
    | cond c a b =>
      simp only [evCF, evC, opValF_eq]
      cases opVal e c with
      | bool t =>
        simp only [restrS_eq]
        cases t <;> simp [ih]
      | _ => rfl
    | block id b =>
      simp only [evCF, evC, ih]
      cases evC P pol call n f b e H with
      | none => rfl
      | some p =>
        obtain ⟨x, e, H⟩ := p
        cases x <;> rfl
    | loop b =>
      simp only [evCF, evC, ih, restrS_eq, lrestr]
      cases evC P pol call n f b (restr (pol.keys f) (restr ((pol.keys f).filter fun t => !(pol.dead f (headReg b)).contains t) e)) H with
      | none => rfl
      | some p =>
        obtain ⟨x, e, H⟩ := p
        cases x with
        | normal => simp only [restrS_eq, forceH_eq, ih]
        | _ => rfl
    | _ => rfl

def forceE {α : Type} : Env → (Env → α) → α
  | [], k => k []
  | (t, v) :: e, k => forceV v fun v => forceE e fun e => k ((t, v) :: e)
theorem forceE_eq {α : Type} : ∀ (e : Env) (k : Env → α), forceE e k = k e
  | [], _ => rfl
  | (t, v) :: e, k => by simp only [forceE, forceV_eq, forceE_eq e]

def ready (r : Option (HV × Heap)) : Option (HV × Heap) :=
  match r with
  | some (v, H) => forceV v fun v => forceH H fun H => some (v, H)
  | none => none
theorem ready_eq (r : Option (HV × Heap)) : ready r = r := by
  cases r with
  | none => rfl
  | some p => obtain ⟨v, H⟩ := p; simp only [ready, forceV_eq, forceH_eq]

noncomputable def callNF : Nat → CallFn
  | 0 => fun _ _ _ => none
  | n + 1 => fun g args H => ready (doCall P pol (fun g c e H => forceE e fun e => evCF P pol (callNF n) n g c e H) g args H)
theorem callNF_eq : ∀ (n : Nat), callNF P pol n = callN P pol n
  | 0 => rfl
  | n + 1 => by
    funext g args H
    have h : (fun (g : FuncId) (c : Code) (e : Env) (H : Heap) => forceE e fun e => evCF P pol (callNF P pol n) n g c e H) = evC P pol (callN P pol n) n := by
      funext g c e H
      rw [forceE_eq, evCF_eq, callNF_eq n]
    simp only [callNF, ready_eq, callN, h]

end
end Go.HL


/- Runs with hints: where the run cannot tell a value, it is told; what it was told is to be shown. Runs as such, and how they are put together. -/
namespace Go.HL

structure Hint where
  rg : Nat
  i : Nat
  v : HV
  H : Heap

abbrev Obl := Prop

def Obls (l : List Obl) : Prop := ∀ p ∈ l, p
theorem Obls.nil : Obls [] := by intro p hp; cases hp
theorem Obls.cons {p : Obl} {l : List Obl} (h : p) (t : Obls l) : Obls (p :: l) := by
  intro q hq
  cases hq with
  | head => exact h
  | tail _ hq => exact t q hq
theorem hintOp {r : Option HV} {v : HV} {H : Heap} (h : r = some v) : r.map (fun v => (v, H)) = some (v, H) := by rw [h]; rfl
theorem hintSt {r : Option Heap} {H : Heap} (h : r = some H) : r.map (fun H => (HV.tuple [], H)) = some (.tuple [], H) := by rw [h]; rfl
theorem hintB {p b : Bool} {H : Heap} (h : p = b) : some (HV.bool p, H) = some (HV.bool b, H) := by rw [h]

section
variable (P : Program) (pol : Pol)

def evOpsH (f : FuncId) (rg : Nat) (ops : Array Oper) (asg : List Nat) (call : CallFn) : Nat → List Oper → Env → Heap → List Hint → Option (Env × Heap × List Hint × List Obl)
  | _, [], e, H, hs => some (e, H, hs, [])
  | i, o :: os, e, H, hs =>
    match wantedV ops o e with
    | some true =>
      match hs with
      | [] =>
        match evOp P pol f rg asg call o e H with
        | some (v, H') => evOpsH f rg ops asg call (i + 1) os (e.put o.dst v) H' []
        | none => none
      | h :: hs' =>
        if h.rg == rg && h.i == i then
          match evOpsH f rg ops asg call (i + 1) os (e.put o.dst h.v) h.H hs' with
          | some (e', H', hs'', ob) => some (e', H', hs'', (evOp P pol f rg asg call o e H = some (h.v, h.H)) :: ob)
          | none => none
        else
          match evOp P pol f rg asg call o e H with
          | some (v, H') => evOpsH f rg ops asg call (i + 1) os (e.put o.dst v) H' (h :: hs')
          | none => none
    | some false => evOpsH f rg ops asg call (i + 1) os (e.put o.dst (.tuple [])) H hs
    | none => none

theorem evOpsH_ok {f : FuncId} {rg : Nat} {ops : Array Oper} {asg : List Nat} {call : CallFn} : ∀ (os : List Oper) (i : Nat) (e : Env) (H : Heap) (hs : List Hint) {e' : Env} {H' : Heap} {hs' : List Hint} {ob : List Obl},
    evOpsH P pol f rg ops asg call i os e H hs = some (e', H', hs', ob) → Obls ob → evOps P pol f rg ops asg call os e H = some (e', H')
  | [], i, e, H, hs, e', H', hs', ob, h, _ => by cases h; rfl
  | o :: os, i, e, H, hs, e', H', hs', ob, h, ho => by
    unfold evOpsH at h
    unfold evOps
    split at h
    · rename_i hw
      simp only [hw]
      split at h
      · split at h
        · rename_i v H1 he
          simp only [he]
          exact evOpsH_ok os _ _ _ _ h ho
        · cases h
      · split at h
        · split at h
          · rename_i hr
            simp only [Option.some.injEq, Prod.mk.injEq] at h
            obtain ⟨rfl, rfl, rfl, rfl⟩ := h
            have h1 := ho _ (List.mem_cons_self ..)
            simp only [h1]
            exact evOpsH_ok os _ _ _ _ hr (fun p hp => ho p (List.mem_cons_of_mem _ hp))
          · cases h
        · split at h
          · rename_i v H1 he
            simp only [he]
            exact evOpsH_ok os _ _ _ _ h ho
          · cases h
    · rename_i hw
      simp only [hw]
      exact evOpsH_ok os _ _ _ _ h ho
    · cases h

def traceH (f : FuncId) (rg : Nat) (ops : Array Oper) (asg : List Nat) (call : CallFn) : Nat → List Oper → Env → Heap → List Hint → List (Env × Heap)
  | _, [], e, H, _ => [(e, H)]
  | i, o :: os, e, H, hs => (e, H) ::
    match wantedV ops o e with
    | some true =>
      match hs with
      | [] =>
        match evOp P pol f rg asg call o e H with
        | some (v, H') => traceH f rg ops asg call (i + 1) os (e.put o.dst v) H' []
        | none => []
      | h :: hs' =>
        if h.rg == rg && h.i == i then traceH f rg ops asg call (i + 1) os (e.put o.dst h.v) h.H hs'
        else
          match evOp P pol f rg asg call o e H with
          | some (v, H') => traceH f rg ops asg call (i + 1) os (e.put o.dst v) H' (h :: hs')
          | none => []
    | some false => traceH f rg ops asg call (i + 1) os (e.put o.dst (.tuple [])) H hs
    | none => []

theorem traceH_ok {f : FuncId} {rg : Nat} {ops : Array Oper} {asg : List Nat} {call : CallFn} : ∀ (os : List Oper) (i : Nat) (e : Env) (H : Heap) (hs : List Hint) {r : Env × Heap × List Hint × List Obl},
    evOpsH P pol f rg ops asg call i os e H hs = some r → Obls r.2.2.2 → trace P pol f rg ops asg call os e H = traceH P pol f rg ops asg call i os e H hs
  | [], i, e, H, hs, r, h, _ => rfl
  | o :: os, i, e, H, hs, r, h, ho => by
    unfold evOpsH at h
    unfold trace traceH
    split at h
    · rename_i hw
      simp only [hw]
      split at h
      · split at h
        · rename_i v H1 he
          simp only [he]
          rw [traceH_ok os _ _ _ _ h ho]
        · cases h
      · split at h
        · rename_i hcnd
          split at h
          · rename_i hr
            simp only [Option.some.injEq] at h
            subst h
            have h1 := ho _ (List.mem_cons_self ..)
            simp only [h1, hcnd, if_true]
            rw [traceH_ok os _ _ _ _ hr (fun p hp => ho p (List.mem_cons_of_mem _ hp))]
          · cases h
        · rename_i hcnd
          split at h
          · rename_i v H1 he
            simp only [he, hcnd]
            rw [traceH_ok os _ _ _ _ h ho]
            rfl
          · cases h
    · rename_i hw
      simp only [hw]
      rw [traceH_ok os _ _ _ _ h ho]
    · cases h

def evCH (call : CallFn) : Nat → FuncId → Code → Env → Heap → List Hint → Option (Out × List Hint × List Obl)
  | 0, _, _, _, _, _ => none
  | n + 1, f, c, e, H, hs =>
    match c with
    | .skip => some ((.normal, e, H), hs, [])
    | .label _ => some ((.normal, e, H), hs, [])
    | .region id ops draw =>
      if draw && !(chk ops (pol.quiet f id)).isEmpty then
        match evOpsH P pol f id ops (asgTmps ops.toList) call 0 ops.toList e H hs with
        | some (e', H', hs', ob) => some ((.normal, e', H'), hs', ((chk ops (pol.quiet f id)).all (recheck P pol f id ops (asgTmps ops.toList) call (traceH P pol f id ops (asgTmps ops.toList) call 0 ops.toList e H hs)) = true) :: ob)
        | none => none
      else
        match evOpsH P pol f id ops (asgTmps ops.toList) call 0 ops.toList e H hs with
        | some (e, H, hs, ob) => some ((.normal, e, H), hs, ob)
        | none => none
    | .seq a b =>
      match evCH call n f a e H hs with
      | some ((.normal, e, H), hs, ob) =>
        match evCH call n f b (restr (pol.keys f ++ headTmp b) e) H hs with
        | some (o, hs, ob') => some (o, hs, ob ++ ob')
        | none => none
      | r => r
    | .cond c a b =>
      match opVal e c with
      | .bool t => evCH call n f (if t then a else b) (restr (pol.keys f) e) H hs
      | _ => none
    | .block id b =>
      match evCH call n f b e H hs with
      | some ((.exit i, e, H), hs, ob) => if i = id then some ((.normal, e, H), hs, ob) else some ((.exit i, e, H), hs, ob)
      | r => r
    | .exit id => some ((.exit id, e, H), hs, [])
    | .ret => some ((.ret, e, H), hs, [])
    | _ => none

theorem evCH_ok {call : CallFn} : ∀ (n : Nat) (f : FuncId) (c : Code) (e : Env) (H : Heap) (hs : List Hint) {o : Out} {hs' : List Hint} {ob : List Obl},
    evCH P pol call n f c e H hs = some (o, hs', ob) → Obls ob → ∀ m, n ≤ m → evC P pol call m f c e H = some o
  | 0, _, _, _, _, _, _, _, _, h, _, _, _ => by cases h
  | n + 1, f, c, e, H, hs, o, hs', ob, h, ho, m + 1, hm => by
    have ih := @evCH_ok call n
    have hm' : n ≤ m := by omega
    cases c with
    | region id ops draw =>
      simp only [evCH] at h
      simp only [evC]
      split at h
      · rename_i hd
        split at h
        · rename_i e1 H1 hs1 ob1 he
          simp only [Option.some.injEq, Prod.mk.injEq] at h
          obtain ⟨rfl, rfl, rfl⟩ := h
          have : evRegion P pol f id ops draw call e H = some (e1, H1) := by
            unfold evRegion
            simp only [hd, if_true]
            rw [traceH_ok P pol _ 0 _ _ hs he (fun p hp => ho p (List.mem_cons_of_mem _ hp)), if_pos (ho _ (List.mem_cons_self ..))]
            exact evOpsH_ok P pol _ _ _ _ _ he (fun p hp => ho p (List.mem_cons_of_mem _ hp))
          simp only [this]
        · cases h
      · rename_i hd
        split at h
        · rename_i e1 H1 hs1 ob1 he
          simp only [Option.some.injEq, Prod.mk.injEq] at h
          obtain ⟨rfl, rfl, rfl⟩ := h
          have : evRegion P pol f id ops draw call e H = some (e1, H1) := by
            unfold evRegion
            simp only [hd]
            exact evOpsH_ok P pol _ _ _ _ _ he ho
          simp only [this]
        · cases h
    | seq a b =>
      simp only [evCH] at h
      simp only [evC]
      split at h
      · rename_i e1 H1 hs1 ob1 he
        split at h
        · rename_i he2
          simp only [Option.some.injEq, Prod.mk.injEq] at h
          obtain ⟨rfl, rfl, rfl⟩ := h
          rw [ih _ _ _ _ _ he (fun p hp => ho p (List.mem_append_left _ hp)) m hm']
          exact ih _ _ _ _ _ he2 (fun p hp => ho p (List.mem_append_right _ hp)) m hm'
        · cases h
      · rename_i hne
        obtain ⟨x, e1, H1⟩ := o
        rw [ih _ _ _ _ _ h ho m hm']
        cases x with
        | normal => exact absurd h (hne _ _ _ _)
        | _ => rfl
    | cond c a b =>
      simp only [evCH] at h
      simp only [evC]
      split at h
      · rename_i t ht
        simp only [ht]
        exact ih _ _ _ _ _ h ho m hm'
      · cases h
    | block id b =>
      simp only [evCH] at h
      simp only [evC]
      split at h
      · rename_i i e1 H1 hs1 ob1 he
        split at h
        · rename_i hi
          simp only [Option.some.injEq, Prod.mk.injEq] at h
          obtain ⟨rfl, rfl, rfl⟩ := h
          rw [ih _ _ _ _ _ he ho m hm']
          simp only [if_pos hi]
        · rename_i hi
          simp only [Option.some.injEq, Prod.mk.injEq] at h
          obtain ⟨rfl, rfl, rfl⟩ := h
          rw [ih _ _ _ _ _ he ho m hm']
          simp only [if_neg hi]
      · rename_i hne
        obtain ⟨x, e1, H1⟩ := o
        rw [ih _ _ _ _ _ h ho m hm']
        cases x with
        | exit i => exact absurd h (hne _ _ _ _ _)
        | _ => rfl
    | skip => simp only [evCH] at h; cases h; rfl
    | label => simp only [evCH] at h; cases h; rfl
    | exit => simp only [evCH] at h; cases h; rfl
    | ret => simp only [evCH] at h; cases h; rfl
    | _ => cases h
  | n + 1, _, _, _, _, _, _, _, _, _, _, 0, hm => by omega

def RunsTo (f : FuncId) (c : Code) (e : Env) (H : Heap) (x : X) (K : List Nat) (E : Env) (H' : Heap) : Prop :=
  ∃ m, ∀ n k, m ≤ n → m ≤ k → ∃ e1, evC P pol (callN P pol k) n f c e H = some (x, e1, H') ∧ restr K e1 = E
def CallsTo (g : FuncId) (args : List HV) (H : Heap) (r : HV) (H' : Heap) : Prop := ∃ m, ∀ k, m ≤ k → callN P pol k g args H = some (r, H')

variable {P pol}
variable {f : FuncId} {e E E1 : Env} {H H1 H2 H' : Heap} {x : X} {K : List Nat} {a b c : Code}

theorem restr_get {K : List Nat} {e : Env} {t : Nat} (hc : K.contains t = true) : (restr K e).get t = e.get t := by
  have h : t ∈ K := by simpa using hc
  clear hc
  induction K with
  | nil => cases h
  | cons s K ih =>
    simp only [restr, List.map_cons, Env.get]
    split
    · rename_i hs; rw [hs]
    · rename_i hs
      cases h with
      | head => exact absurd rfl hs
      | tail _ h => exact ih h

theorem restr_restr {K L : List Nat} {e : Env} (h : ∀ t ∈ L, t ∈ K) : restr L (restr K e) = restr L e := by
  unfold restr
  apply List.map_congr_left
  intro t ht
  have := restr_get (K := K) (e := e) (t := t) (by simpa using h t ht)
  unfold restr at this
  rw [this]

def hview (K : List Nat) (r : Option (Out × List Hint × List Obl)) : Option (X × Env × Heap × List Obl) :=
  match r with
  | some ((x, e, H), _, ob) => some (x, restr K e, H, ob)
  | none => none

theorem RunsTo.hint (d n : Nat) (hs : List Hint) (h : ∀ k, d ≤ k → ∃ ob, hview K (evCH P pol (callN P pol k) n f c e H hs) = some (x, E, H', ob) ∧ Obls ob) : RunsTo P pol f c e H x K E H' := by
  refine ⟨max n d, fun m k hm hk => ?_⟩
  obtain ⟨ob, h1, h2⟩ := h k (by omega)
  unfold hview at h1
  split at h1
  · rename_i x1 e1 H1 hs1 ob1 he
    simp only [Option.some.injEq, Prod.mk.injEq] at h1
    obtain ⟨rfl, h1, rfl, rfl⟩ := h1
    exact ⟨e1, evCH_ok P pol n f c e H hs he h2 m (by omega), h1⟩
  · cases h1

theorem RunsTo.seq {K1 : List Nat} (h1 : RunsTo P pol f a e H .normal K1 E1 H1) (h2 : RunsTo P pol f b E1 H1 x K E H') (hc : c = .seq a b) (hK : K1 = pol.keys f ++ headTmp b) : RunsTo P pol f c e H x K E H' := by
  subst hc; subst hK
  obtain ⟨m1, h1⟩ := h1
  obtain ⟨m2, h2⟩ := h2
  refine ⟨m1 + m2 + 1, fun n k hn hk => ?_⟩
  obtain ⟨n, rfl⟩ : ∃ n', n = n' + 1 := ⟨n - 1, by omega⟩
  obtain ⟨e1, g1, g2⟩ := h1 n k (by omega) (by omega)
  subst g2
  obtain ⟨e2, g3, g4⟩ := h2 n k (by omega) (by omega)
  exact ⟨e2, by simp only [evC, g1, g3], g4⟩

theorem RunsTo.seq_out (h1 : RunsTo P pol f a e H x K E H') (hx : x ≠ .normal) (hc : c = .seq a b) : RunsTo P pol f c e H x K E H' := by
  subst hc
  obtain ⟨m1, h1⟩ := h1
  refine ⟨m1 + 1, fun n k hn hk => ?_⟩
  obtain ⟨n, rfl⟩ : ∃ n', n = n' + 1 := ⟨n - 1, by omega⟩
  obtain ⟨e1, g1, g2⟩ := h1 n k (by omega) (by omega)
  refine ⟨e1, ?_, g2⟩
  simp only [evC, g1]
  cases x with
  | normal => exact absurd rfl hx
  | _ => rfl

theorem RunsTo.cond {y : Operand} {t : Bool} (hc : c = .cond y a b) (hy : opVal e y = .bool t) (h : RunsTo P pol f (if t then a else b) (restr (pol.keys f) e) H x K E H') : RunsTo P pol f c e H x K E H' := by
  subst hc
  obtain ⟨m, h⟩ := h
  refine ⟨m + 1, fun n k hn hk => ?_⟩
  obtain ⟨n, rfl⟩ : ∃ n', n = n' + 1 := ⟨n - 1, by omega⟩
  obtain ⟨e1, g1, g2⟩ := h n k (by omega) (by omega)
  exact ⟨e1, by simp only [evC, hy, g1], g2⟩

theorem RunsTo.block {i : Nat} (hc : c = .block i b) (h : RunsTo P pol f b e H x K E H') : RunsTo P pol f c e H (if x = .exit i then .normal else x) K E H' := by
  subst hc
  obtain ⟨m, h⟩ := h
  refine ⟨m + 1, fun n k hn hk => ?_⟩
  obtain ⟨n, rfl⟩ : ∃ n', n = n' + 1 := ⟨n - 1, by omega⟩
  obtain ⟨e1, g1, g2⟩ := h n k (by omega) (by omega)
  refine ⟨e1, ?_, g2⟩
  simp only [evC, g1]
  cases x with
  | exit j =>
    simp only [X.exit.injEq]
    by_cases hj : j = i
    · simp [hj]
    · simp [hj]
  | _ => rfl

theorem RunsTo.block_exit {i : Nat} (h : RunsTo P pol f b e H (.exit i) K E H') (hc : c = .block i b) : RunsTo P pol f c e H .normal K E H' := by
  have := RunsTo.block hc h
  simpa using this
theorem RunsTo.block_ret {i : Nat} (h : RunsTo P pol f b e H .ret K E H') (hc : c = .block i b) : RunsTo P pol f c e H .ret K E H' := by
  have := RunsTo.block hc h
  simpa using this
theorem RunsTo.block_normal {i : Nat} (h : RunsTo P pol f b e H .normal K E H') (hc : c = .block i b) : RunsTo P pol f c e H .normal K E H' := by
  have := RunsTo.block hc h
  simpa using this

theorem RunsTo.loop {K1 : List Nat} {E0 : Env} (h1 : RunsTo P pol f b e H .normal K1 E0 H1) (hE : lrestr pol f b E0 = E1) (hg : gc H.length (bndE E1) H1 = H2) (h2 : RunsTo P pol f c E1 H2 x K E H') (hK : K1 = pol.keys f) (hc : c = .loop b) (he : lrestr pol f b e = e) : RunsTo P pol f c e H x K E H' := by
  subst hc; subst hK
  obtain ⟨m1, h1⟩ := h1
  obtain ⟨m2, h2⟩ := h2
  refine ⟨m1 + m2 + 1, fun n k hn hk => ?_⟩
  obtain ⟨n, rfl⟩ : ∃ n', n = n' + 1 := ⟨n - 1, by omega⟩
  obtain ⟨e1, g1, g2⟩ := h1 n k (by omega) (by omega)
  have hE1 : lrestr pol f b e1 = E1 := by
    rw [← hE, ← g2]
    unfold lrestr
    rw [restr_restr (fun t ht => (List.mem_filter.1 ht).1)]
  subst hE1; subst hg
  obtain ⟨e2, g3, g4⟩ := h2 n k (by omega) (by omega)
  exact ⟨e2, by simp only [evC, he, g1, g3], g4⟩

theorem RunsTo.loop_out (h1 : RunsTo P pol f b e H x K E H') (hx : x ≠ .normal) (hc : c = .loop b) (he : lrestr pol f b e = e) : RunsTo P pol f c e H x K E H' := by
  subst hc
  obtain ⟨m1, h1⟩ := h1
  refine ⟨m1 + 1, fun n k hn hk => ?_⟩
  obtain ⟨n, rfl⟩ : ∃ n', n = n' + 1 := ⟨n - 1, by omega⟩
  obtain ⟨e1, g1, g2⟩ := h1 n k (by omega) (by omega)
  refine ⟨e1, ?_, g2⟩
  simp only [evC, he, g1]
  cases x with
  | normal => exact absurd rfl hx
  | _ => rfl

theorem RunsTo.loop_in {e0 : Env} (h : RunsTo P pol f c e H x K E H') (hc : c = .loop b) (h0 : lrestr pol f b e0 = e) (he : lrestr pol f b e = e) : RunsTo P pol f c e0 H x K E H' := by
  subst hc
  obtain ⟨m, h⟩ := h
  refine ⟨m + 1, fun n k hn hk => ?_⟩
  obtain ⟨n, rfl⟩ : ∃ n', n = n' + 1 := ⟨n - 1, by omega⟩
  obtain ⟨e1, g1, g2⟩ := h (n + 1) k (by omega) (by omega)
  refine ⟨e1, ?_, g2⟩
  rw [← g1]
  simp only [evC, he, h0]

theorem resultsV_restr {fn : Func} {K : List Nat} {e : Env} {H : Heap} (h : (fn.results.toList.all fun r => match r with | .tmp t => K.contains t | .cell t _ => K.contains t) = true) : resultsV P fn (restr K e) H = resultsV P fn e H := by
  have hm : ∀ (l : List ResultVar), (l.all fun r => match r with | .tmp t => K.contains t | .cell t _ => K.contains t) = true → mapO (resultV P H (restr K e)) l = mapO (resultV P H e) l := by
    intro l
    induction l with
    | nil => intro _; rfl
    | cons r l ih =>
      intro hl
      rw [List.all_cons, Bool.and_eq_true] at hl
      have hr : resultV P H (restr K e) r = resultV P H e r := by
        cases r with
        | tmp t => simp only [resultV, restr_get hl.1]
        | cell t _ => simp only [resultV, restr_get hl.1]
      simp only [mapO, hr, ih hl.2]
  unfold resultsV
  rw [hm _ h]

theorem primOk_pure {g : FuncId} {fn : Func} {cd : Code} {F : List HV → Option HV} (hm : P.follows .mixedOrders = true) (hS : ∀ n, CallSound P (callN P pol n)) (hf : P.funcs[g]? = some fn) (hb : fn.body = some cd) (hok : fnOk pol g fn = true)
    (hres : (fn.results.toList.all fun r => match r with | .tmp t => (pol.keys g).contains t | .cell t _ => (pol.keys g).contains t) = true)
    (h : ∀ (args : List HV) (res : HV), F args = some res → ∃ x E H' v, RunsTo P pol g cd (args0 args) [] x (pol.keys g) E H' ∧ (∀ i, x ≠ .exit i) ∧ resultsV P fn E H' = some v ∧ toRes H' (pol.deep g) v = some res) : PrimOk P g F := by
  intro args res hF c w lo rargs hR hl hV
  obtain ⟨x, E, H', v, ⟨m, h1⟩, hx, h2, h3⟩ := h args res hF
  obtain ⟨e1, g1, g2⟩ := h1 m m (Nat.le_refl m) (Nat.le_refl m)
  subst g2
  rw [resultsV_restr hres] at h2
  refine pureRun_ok (pol := pol) (call := callN P pol m) (n := m) hm (hS m) hf hb hok hR hl hV ?_
  unfold pureRun
  rw [g1]
  cases x with
  | exit i => exact absurd rfl (hx i)
  | normal => simp only [h2, h3]
  | ret => simp only [h2, h3]

theorem CallsTo.pure {g : FuncId} {fn : Func} {cd : Code} {args rs : List HV} {v r : HV} (hp : pol.prim g = none) (hf : P.funcs[g]? = some fn) (hb : fn.body = some cd) (hs : pol.shared g = false) (hn : pol.nilf g = false)
    (ha : mapO (toArg H 6) args = some rs) (hrun : RunsTo P pol g cd (args0 rs) [] x (pol.keys g) E H') (hres : (fn.results.toList.all fun r => match r with | .tmp t => (pol.keys g).contains t | .cell t _ => (pol.keys g).contains t) = true) (hx : ∀ i, x ≠ .exit i) (hv : resultsV P fn E H' = some v) (hr : toRes H' (pol.deep g) v = some r) :
    CallsTo (P := P) (pol := pol) g args H (recv r H).1 (recv r H).2 := by
  obtain ⟨m, h⟩ := hrun
  refine ⟨m + 1, fun k hk => ?_⟩
  obtain ⟨k, rfl⟩ : ∃ n', k = n' + 1 := ⟨k - 1, by omega⟩
  obtain ⟨e1, g1, g2⟩ := h k k (by omega) (by omega)
  subst g2
  rw [resultsV_restr hres] at hv
  exact pure_call hp hf hb hs hn ha g1 hx hv hr

theorem prim_call {g : FuncId} {F : List HV → Option HV} {args rs : List HV} {res : HV} {k : Nat} (hp : pol.prim g = some F) (ha : mapO (toArg H 6) args = some rs) (hF : F rs = some res) : callN P pol (k + 1) g args H = some (recv res H) := by
  simp only [callN, doCall, hp, primCall, ha, hF]

def sub : List Nat → Code → Code
  | [], c => c
  | p :: ps, .seq a b => sub ps (match p with | 0 => a | _ => b)
  | p :: ps, .cond _ a b => sub ps (match p with | 0 => a | _ => b)
  | _ :: ps, .block _ b => sub ps b
  | _ :: ps, .loop b => sub ps b
  | _, _ => .skip

end
end Go.HL


/- What the told steps come to: lists of numbers, of pairs, of truth values. -/
namespace Go.HL
section
variable {P : Program}

def encI (n : Int) : HV := .int .i64 n
def decI : HV → Option Int | .int .i64 n => some n | _ => none
def encP (p : Int × Int) : HV := .agg [.int .i64 p.1, .int .i64 p.2]
theorem mapO_map {α β : Type} {f : β → Option α} {g : α → β} (h : ∀ a, f (g a) = some a) : ∀ (l : List α), mapO f (l.map g) = some l
  | [] => rfl
  | a :: l => by simp only [List.map_cons, mapO, h, mapO_map h l]
theorem mapO_inv {α β : Type} {f : β → Option α} {g : α → β} (h : ∀ b a, f b = some a → b = g a) : ∀ {l : List β} {r : List α}, mapO f l = some r → l = r.map g
  | [], r, hl => by cases hl; rfl
  | b :: l, r, hl => by
    simp only [mapO] at hl
    cases hb : f b with
    | none => simp only [hb] at hl; cases hl
    | some a =>
      simp only [hb] at hl
      cases hr : mapO f l with
      | none => simp only [hr] at hl; cases hl
      | some r' =>
        simp only [hr, Option.some.injEq] at hl
        subst hl
        rw [h b a hb, mapO_inv h hr]
        rfl
theorem decI_enc (n : Int) : decI (encI n) = some n := rfl
theorem decI_inv (b : HV) (a : Int) (h : decI b = some a) : b = encI a := by
  unfold decI at h
  split at h
  · cases h; rfl
  · cases h
theorem idx_imm {t e k : Nat} {g : G} {la : List HV} {ik : IntKind} {n : Int} {v : HV} (ht : P.underlying t = some (.slice e)) (hs : tySize P e = some k) (h0 : 0 ≤ n) (h : la[n.toNat]? = some v) :
    idxV P t (.imm g k la) (.int ik n) = some (.vptr v) := by
  have hlt : n.toNat < la.length := lt_of_get h
  simp only [idxV, ht, hs, h]
  rw [if_pos ⟨h0, by omega, trivial⟩]
theorem idx_sl {t e k b len tot : Nat} {cap : Option Nat} {ik : IntKind} {n : Int} (ht : P.underlying t = some (.slice e)) (hs : tySize P e = some k) (h0 : 0 ≤ n) (h : n.toNat < len) :
    idxV P t (.sl b 0 len cap tot k) (.int ik n) = some (.ptr b n.toNat 0 tot) := by
  simp only [idxV, ht, hs]
  rw [if_pos ⟨h0, by omega, trivial⟩, Nat.zero_add]
theorem idx_arr {t e b i m tot : Nat} {ik : IntKind} {n : Int} (ht : P.underlying t = some (.array m e)) (hs : tySize P e = some 1) (h0 : 0 ≤ n) (h : n.toNat < m) :
    idxV P t (.ptr b i 0 tot) (.int ik n) = some (.ptr b i n.toNat tot) := by
  simp only [idxV, ht, hs]
  rw [if_pos ⟨h0, by omega⟩, Nat.zero_add, Nat.mul_one]
theorem elem_arr {t e m : Nat} {ik : IntKind} {n : Int} {cs : List HV} {v : HV} (ht : P.underlying t = some (.array m e)) (hs : tySize P e = some 1) (ha : tyAgg P e = false) (hu : (P.underlying e).isSome = true) (h0 : 0 ≤ n) (h : n.toNat < m) (hv : cs[n.toNat]? = some v) :
    elemV P t (.agg cs) (.int ik n) = some v := by
  simp only [elemV, ht, hs, partV, ha, hu]
  rw [if_pos ⟨h0, by omega⟩, Nat.mul_one, hv]
  simp

theorem load_cell {H : Heap} {t b i off tot k mx : Nat} {els cs : List HV} {w : Bool} {v : HV} (hb : H[b]? = some (.arr k els w mx)) (ht : tot = els.length) (hi : els[i]? = some (.agg cs)) (ha : tyAgg P t = false) (hu : (P.underlying t).isSome = true) (hv : cs[off]? = some v) :
    loadV P H t (.ptr b i off tot) = some v := by
  simp only [loadV, hb, hi, ht, if_true, cellsOf, partV, ha, hu, hv]
  simp
theorem load_elem {H : Heap} {t b i tot k mx : Nat} {els : List HV} {w : Bool} {v : HV} (hb : H[b]? = some (.arr k els w mx)) (ht : tot = els.length) (hi : els[i]? = some v) (hc : cellsOf v = [v]) (ha : tyAgg P t = false) (hu : (P.underlying t).isSome = true) :
    loadV P H t (.ptr b i 0 tot) = some v := by
  simp only [loadV, hb, hi, ht, if_true, hc, partV, ha, hu]
  simp
theorem load_agg {H : Heap} {t b i tot k mx : Nat} {els cs : List HV} {w : Bool} (hb : H[b]? = some (.arr k els w mx)) (ht : tot = els.length) (hi : els[i]? = some (.agg cs)) (ha : tyAgg P t = true) (hs : tySize P t = some cs.length) :
    loadV P H t (.ptr b i 0 tot) = some (.agg cs) := by
  simp only [loadV, hb, hi, ht, if_true, cellsOf, partV, ha, hs]
  simp
theorem splice_one {l : List HV} {off : Nat} {v : HV} (h : off < l.length) : splice l off [v] = l.set off v := by
  unfold splice
  rw [List.set_eq_take_append_cons_drop, if_pos h]
  simp
theorem splice_all {l c : List HV} (h : c.length = l.length) : splice l 0 c = c := by
  unfold splice
  simp [h]

theorem cellsOf_agg (cs : List HV) : cellsOf (.agg cs) = cs := rfl
theorem store_cell {H : Heap} {t b i off tot k mx : Nat} {els cs : List HV} {v : HV} (hb : H[b]? = some (.arr k els true mx)) (ht : tot = els.length) (hi : els[i]? = some (.agg cs)) (hs : tySize P t = some 1) (hc : cellsOf v = [v]) (hcv : cellV v = true) (hv : bnd v = 0) (ho : off < cs.length) :
    storeV P H t (.ptr b i off tot) v = some (H.set b (.arr k (els.set i (.agg (cs.set off v))) true mx)) := by
  simp only [storeV, hb, hi, ht, hs, hc, cellsOf_agg, List.length_singleton, hv]
  rw [if_pos ⟨trivial, trivial⟩, if_pos ⟨by omega, by simp [hcv], by omega⟩, splice_one ho, Nat.max_zero]
theorem store_elem {H : Heap} {t b i tot k mx : Nat} {els : List HV} {v old : HV} (hb : H[b]? = some (.arr k els true mx)) (ht : tot = els.length) (hi : els[i]? = some old) (ho : cellsOf old = [old]) (hna : ∀ cs, old ≠ .agg cs) (hs : tySize P t = some 1) (hc : cellsOf v = [v]) (hcv : cellV v = true) (hv : bnd v = 0) :
    storeV P H t (.ptr b i 0 tot) v = some (H.set b (.arr k (els.set i v) true mx)) := by
  simp only [storeV, hb, hi, ht, hs, hc, ho, List.length_singleton, hv]
  rw [if_pos ⟨trivial, trivial⟩, if_pos ⟨by omega, by simp [hcv], by omega⟩, Nat.max_zero]
theorem store_agg {H : Heap} {t b i tot k mx : Nat} {els cs new : List HV} (hb : H[b]? = some (.arr k els true mx)) (ht : tot = els.length) (hi : els[i]? = some (.agg cs)) (hs : tySize P t = some new.length) (hl : new.length = cs.length) (h0 : new.length ≠ 0) (hcv : new.all cellV = true) (hv : bndL new = 0) :
    storeV P H t (.ptr b i 0 tot) (.agg new) = some (H.set b (.arr k (els.set i (.agg new)) true mx)) := by
  simp only [storeV, hb, hi, ht, hs, cellsOf, bnd, hv]
  rw [if_pos ⟨trivial, trivial⟩, if_pos ⟨by omega, hcv, h0⟩, splice_all hl, Nat.max_zero]

theorem mapO_self {α : Type} {f : HV → Option HV} {g : α → HV} (h : ∀ a, f (g a) = some (g a)) : ∀ (l : List α), mapO f (l.map g) = some (l.map g)
  | [] => rfl
  | a :: l => by simp only [List.map_cons, mapO, h, mapO_self h l]
theorem frz_int {H : Heap} {no : List Nat} : ∀ (d : Nat) (b : Int), frz H no d (encI b) = some (encI b)
  | 0, _ => rfl
  | _ + 1, _ => rfl
theorem resCell_sl {H : Heap} {no : List Nat} {b k m mx : Nat} {cap : Option Nat} {els : List HV} (hb : H[b]? = some (.arr k els true mx)) (hm : els.length = m) (hf : mapO (frz H no 4) els = some els) : resCell H no false (.sl b 0 m cap m k) = some (.own k els) := by
  have hv : view H b 0 m m k = some els := by
    simp only [view, hb]
    rw [if_pos ⟨hm.symm, by omega, trivial⟩]
    simp [← hm]
  have hr : (resElem H no false) = frz H no 4 := by funext v; rfl
  simp only [resCell, hb, if_true, hv, hr, hf]

theorem makeV_ok {H : Heap} {t e k bt : Nat} {zv : HV} {n : Int} (ht : P.underlying t = some (.slice e)) (hI : (P.info? e).map (fun i => (i.size, i.bytes, i.zero.map ofConst)) = some (k, bt, some zv)) (hc : (cellsOf zv).all cellV = true) (hs : (cellsOf zv).length = k) (h0 : k ≠ 0) (hn : 0 ≤ n) (hb : (bt + 1 : Nat) * n ≤ (roomMax : Int)) :
    makeV P false t (.int .i64 n) (.int .i64 n) H = some (.sl H.length 0 n.toNat (some n.toNat) n.toNat k, H ++ [.arr k (List.replicate n.toNat zv) true 0]) := by
  cases hi : P.info? e with
  | none => rw [hi] at hI; cases hI
  | some i =>
    rw [hi] at hI
    simp only [Option.map_some, Option.some.injEq, Prod.mk.injEq] at hI
    obtain ⟨rfl, rfl, hz⟩ := hI
    cases hz2 : i.zero with
    | none => rw [hz2] at hz; cases hz
    | some z =>
      rw [hz2] at hz
      simp only [Option.map_some, Option.some.injEq] at hz
      subst hz
      simp only [makeV, ht, hi, hz2]
      rw [if_pos ⟨hn, Int.le_refl n, by simpa using hb⟩, if_pos ⟨hc, hs, h0⟩]
      cases P.underlying e with
      | none => rfl
      | some u => cases u <;> rfl

theorem app_sl {H : Heap} {k bytes b n mx : Nat} {els xs : List HV} (hb : H[b]? = some (.arr k els true mx)) (hn : els.length = n) (hx : xs ≠ []) (hr : (n + xs.length) * (bytes + 1) ≤ roomMax) (hv : bndL xs = 0) :
    appV H k bytes (.sl b 0 n none n k) xs = some (.sl b 0 (n + xs.length) none (n + xs.length) k, H.set b (.arr k (els ++ xs) true mx)) := by
  simp only [appV, if_neg hx, hb]
  rw [if_pos ⟨hn.symm, trivial, trivial, hr⟩]
  simp [hn, hv]
end
end Go.HL


/- Code that the ghost cannot run alone: what it may come to, told about the model itself; put together with runs. -/
namespace Go.HL
open Go.ChangeShapes Go.WideShapes Go.ChangeAt Go.RowKit
section
variable {P : Program} {pol : Pol} {f : FuncId}

def Trip (P : Program) (nt : Nat) (cd : Code) (e : Env) (H : Heap) (Q : X → Env → Heap → Prop) : Prop :=
  ∀ (lo : Nat) (c : Ctx) (w : World) (a : Act) (K : Exit → Act → World → Prop), c.H = H → Rel lo c w → RelE w c lo e a.tmps → nt ≤ a.tmps.size →
    (∀ x e' H', Q x e' H' → After lo c w a e' H' (K x.exit')) → cd.wp P K a w

theorem Trip.mono {nt : Nat} {cd : Code} {e : Env} {H : Heap} {Q Q' : X → Env → Heap → Prop} (h : Trip P nt cd e H Q) (hq : ∀ x e' H', Q x e' H' → Q' x e' H') : Trip P nt cd e H Q' :=
  fun lo c w a K hH hR he hn hK => h lo c w a K hH hR he hn fun x e' H' q => hK x e' H' (hq x e' H' q)

theorem After.restr {lo : Nat} {c : Ctx} {w : World} {a : Act} {e : Env} {H : Heap} {K : Act → World → Prop} (ks : List Nat) (h : After lo c w a (restr ks e) H K) : After lo c w a e H K :=
  fun c' w' a' k1 k2 k3 k4 k5 k6 => h c' w' a' k1 k2 (k3.restr ks) k4 k5 k6

theorem After.gc {lo : Nat} {c : Ctx} {w : World} {a : Act} {e : Env} {H' : Heap} {K : Act → World → Prop} {r : Nat} (hr : bndE e ≤ r) (h : After lo c w a e (gc c.H.length r H') K) : After lo c w a e H' K :=
  fun c' w' a' k1 k2 k3 k4 k5 k6 => by
    subst k1
    exact h (c'.cut (max c.H.length (max r (mxs c'.H)))) w' a' rfl (cut_rel k2 (by omega)) (k3.cut (by omega)) (k4.cut (by omega)) k5 k6

theorem Trip.run {nt : Nat} {cd : Code} {e E : Env} {H H' : Heap} {x : X} {ks : List Nat} (hm : P.follows .mixedOrders = true) (hS : ∀ n, CallSound P (callN P pol n)) (hok : codeOk nt (pol.quiet f) cd = true)
    (h : RunsTo P pol f cd e H x ks E H') : Trip P nt cd e H (fun x1 e1 H1 => x1 = x ∧ e1 = E ∧ H1 = H') := by
  intro lo c w a K hH hR he hn hK
  obtain ⟨m, h1⟩ := h
  obtain ⟨e1, h2, h3⟩ := h1 m m (Nat.le_refl _) (Nat.le_refl _)
  subst hH
  refine (evC_ok hm (hS m) m cd (codeOk_mono hn hok) hR he h2 ?_).1
  have := hK x E H' ⟨rfl, rfl, rfl⟩
  rw [← h3] at this
  exact this.restr ks

theorem Trip.seq {nt : Nat} {ca cb : Code} {e : Env} {H : Heap} {Q1 Q : X → Env → Heap → Prop} (h1 : Trip P nt ca e H Q1) (h2 : ∀ e1 H1, Q1 .normal e1 H1 → Trip P nt cb e1 H1 Q) (h3 : ∀ x e1 H1, x ≠ .normal → Q1 x e1 H1 → Q x e1 H1) :
    Trip P nt (.seq ca cb) e H Q := by
  intro lo c w a K hH hR he hn hK
  apply wp_seq
  refine h1 lo c w a _ hH hR he hn fun x e1 H1 q => ?_
  cases x with
  | normal =>
    intro c1 w1 a1 k1 k2 k3 k4 k5 k6
    refine h2 e1 H1 q lo c1 w1 a1 K k1 k2 k3 (by omega) fun x e2 H2 q2 c2 w2 a2 j1 j2 j3 j4 j5 j6 => ?_
    exact hK x e2 H2 q2 c2 w2 a2 j1 j2 j3 (k4.trans j4) (j5.trans k5) (j6.trans k6)
  | exit i =>
    intro c1 w1 a1 k1 k2 k3 k4 k5 k6
    exact hK _ e1 H1 (h3 _ e1 H1 (by simp) q) c1 w1 a1 k1 k2 k3 k4 k5 k6
  | ret =>
    intro c1 w1 a1 k1 k2 k3 k4 k5 k6
    exact hK _ e1 H1 (h3 _ e1 H1 (by simp) q) c1 w1 a1 k1 k2 k3 k4 k5 k6

theorem Trip.skip {nt : Nat} {e : Env} {H : Heap} {Q : X → Env → Heap → Prop} (h : Q .normal e H) : Trip P nt .skip e H Q := by
  intro lo c w a K hH hR he hn hK
  exact wp_skip (hK _ _ _ h c w a hH hR he (Evo.refl _ _ _) rfl rfl)

theorem Trip.exit {nt i : Nat} {e : Env} {H : Heap} {Q : X → Env → Heap → Prop} (h : Q (.exit i) e H) : Trip P nt (.exit i) e H Q := by
  intro lo c w a K hH hR he hn hK
  exact wp_exit (hK _ _ _ h c w a hH hR he (Evo.refl _ _ _) rfl rfl)

theorem Trip.cond {nt : Nat} {y : Operand} {t : Bool} {ca cb : Code} {e : Env} {H : Heap} {Q : X → Env → Heap → Prop} (hy : opVal e y = .bool t) (h : Trip P nt (if t then ca else cb) e H Q) : Trip P nt (.cond y ca cb) e H Q := by
  intro lo c w a K hH hR he hn hK
  have h1 := V_opVal he y
  rw [hy] at h1
  refine wp_cond (t := t) h1.bool_inv ?_
  have := h lo c w a K hH hR he hn hK
  cases t <;> exact this

theorem Trip.block {nt id : Nat} {b : Code} {e : Env} {H : Heap} {Q : X → Env → Heap → Prop} (h : Trip P nt b e H (fun x e' H' => Q (if x = .exit id then .normal else x) e' H')) : Trip P nt (.block id b) e H Q := by
  intro lo c w a K hH hR he hn hK
  apply wp_block
  refine h lo c w a _ hH hR he hn fun x e1 H1 q c1 w1 a1 k1 k2 k3 k4 k5 k6 => ?_
  cases x with
  | normal => exact hK _ _ _ q c1 w1 a1 k1 k2 k3 k4 k5 k6
  | ret => exact hK _ _ _ q c1 w1 a1 k1 k2 k3 k4 k5 k6
  | exit i =>
    show Exit.inBlock id K (.exit i) a1 w1
    simp only [Exit.inBlock]
    by_cases hi : i = id
    · subst hi
      rw [if_pos rfl]
      rw [if_pos rfl] at q
      exact hK _ _ _ q c1 w1 a1 k1 k2 k3 k4 k5 k6
    · rw [if_neg hi]
      rw [if_neg (by simpa using hi)] at q
      exact hK _ _ _ q c1 w1 a1 k1 k2 k3 k4 k5 k6

theorem Trip.loop {nt : Nat} {b : Code} {Q : X → Env → Heap → Prop} {I : Nat → Env → Heap → Prop}
    (h : ∀ n e H, I n e H → Trip P nt b e H (fun x e' H' => match x with | .normal => ∃ m ks r, m < n ∧ bndE (HL.restr ks e') ≤ r ∧ I m (HL.restr ks e') (gc H.length r H') | x => Q x e' H')) {n : Nat} {e : Env} {H : Heap} (hI : I n e H) : Trip P nt (.loop b) e H Q := by
  intro lo c w a K hH hR he hn hK
  have main : ∀ (k m : Nat) (e : Env) (H : Heap) (c : Ctx) (w : World) (a : Act), m < k → I m e H → c.H = H → Rel lo c w → RelE w c lo e a.tmps → nt ≤ a.tmps.size →
      (∀ x e' H', Q x e' H' → After lo c w a e' H' (K x.exit')) → Code.rounds P b K k a w := by
    intro k
    induction k with
    | zero => intro m _ _ _ _ _ hk; omega
    | succ k ih =>
      intro m e H c w a hk hI hH hR he hn hK
      rw [rounds_succ]
      refine h m e H hI lo c w a _ hH hR he hn fun x e1 H1 q => ?_
      cases x with
      | normal =>
        obtain ⟨m', ks, r, hm', hr, hI'⟩ := q
        rw [← hH] at hI'
        refine After.restr ks (After.gc (r := r) hr ?_)
        intro c1 w1 a1 k1 k2 k3 k4 k5 k6
        show Code.rounds P b K k a1 w1
        refine ih m' _ _ c1 w1 a1 (by omega) hI' k1 k2 k3 (by omega) fun x e2 H2 q2 c2 w2 a2 j1 j2 j3 j4 j5 j6 => ?_
        exact hK x e2 H2 q2 c2 w2 a2 j1 j2 j3 (k4.trans j4) (j5.trans k5) (j6.trans k6)
      | exit i => exact fun c1 w1 a1 k1 k2 k3 k4 k5 k6 => hK _ _ _ q c1 w1 a1 k1 k2 k3 k4 k5 k6
      | ret => exact fun c1 w1 a1 k1 k2 k3 k4 k5 k6 => hK _ _ _ q c1 w1 a1 k1 k2 k3 k4 k5 k6
  exact wp_loop_rounds (n + 1) (main (n + 1) n e H c w a (by omega) hI hH hR he hn hK)

/-! ### Regions in any order -/

def OrdT (P : Program) (pol : Pol) (f : FuncId) (rg : Nat) (ops : Array Oper) (asg : List Nat) (call : CallFn) (Q : Env → Heap → Prop) : Nat → Array Bool → Env → Heap → Prop
  | 0, listed, e, H => Region.ready .any ops listed = [] ∧ Q e H
  | n + 1, listed, e, H => (Region.ready .any ops listed = [] → Q e H) ∧ ∀ i ∈ Region.ready .any ops listed, ∃ o, ops[i]? = some o ∧
      ((wantedV ops o e = some true ∧ ∃ v H1, evOp P pol f rg asg call o e H = some (v, H1) ∧ OrdT P pol f rg ops asg call Q n (listed.setIfInBounds i true) (e.put o.dst v) H1) ∨
       (wantedV ops o e = some false ∧ OrdT P pol f rg ops asg call Q n (listed.setIfInBounds i true) (e.put o.dst (.tuple [])) H))

theorem ordT_ok {rg : Nat} {ops : Array Oper} {asg : List Nat} {call : CallFn} {Qe : Env → Heap → Prop} {Q : Exit → Act → World → Prop} {lo : Nat} (hC : CallSound P call) :
    ∀ (n : Nat) (listed : Array Bool) {c : Ctx} {w : World} {a : Act} {e : Env}, Rel lo c w → RelE w c lo e a.tmps → dstsOk a.tmps.size ops = true →
      OrdT P pol f rg ops asg call Qe n listed e c.H → (∀ e' H', Qe e' H' → After lo c w a e' H' (Q .normal)) → wpAny P .any ops Q n listed a w
  | 0, listed, c, w, a, e, hR, he, hd, h, hK => ⟨h.1, hK e c.H h.2 c w a rfl hR he (Evo.refl _ _ _) rfl rfl⟩
  | n + 1, listed, c, w, a, e, hR, he, hd, h, hK => by
    refine ⟨fun hq => hK e c.H (h.1 hq) c w a rfl hR he (Evo.refl _ _ _) rfl rfl, fun i hi => ?_⟩
    obtain ⟨o, hio, hh⟩ := h.2 i hi
    unfold wpOp
    simp only [hio]
    rcases hh with ⟨hw, v, H1, hev, hn⟩ | ⟨hw, hn⟩
    · rw [wantedV_ok hw he]
      simp only [if_true]
      refine .inl (evOp_ok hC hR he hev fun c1 w1 rv k1 k2 k3 k4 => ?_)
      subst k1
      refine ordT_ok hC n _ k2 ((he.evo k4).put k3 (dstsOk_at hd hio)) (by rw [put_size]; exact hd) hn fun e' H' q => ?_
      intro c' w' a' g1 g2 g3 g4 g5 g6
      exact hK e' H' q c' w' a' g1 g2 g3 (k4.trans g4) (g5.trans (put_defers' _ _ _)) (g6.trans (put_size _ _ _))
    · rw [wantedV_ok hw he]
      simp only [Bool.false_eq_true, if_false]
      refine ordT_ok hC n _ hR (he.put (.tuple [] #[] rfl (by simp)) (dstsOk_at hd hio)) (by rw [put_size]; exact hd) hn fun e' H' q => ?_
      intro c' w' a' g1 g2 g3 g4 g5 g6
      exact hK e' H' q c' w' a' g1 g2 g3 g4 (g5.trans (put_defers' _ _ _)) (g6.trans (put_size _ _ _))

theorem Trip.region {rg nt : Nat} {ops : Array Oper} {asg : List Nat} {k : Nat} {e : Env} {H : Heap} {Qe : Env → Heap → Prop} (hm : P.follows .mixedOrders = true) (hS : ∀ n, CallSound P (callN P pol n)) (hok : dstsOk nt ops = true)
    (h : OrdT P pol f rg ops asg (callN P pol k) Qe ops.size (Array.replicate ops.size false) e H) : Trip P nt (.region rg ops true) e H (fun x e' H' => x = .normal ∧ Qe e' H') := by
  intro lo c w a K hH hR he hn hK
  subst hH
  obtain ⟨hR1, hE1⟩ := world_ok hR (WChg.drew w)
  apply wp_region_any hm
  refine ordT_ok (hS k) ops.size _ (c := c) (w := w.drew) (lo := lo) hR1 (he.evo hE1) (dstsOk_mono hn hok) h fun e' H' q => ?_
  intro c' w' a' k1 k2 k3 k4 k5 k6
  exact hK .normal e' H' ⟨rfl, q⟩ c' w' a' k1 k2 k3 (hE1.trans k4) k5 k6

def evAny (P : Program) (pol : Pol) (f : FuncId) (rg : Nat) (ops : Array Oper) (asg : List Nat) (call : CallFn) : Nat → Array Bool → Env → Heap → Option (List (Env × Heap))
  | 0, listed, e, H => match Region.ready .any ops listed with | [] => some [(e, H)] | _ => none
  | n + 1, listed, e, H =>
    match Region.ready .any ops listed with
    | [] => some [(e, H)]
    | l =>
      match mapO (fun i =>
        match ops[i]? with
        | none => none
        | some o =>
          match wantedV ops o e with
          | some true => match evOp P pol f rg asg call o e H with | some (v, H1) => evAny P pol f rg ops asg call n (listed.setIfInBounds i true) (e.put o.dst v) H1 | none => none
          | some false => evAny P pol f rg ops asg call n (listed.setIfInBounds i true) (e.put o.dst (.tuple [])) H
          | none => none) l with
      | some L => some L.flatten
      | none => none

theorem mapO_mem {α β : Type} {g : α → Option β} : ∀ {l : List α} {L : List β}, mapO g l = some L → ∀ x ∈ l, ∃ y, g x = some y ∧ y ∈ L
  | [], _, _, x, hx => by cases hx
  | a :: l, L, h, x, hx => by
    unfold mapO at h
    split at h
    · cases h
    rename_i y hy
    split at h
    · cases h
    rename_i ys hys
    cases h
    cases hx with
    | head => exact ⟨y, hy, by simp⟩
    | tail _ hx =>
      obtain ⟨z, h1, h2⟩ := mapO_mem hys x hx
      exact ⟨z, h1, by simp [h2]⟩

theorem evAny_ok {rg : Nat} {ops : Array Oper} {asg : List Nat} {call : CallFn} {Q : Env → Heap → Prop} : ∀ (n : Nat) (listed : Array Bool) (e : Env) (H : Heap) {outs : List (Env × Heap)},
    evAny P pol f rg ops asg call n listed e H = some outs → (∀ p ∈ outs, Q p.1 p.2) → OrdT P pol f rg ops asg call Q n listed e H
  | 0, listed, e, H, outs, h, hq => by
    unfold evAny at h
    split at h
    · rename_i hr
      cases h
      exact ⟨hr, hq (e, H) (by simp)⟩
    · cases h
  | n + 1, listed, e, H, outs, h, hq => by
    unfold evAny at h
    split at h
    · rename_i hr
      cases h
      exact ⟨fun _ => hq (e, H) (by simp), fun i hi => by rw [hr] at hi; cases hi⟩
    · rename_i hr
      split at h
      rotate_left
      · cases h
      rename_i L hL
      cases h
      refine ⟨fun hq' => absurd hq' hr, fun i hi => ?_⟩
      obtain ⟨y, h1, h2⟩ := mapO_mem hL i hi
      have hy : ∀ p ∈ y, Q p.1 p.2 := fun p hp => hq p (List.mem_flatten.2 ⟨y, h2, hp⟩)
      split at h1
      · cases h1
      rename_i o ho
      refine ⟨o, ho, ?_⟩
      split at h1
      · rename_i hw
        split at h1
        · rename_i v H1 hev
          exact .inl ⟨hw, v, H1, hev, evAny_ok n _ _ _ h1 hy⟩
        · cases h1
      · rename_i hw
        exact .inr ⟨hw, evAny_ok n _ _ _ h1 hy⟩
      · cases h1

def regOps : Code → Array Oper
  | .region _ ops _ => ops
  | _ => #[]
theorem Trip.any {rg nt : Nat} {cd : Code} {ks : List Nat} {e : Env} {H : Heap} {outs : List (Env × Heap)} {Q : Env → Heap → Prop} (hm : P.follows .mixedOrders = true) (hS : ∀ n, CallSound P (callN P pol n)) (hc : cd = .region rg (regOps cd) true) (hok : dstsOk nt (regOps cd) = true)
    (h : (evAny P pol f rg (regOps cd) (asgTmps (regOps cd).toList) (callN P pol 0) (regOps cd).size (Array.replicate (regOps cd).size false) e H).map (fun l => l.map fun p => (HL.restr ks p.1, p.2)) = some outs) (hq : ∀ p ∈ outs, Q p.1 p.2) :
    Trip P nt cd e H (fun x e' H' => x = .normal ∧ Q e' H') := by
  cases hx : evAny P pol f rg (regOps cd) (asgTmps (regOps cd).toList) (callN P pol 0) (regOps cd).size (Array.replicate (regOps cd).size false) e H with
  | none => rw [hx] at h; cases h
  | some l =>
    rw [hx] at h
    have h2 : l.map (fun p => (HL.restr ks p.1, p.2)) = outs := Option.some.inj h
    have h3 : Trip P nt (.region rg (regOps cd) true) e H (fun x e' H' => x = .normal ∧ Q (HL.restr ks e') H') :=
      Trip.region (Qe := fun e' H' => Q (HL.restr ks e') H') hm hS hok (evAny_ok _ _ _ _ hx fun p hp => hq (HL.restr ks p.1, p.2) (by rw [← h2]; exact List.mem_map.2 ⟨p, hp, rfl⟩))
    rw [hc]
    intro lo c w a K hH hR he hn hK
    refine h3 lo c w a K hH hR he hn ?_
    rintro x e' H' ⟨rfl, hq'⟩
    exact (hK .normal (HL.restr ks e') H' ⟨rfl, hq'⟩).restr ks

theorem Trip.seqR {nt : Nat} {cd ca cb : Code} {e E : Env} {H H1 : Heap} {ks : List Nat} {Q : X → Env → Heap → Prop} (h1 : RunsTo P pol f ca e H .normal ks E H1) (hm : P.follows .mixedOrders = true) (hS : ∀ n, CallSound P (callN P pol n)) (hok : codeOk nt (pol.quiet f) ca = true)
    (hc : cd = .seq ca cb) (h2 : Trip P nt cb E H1 Q) : Trip P nt cd e H Q := by
  rw [hc]
  refine Trip.seq (Trip.run hm hS hok h1) ?_ ?_
  · rintro e1 H1 ⟨_, rfl, rfl⟩; exact h2
  · rintro x e1 H1 hx ⟨rfl, _, _⟩; exact absurd rfl hx

/-! ### Calls -/

def CallT (P : Program) (g : FuncId) (args : List HV) (H : Heap) (Q : HV → Heap → Prop) : Prop :=
  ∀ (c : Ctx) (w : World) (lo : Nat) (rargs : Array Value), c.H = H → Rel lo c w → args.length = rargs.size →
    (∀ (i : Nat) (v : HV) (x : Value), args[i]? = some v → rargs[i]? = some x → V w (okOf c lo) c v x) →
    Calls P g rargs w fun e w' => ∃ rv c' r, Q r c'.H ∧ e = .returned rv ∧ Rel lo c' w' ∧ V w' (okOf c' lo) c' r rv ∧ Evo lo c w c' w'

theorem CallT.body {g : FuncId} {fn : Func} {cd : Code} {args : List HV} {H : Heap} {Q1 : X → Env → Heap → Prop} {Q : HV → Heap → Prop} (hf : P.funcs[g]? = some fn) (hb : fn.body = some cd)
    (h : Trip P fn.ntmps cd (args0 args) H Q1) (hQ : ∀ x e H', Q1 x e H' → (∀ i, x ≠ .exit i) ∧ ∃ v, resultsV P fn e H' = some v ∧ Q v (gc H.length (bnd v) H')) : CallT P g args H Q := by
  intro c w lo rargs hH hR hl hV
  refine calls_of_wp hf hb ?_
  refine h lo c w { tmps := rargs ++ Array.replicate (fn.ntmps - rargs.size) undef, defers := [] } _ hH hR (RelE_args hl hV) (by simp; omega) fun x e1 H1 q c1 w1 a1 k1 k2 k3 k4 k5 k6 => ?_
  subst k1
  obtain ⟨hx, v, hv, hQv⟩ := hQ x e1 _ q
  obtain ⟨rv, r1, r2⟩ := results_ok k2 k3 hv
  rw [← hH] at hQv
  have fin : ∃ rv' c' r, Q r c'.H ∧ Ending.returned rv = Ending.returned rv' ∧ Rel lo c' w1 ∧ V w1 (okOf c' lo) c' r rv' ∧ Evo lo c w c' w1 :=
    ⟨rv, c1.cut (max c.H.length (max (bnd v) (mxs c1.H))), v, hQv, rfl, cut_rel k2 (by omega), r2.cut (by omega), k4.cut (by omega)⟩
  cases x with
  | normal => exact ⟨k5, rv, r1, fin⟩
  | ret => exact ⟨k5, rv, r1, fin⟩
  | exit i => exact absurd rfl (hx i)

theorem primOk_trip {g : FuncId} {fn : Func} {cd : Code} {deep : Bool} {F : List HV → Option HV} (hf : P.funcs[g]? = some fn) (hb : fn.body = some cd)
    (h : ∀ (args : List HV) (res : HV), F args = some res → Trip P fn.ntmps cd (args0 args) [] (fun x e H' => (∀ i, x ≠ .exit i) ∧ ∃ v, resultsV P fn e H' = some v ∧ toRes H' deep v = some res)) : PrimOk P g F := by
  intro args res hF c w lo rargs hR hl hV
  refine Calls.mono (calls_of_wp (R := fun ex w2 => ∃ rv c2 v, toRes c2.H deep v = some res ∧ ex = .returned rv ∧ Rel w.heap.size c2 w2 ∧ V w2 (okOf c2 w.heap.size) c2 v rv ∧ Evo w.heap.size Ctx.nil w c2 w2) hf hb ?_) ?_
  · refine h args res hF w.heap.size Ctx.nil w { tmps := rargs ++ Array.replicate (fn.ntmps - rargs.size) undef, defers := [] } _ rfl (Rel.nil w) (RelE_args hl hV) (by simp; omega) fun x e1 H1 q c1 w1 a1 k1 k2 k3 k4 k5 k6 => ?_
    subst k1
    obtain ⟨hx, v, hv, hQv⟩ := q
    obtain ⟨rv, r1, r2⟩ := results_ok k2 k3 hv
    have fin : ∃ rv' c2 v, toRes c2.H deep v = some res ∧ Ending.returned rv = Ending.returned rv' ∧ Rel w.heap.size c2 w1 ∧ V w1 (okOf c2 w.heap.size) c2 v rv' ∧ Evo w.heap.size Ctx.nil w c2 w1 := ⟨rv, c1, v, hQv, rfl, k2, r2, k4⟩
    cases x with
    | normal => exact ⟨k5, rv, r1, fin⟩
    | ret => exact ⟨k5, rv, r1, fin⟩
    | exit i => exact absurd rfl (hx i)
  · rintro ex w2 ⟨rv, c2, v, k1, rfl, k2, k3, k4⟩
    obtain ⟨c', j1, j2, j3, j4⟩ := recv_ok hR (WChg.of_nil k4) k2 k3 k1
    exact ⟨rv, c', rfl, j1, j2, j3, j4⟩

theorem law_callsT {g : FuncId} {args : List HV} {rargs : Array Value} {W : World} (hl : args.length = rargs.size)
    (hV : ∀ (i : Nat) (v : HV) (x : Value), args[i]? = some v → rargs[i]? = some x → V W (okOf Ctx.nil W.heap.size) Ctx.nil v x) (h : CallT P g args [] (fun r _ => r = .bool true)) :
    Calls P g rargs W fun e W' => e = .returned (.bool true) ∧ Below W.heap.size W W' := by
  refine Calls.mono (h Ctx.nil W W.heap.size rargs rfl (Rel.nil W) hl hV) ?_
  rintro e w' ⟨rv, c', r, rfl, rfl, _, hv, hE⟩
  exact ⟨by rw [hv.bool_inv], below_of_nil hE⟩

end
end Go.HL


