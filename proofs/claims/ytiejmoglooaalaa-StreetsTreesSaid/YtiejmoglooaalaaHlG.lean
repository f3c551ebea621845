/- The library's sort of numbers, told with its memory. -/
import Derived.Test.YtiejmoglooaalaaHlE
import Derived.Sort.Grow
set_option linter.unusedVariables false
set_option linter.unusedSimpArgs false
set_option linter.unnecessarySimpa false
/- The library's sort of numbers, told with its memory. -/
open List renaming getElem?_eq_getElem → qA, length_map → qB, pairwise_mergeSort → qC
namespace Go.HL
open Go.Sort
variable {P:Program}

def Vo:List HV→Option (List Int)
 | []=>some []
 | .int .i64 x::l=>(Vo l).map (x::·)
 | _=>none
theorem Vp:∀{l:List HV} {xs:List Int},Vo l=some xs→l=xs.map (HV.int .i64)
 | [],xs,h=>by cases h;rfl
 | v::l,xs,h=>by
  unfold Vo at h
  split at h
  ·rename_i e;cases e
  ·rename_i x l' e
   cases e
   cases h2:Vo l with
   | none=>rw [h2] at h;cases h
   | some ys =>
    rw [h2] at h
    cases h
    rw [List.map_cons,← Vp h2]
  ·cases h
def QcQ (x:Int):List Int→List Int
 | []=>[x]
 | y::l=>if x≤y then x::y::l else y::QcQ x l
def srt (l:List Int):List Int:=l.foldr QcQ []
theorem Sj {x:Int} {b:List Int} (hb:∀y∈b,x≤y):∀{a:List Int},(∀y∈a,¬x≤y)→QcQ x (a++b)=a++x::b
 | [],_=>by
  cases b with
  | nil=>rfl
  | cons y b=>rw [List.nil_append,QcQ,if_pos (hb y (List.mem_cons_self ..))];rfl
 | y::a,h=>by
  rw [List.cons_append,QcQ,if_neg (h y (List.mem_cons_self ..)),Sj hb fun z hz=>h z (List.mem_cons_of_mem _ hz)];rfl
theorem UR:∀l:List Int,l.mergeSort (fun x y=>decide (x≤y))=srt l
 | []=>List.mergeSort_nil
 | x::l=>by
  have tr:∀a b c:Int,decide (a≤b)=true→decide (b≤c)=true→decide (a≤c)=true:=fun a b c h1 h2=>decide_eq_true (Int.le_trans (of_decide_eq_true h1) (of_decide_eq_true h2))
  have to:∀a b:Int,(decide (a≤b)||decide (b≤a))=true:=fun a b=>by
   rw [Bool.or_eq_true,decide_eq_true_eq,decide_eq_true_eq];omega
  obtain ⟨a,b,h1,h2,h3⟩:=List.mergeSort_cons tr to x l
  have hp:=qC tr to (x::l)
  rw [h1] at hp
  have hb:∀y∈b,x≤y:=fun y hy=>of_decide_eq_true ((List.pairwise_cons.1 (List.pairwise_append.1 hp).2.1).1 y hy)
  have ha:∀y∈a,¬x≤y:=fun y hy h=>by
   have:=h3 y hy
   rw [decide_eq_true h] at this
   cases this
  rw [h1,srt,List.foldr_cons]
  show _=QcQ x (srt l)
  rw [← UR l,h2,Sj hb ha]
theorem G2 (l:List Int):(srt l).length=l.length:=by rw [← UR];exact List.length_mergeSort ..
theorem QdH (l:List Int):(srt l).Perm l:=by rw [← UR];exact List.mergeSort_perm ..
theorem QdI (l:List Int):(srt l).Pairwise fun x y=>x≤y:=by
 rw [← UR]
 have tr:∀a b c:Int,decide (a≤b)=true→decide (b≤c)=true→decide (a≤c)=true:=fun a b c h1 h2=>decide_eq_true (Int.le_trans (of_decide_eq_true h1) (of_decide_eq_true h2))
 have to:∀a b:Int,(decide (a≤b)||decide (b≤a))=true:=fun a b=>by
  rw [Bool.or_eq_true,decide_eq_true_eq,decide_eq_true_eq];omega
 exact (qC tr to l).imp fun h=>of_decide_eq_true h
def D8:List HV→Heap→Option (HV×Heap)
 | [.sl b 0 n _ tot 1],H =>
  match H[b]? with
  | some (.arr 1 els true mx) =>
   match Vo els with
   | some l=>if l.length=n∧tot=n∧n≤1000000 then some (.tuple [],H.set b (.arr 1 ((srt l).map (HV.int .i64)) true mx)) else none
   | none=>none
  | _=>none
 | _,_=>none
def Qbz (P:Program) (g:FuncId):Prop :=
 (∀(blk off cap:Nat) (zs:List Int) (w:World),Holds (Value.int .i64) w blk off zs.toArray→blk<w.heap.size→zs.length<4611686018427387904 →
  Calls P g #[.slice (some ⟨blk,off,none⟩) zs.length cap] w fun e w'=>e=.returned (.tuple #[])∧∃n os,w'=grow (putRow (Value.int .i64) (Go.Sort.ahead w n) blk off (zs.mergeSort fun x y=>decide (x≤y)).toArray) os) ∧
 (∀(p:Option Addr) (cap:Nat) (w:World),Calls P g #[.slice p 0 cap] w fun e w'=>e=.returned (.tuple #[])∧w'=w)
theorem D9 (w:World) (n:Nat):WChg w (Go.Sort.ahead w n) none:=⟨rfl,rfl,rfl,Nat.le_refl _,fun _ _ _=>rfl,fun _ cs T fz h=>⟨cs,T,fz,h,rfl⟩,Nat.le_add_right _ _⟩
theorem Sk (w:World) (os:Array Obj):WChg w (grow w os) none:=by
 have hk:∀r:Nat,r<w.heap.size→(grow w os).heap[r]?=w.heap[r]?:=fun r hr=>by
  show (w.heap++os)[r]?=_
  rw [Array.getElem?_append_left hr]
 exact ⟨rfl,rfl,rfl,by rw [size_grow];omega,fun r hr _=>hk r hr,fun r cs T fz h=>⟨cs,T,fz,(hk r (ZW h)).trans h,rfl⟩,Nat.le_refl _⟩
theorem KG {α:Type} [Inhabited α] {enc:α→Value} {w:World} {r:Nat} {cs:Array Value} {T:TypeId} {fz:Nat×Nat} (h:w.heap[r]?=some (.cells cs T fz)) (d:Array α):putRow enc w r 0 d=w.setRow r (putCells enc 0 d cs):=by
 unfold putRow
 rw [mapBlock_congr w r _ (fun _=>putCells enc 0 d cs) fun c e fr h2=>by rw [h] at h2;cases h2;rfl]
 unfold mapBlock World.setRow
 have:onCells (fun _=>putCells enc 0 d cs)=fun x=>match x with | .cells _ elem frozen=>.cells (putCells enc 0 d cs) elem frozen | o=>o:=by
  funext o
  cases o <;> rfl
 rw [this]
 rfl
theorem Sl {g:FuncId} (hS:Qbz P g):Yg P g D8:=by
 intro args c r H' h w lo rargs hR hl hV
 unfold D8 at h
 split at h
 case h_2=>cases h
 rename_i b n cap tot
 split at h
 case h_2=>cases h
 rename_i els mx hb
 split at h
 case h_2=>cases h
 rename_i l hi
 split at h
 case isFalse=>cases h
 rename_i hc
 obtain ⟨hc1,rfl,hc2⟩:=hc
 simp only [Option.some.injEq,Prod.mk.injEq] at h
 obtain ⟨rfl,rfl⟩:=h
 have hels:=Vp hi
 obtain ⟨x,rfl⟩:∃x,rargs = #[x]:=by
  match rargs,hl with
  | ⟨[x]⟩,_=>exact ⟨x,rfl⟩
 have hx:=hV 0 _ x rfl rfl
 cases hx with
 | sl _ _ _ _ _ _ a cap' hs =>
  obtain ⟨h1,h2,h3,blk,hb',h4⟩:=hs
  rw [hb] at hb';cases hb'
  obtain ⟨h5,h6⟩:=h4
  have hlen:els.length=l.length:=by rw [hels,qB]
  obtain ⟨_,h6⟩:=h6 (by omega)
  obtain ⟨he,hrow⟩:=W0 hR hb
  by_cases hn:tot=0
  ·subst hn
   have hl0:l=[]:=List.eq_nil_of_length_eq_zero hc1
   subst hl0
   refine (hS.2 a cap' w).mono ?_
   rintro e w' ⟨rfl,rfl⟩
   refine ⟨_,c,rfl,?_,hR,?_,Evo.refl _ _ _⟩
   ·have:els=[]:=by rw [hels];rfl
    subst this
    refine (List.ext_getElem? fun i=>?_).symm
    by_cases hib:i=b
    ·subst hib
     rw [List.getElem?_set_self (QH hb),hb,show srt []=[] from rfl];rfl
    ·rw [List.getElem?_set_ne (by omega)]
   ·exact .tuple _ _ rfl (fun i v x h=>by simp at h)
  ·rcases hrow with ⟨hn1,_⟩ | ⟨r,cs,T,hσ,hlo,hw,hrow⟩
   ·rw [hn1] at h6
    exact absurd h6.1 hn
   rw [hσ] at h6
   obtain ⟨ha,_⟩:=h6
   have ha:=ha (by omega)
   subst ha
   have hcell:∀j:Nat,j<l.length→cs[j]?=some (.int .i64 (l.getD j 0)):=fun j hj=>by
    have hj2:els[j]?=some (.int .i64 (l.getD j 0)):=by
     rw [hels,List.getElem?_map,qA hj]
     simp [List.getD,qA hj]
    obtain ⟨y,y1,y2⟩:=hrow.2.2 j _ 0 (.int .i64 (l.getD j 0)) hj2 rfl
    cases y2
    simpa using y1
   have hold:Holds (Value.int .i64) w r 0 l.toArray:=fun j hj=>by
    have hj:j<l.length:=by simpa using hj
    constructor
    ·unfold World.cell?
     simp only [hw,Option.isSome_none,Bool.false_eq_true,if_false,Nat.zero_add]
     rw [hcell j hj]
     congr 2
     simp [List.getD,qA hj,hj]
    ·unfold World.frozen?
     simp only [hw]
     simp
   have hcall:=hS.1 r 0 cap' l w hold (hR.dom b r hσ).2 (by omega)
   rw [hc1,UR] at hcall
   rw [Nat.zero_mul]
   refine hcall.mono ?_
   rintro e w' ⟨rfl,k,os,rfl⟩
   obtain ⟨a1,a2⟩:=Jk hR (D9 w k)
   have hw1:(Go.Sort.ahead w k).heap[r]?=some (Obj.cells cs T (0,0)):=hw
   rw [KG hw1]
   have hrow1:RowOk (Go.Sort.ahead w k) (Qk c lo) c 1 ((srt l).map (HV.int .i64)) (putCells (Value.int .i64) 0 (srt l).toArray cs).toList:=by
    have hs0:=hrow.1
    refine ⟨?_,fun v hv=>?_,fun i v j x hi hj=>?_⟩
    ·simp only [putCells,Array.length_toList,Array.size_mapIdx,qB,G2]
     rw [hlen] at hs0
     simpa using hs0
    ·obtain ⟨x,_,rfl⟩:=List.mem_map.1 hv
     rfl
    ·rw [List.getElem?_map] at hi
     cases hz:(srt l)[i]? with
     | none=>rw [hz] at hi;cases hi
     | some z =>
      rw [hz] at hi
      cases hi
      obtain ⟨rfl,rfl⟩:j=0∧x=.int .i64 z:=by
       match j,hj with
       | 0,hj=>exact ⟨rfl,(Option.some.inj hj).symm⟩
      have hil:i<(srt l).length:=Qi hz
      have hlt:i<cs.size:=by
       have:=G2 l
       rw [Nat.mul_one,hlen] at hs0
       have:cs.toList.length=cs.size:=by simp
       omega
      refine ⟨.int .i64 z,?_,.int _ _⟩
      rw [Nat.mul_one,Nat.add_zero,Array.getElem?_toList]
      simp only [putCells,Array.getElem?_mapIdx,Array.getElem?_eq_getElem hlt,Option.map_some]
      rw [if_pos ⟨Nat.zero_le _,by simpa using hil⟩,Nat.sub_zero]
      congr 2
      rw [qA hil] at hz
      have hz:=Option.some.inj hz
      simp [hil,hz]
   obtain ⟨r1,r2⟩:=W8 (els':=(srt l).map (HV.int .i64)) (mx':=mx) a1 hb hσ hw1
    (fun v hv=>by
     obtain ⟨x,_,rfl⟩:=List.mem_map.1 hv
     exact ⟨rfl,rfl,by simp [bnd]⟩) hrow1 (by simp [putCells]) (by rw [qB,G2,hlen];exact Nat.le_refl _)
   rw [Array.toArray_toList] at r1 r2
   obtain ⟨g1,g2⟩:=Jk r1 (Sk _ os)
   exact ⟨_,_,rfl,rfl,g1,.tuple _ _ rfl (fun i v x h=>by simp at h),a2.trans (r2.trans g2)⟩
end Go.HL


