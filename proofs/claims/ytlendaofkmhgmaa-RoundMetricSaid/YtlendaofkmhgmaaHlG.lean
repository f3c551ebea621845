/- The library's sort of numbers, told with its memory. -/
import Derived.Test.YtlendaofkmhgmaaHlE
import Derived.Sort.Grow
set_option linter.unusedVariables false
set_option linter.unusedSimpArgs false
set_option linter.unnecessarySimpa false
/- The library's sort of numbers, told with its memory. -/
open List renaming pairwise_mergeSort → qA
namespace Go.HL
open Go.Sort
variable {P:Program}

def V1:List HV→Option (List Int)
 | []=>some []
 | .int .i64 x::l=>(V1 l).map (x::·)
 | _=>none
theorem Yt:∀{l:List HV} {xs:List Int},V1 l=some xs→l=xs.map (HV.int .i64)
 | [],xs,h=>by cases h;rfl
 | v::l,xs,h=>by
  unfold V1 at h
  split at h
  ·rename_i e;cases e
  ·rename_i x l' e
   cases e
   cases h2:V1 l with
   | none=>rw [h2] at h;cases h
   | some ys =>
    rw [h2] at h
    cases h
    rw [List.map_cons,← Yt h2]
  ·cases h
def Qbd (x:Int):List Int→List Int
 | []=>[x]
 | y::l=>if x≤y then x::y::l else y::Qbd x l
def srt (l:List Int):List Int:=l.foldr Qbd []
theorem G8 {x:Int} {b:List Int} (hb:∀y∈b,x≤y):∀{a:List Int},(∀y∈a,¬x≤y)→Qbd x (a++b)=a++x::b
 | [],_=>by
  cases b with
  | nil=>rfl
  | cons y b=>rw [List.nil_append,Qbd,if_pos (hb y (List.mem_cons_self ..))];rfl
 | y::a,h=>by
  rw [List.cons_append,Qbd,if_neg (h y (List.mem_cons_self ..)),G8 hb fun z hz=>h z (List.mem_cons_of_mem _ hz)];rfl
theorem Ur:∀l:List Int,l.mergeSort (fun x y=>decide (x≤y))=srt l
 | []=>List.mergeSort_nil
 | x::l=>by
  have tr:∀a b c:Int,decide (a≤b)=true→decide (b≤c)=true→decide (a≤c)=true:=fun a b c h1 h2=>decide_eq_true (Int.le_trans (of_decide_eq_true h1) (of_decide_eq_true h2))
  have to:∀a b:Int,(decide (a≤b)||decide (b≤a))=true:=fun a b=>by
   rw [Bool.or_eq_true,decide_eq_true_eq,decide_eq_true_eq];omega
  obtain ⟨a,b,h1,h2,h3⟩:=List.mergeSort_cons tr to x l
  have hp:=qA tr to (x::l)
  rw [h1] at hp
  have hb:∀y∈b,x≤y:=fun y hy=>of_decide_eq_true ((List.pairwise_cons.1 (List.pairwise_append.1 hp).2.1).1 y hy)
  have ha:∀y∈a,¬x≤y:=fun y hy h=>by
   have:=h3 y hy
   rw [decide_eq_true h] at this
   cases this
  rw [h1,srt,List.foldr_cons]
  show _=Qbd x (srt l)
  rw [← Ur l,h2,G8 hb ha]
theorem YK (l:List Int):(srt l).length=l.length:=by rw [← Ur];exact List.length_mergeSort ..
theorem Qca (l:List Int):(srt l).Perm l:=by rw [← Ur];exact List.mergeSort_perm ..
theorem Qcb (l:List Int):(srt l).Pairwise fun x y=>x≤y:=by
 rw [← Ur]
 have tr:∀a b c:Int,decide (a≤b)=true→decide (b≤c)=true→decide (a≤c)=true:=fun a b c h1 h2=>decide_eq_true (Int.le_trans (of_decide_eq_true h1) (of_decide_eq_true h2))
 have to:∀a b:Int,(decide (a≤b)||decide (b≤a))=true:=fun a b=>by
  rw [Bool.or_eq_true,decide_eq_true_eq,decide_eq_true_eq];omega
 exact (qA tr to l).imp fun h=>of_decide_eq_true h
end Go.HL


