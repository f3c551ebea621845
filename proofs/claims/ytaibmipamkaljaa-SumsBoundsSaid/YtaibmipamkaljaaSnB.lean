/- A part of the proof. -/
import Derived.Test.YtaibmipamkaljaaSnA
set_option linter.unusedVariables false
set_option linter.unusedSimpArgs false
set_option linter.unnecessarySimpa false
section
open Go Go.HL
namespace Go.Proofs.Ytaibmipamkaljaa
open Go.Proofs.Try renaming prog → Tp
open Go.HL.HV renaming undef → Ud
theorem info4:(Tp.info? 4).map (fun i=>(i.size,i.bytes,i.zero.map ofConst))=some (1,1,some (.bool false)):=by kernel_rfl
abbrev nilV:HV:=.imm .lit 0 []
abbrev bT (T:List Bool):Blk:=.arr 1 (T.map .bool) true 0
theorem rep_set {α:Type} (a v:α) (X:List α):∀ k,(List.replicate (k+1) a ++ X).set k v=List.replicate k a ++ v :: X
  | 0=>rfl
  | k+1=>by rw [List.replicate_succ,List.cons_append,List.set_cons_succ,rep_set a v X k]; rfl
end Go.Proofs.Ytaibmipamkaljaa
end
section
open Go Go.HL
namespace Go.Proofs.Ytaibmipamkaljaa
open Go.Proofs.Try renaming prog → Tp
open Go.HL.HV renaming undef → Ud
def prTc:FuncId → Option (List HV → Option HV):=fun g=>if g == 40 then some size40 else if g == 60 then some less60 else if g == 61 then some code61 else none
def polTc:Pol:={ pol with freezeS:=fun g r=>g == 37 && r == 15,prim:=prTc }
theorem fns_okTc:(Tp.funcs.toList.zipIdx.all fun p=>fnOk { pol with freezeS:=fun g r=>g == 37 && r == 15 } p.2 p.1)=true:=by kernel_rfl
theorem fnokTc (g:FuncId) (fn:Func) (h:Tp.funcs[g]?=some fn):fnOk polTc g fn=true:=by
  have:=fnOk_prim (pol:={ pol with freezeS:=fun g r=>g == 37 && r == 15 }) (F:=prTc) g fn
  show fnOk { pol with freezeS:=fun g r=>g == 37 && r == 15,prim:=prTc } g fn=true
  rw [this]
  exact List.all_eq_true.1 fns_okTc (fn,g) (by
    rw [List.mem_zipIdx_iff_getElem?]
    simpa using h)
theorem soundTc (n:Nat):CallSound Tp (callN Tp polTc n) :=
  callN_ok follows_mixed fnokTc (fun g f h=>by
    change prTc g=some f at h
    unfold prTc at h
    split at h
    · rename_i hg; cases h; rw [eq_of_beq hg]; exact size_ok
    split at h
    · rename_i hg; cases h; rw [eq_of_beq hg]; exact less_ok
    split at h
    · rename_i hg; cases h; rw [eq_of_beq hg]; exact code_ok
    · cases h) n
end Go.Proofs.Ytaibmipamkaljaa
end
section
open Go Go.HL
namespace Go.Proofs.Ytaibmipamkaljaa
def lessC (gl:List Int) (c:Int) (x:List Int):Int:=codeT gl (lessT gl c x)
def fT (gl:List Int):List (List Int) → Int → Int
  | [],c=>if c=0 then 0 else 1099511627776
  | x :: R,c=>min (fT gl R c) (1+fT gl R (lessC gl c x))
def bst (gl:List Int):List (List Int) → Int → Int → Int
  | [],_,b=>b
  | x :: R,w,b=>bst gl R w (min b (1+fT gl R (lessC gl w x)))
def chT (gl:List Int):List (List Int) → Nat → Int → Int → List Nat
  | [],_,_,_=>[]
  | x :: R,i,w,b=>if b ≤ 0 then [] else if 1+fT gl R (lessC gl w x)=b then i :: chT gl R (i+1) (lessC gl w x) (b - 1) else chT gl R (i+1) w b
def fbT (gl:List Int) (R:List (List Int)) (x:List Int) (ls:Int):Int:=if ls=0 then fT gl R (codeT gl x) else bst gl R (codeT gl x) 1099511627776
def firstT (gl:List Int) (R:List (List Int)) (x:List Int) (ls:Int):Option (List Int) :=
  if 1099511627776 ≤ fbT gl R x ls then none else some ((chT gl R 0 (codeT gl x) (fbT gl R x ls)).map fun q=>((q:Nat):Int))
def firR (r:Option (List Int)):HV:=match r with | some p=>.tuple [.own 1 (p.map encI),.bool true] | none=>.tuple [.own 1 [],.bool false]
theorem fT_bnd (gl:List Int):∀ R c,0 ≤ fT gl R c∧fT gl R c ≤ 1099511627776
  | [],c=>by simp only [fT]; split <;> omega
  | x :: R,c=>by
    have h1:=fT_bnd gl R c
    have h2:=fT_bnd gl R (lessC gl c x)
    simp only [fT]; omega
theorem bst_bnd (gl:List Int) (w:Int):∀ R b,0 ≤ b → b ≤ 1099511627776 → 0 ≤ bst gl R w b∧bst gl R w b ≤ 1099511627776
  | [],b,h0,h1=>⟨h0,h1⟩
  | x :: R,b,h0,h1=>by
    have h2:=fT_bnd gl R (lessC gl w x)
    rw [bst]; exact bst_bnd gl w R _ (by omega) (by omega)
theorem size_bnd {l:List Int} (h:(newGroupT l).2=true):0 < sizeT l∧sizeT l ≤ 144:=by
  rcases grp_cases h with ⟨a,rfl,h1,h2⟩ | ⟨a,b,rfl,h1,h2,h3,h4,h5,h6⟩
  · simp only [sizeT]; omega
  · have:=Int.mul_pos (show 0 < a by omega) (show 0 < b by omega)
    simp only [sizeT]; omega
theorem code_bnd {l x:List Int} (h:(newGroupT l).2=true) (hx:elB l x=true):0 ≤ codeT l x∧codeT l x < sizeT l:=by
  rcases grp_cases h with ⟨a,rfl,h1,h2⟩ | ⟨a,b,rfl,h1,h2,h3,h4,h5,h6⟩
  · obtain ⟨u,rfl,k1,k2⟩:=el_one hx
    exact ⟨k1,k2⟩
  · obtain ⟨u,v,rfl,k1,k2⟩:=el_two hx
    have:=cod_b h1 h3 h5 k1 k2
    simp only [codeT,sizeT]; omega
theorem less_el {l x:List Int} {c:Int} (h:(newGroupT l).2=true) (hx:elB l x=true):elB l (lessT l c x)=true:=by
  rcases grp_cases h with ⟨a,rfl,h1,h2⟩ | ⟨a,b,rfl,h1,h2,h3,h4,h5,h6⟩
  · obtain ⟨u,rfl,k1⟩:=el_one hx
    exact el_mk1 (mod_in (by omega) _)
  · obtain ⟨u,v,rfl,k1,k2⟩:=el_two hx
    exact el_mk2 (mod_in (by omega) _) (mod_in (by omega) _)
theorem less_bnd {l x:List Int} {c:Int} (h:(newGroupT l).2=true) (hx:elB l x=true):0 ≤ lessC l c x∧lessC l c x < sizeT l:=code_bnd h (less_el h hx)
end Go.Proofs.Ytaibmipamkaljaa
end
section
open Go Go.HL
namespace Go.Proofs.Ytaibmipamkaljaa
open Go.Proofs.Try renaming prog → Tp
open Go.HL.HV renaming undef → Ud
def polZ:Pol:={ pol with prim:=fun g=>if g == 55 then some newGroup55 else if g == 56 then some elements56 else if g == 57 then some short57 else if g == 58 then some element58 else if g == 59 then some add59 else none }
theorem soundZ (n:Nat):CallSound Tp (callN Tp polZ n):=sound_prim _ (fun g f h=>by
  split at h
  · rename_i hg; cases h; rw [eq_of_beq hg]; exact newGroup_ok
  split at h
  · rename_i hg; cases h; rw [eq_of_beq hg]; exact elements_ok
  split at h
  · rename_i hg; cases h; rw [eq_of_beq hg]; exact short_ok
  split at h
  · rename_i hg; cases h; rw [eq_of_beq hg]; exact element_ok
  split at h
  · rename_i hg; cases h; rw [eq_of_beq hg]; exact add_ok
  · cases h) n
theorem recv_X (l:List El) (t:Bool) (H:Heap):recv (.tuple [.own 2 (l.map encX),.bool t]) H=(.tuple [.sl H.length 0 l.length none l.length 2,.bool t],H ++ [bX l]):=by
  have h:recvCell (.own 2 (l.map encX)) H=(.sl H.length 0 l.length none l.length 2,H ++ [bX l]):=by
    simp only [recvCell,encX_any,List.length_map]; rfl
  simp only [recv,recvVals,recvVal,h]; rfl
theorem newGroup_at {pol':Pol} (hp:pol'.prim 55=some newGroup55) (l:List Int) (H:Heap):∀ k,callN Tp pol' (k+1) 55 [.imm .arg 1 (l.map encI)] H=some (.tuple [encG (newGroupT l).1,.bool (newGroupT l).2],H):=fun k=>by
  have hX:=arg_li H l
  have hd:mapO decI (l.map encI)=some l:=mapO_map decI_enc l
  rw [prim_call (pol:=pol') (g:=55) (F:=newGroup55) hp (rs:=[.imm .arg 1 (l.map encI)]) (by simp only [mapO,hX]) (res:=.tuple [encG (newGroupT l).1,.bool (newGroupT l).2]) (by simp only [newGroup55,liF,hd])]
  rfl
theorem elements_at {g:Gr} {pol':Pol} (hp:pol'.prim 56=some elements56) (hg:grOk g) (hr:g.2.2=1 ∨ g.2.2=2) {R:List (List Int)} (hR:R.length ≤ 1000) (H:Heap):∀ k,callN Tp pol' (k+1) 56 [encG g,.imm .arg 1 (R.map encR)] H =
    some (.tuple [.sl H.length 0 ((elemsT g R).getD []).length none ((elemsT g R).getD []).length 2,.bool (elemsT g R).isSome],H ++ [bX ((elemsT g R).getD [])]):=fun k=>by
  have hG:toArg H 6 (encG g)=some (encG g):=rfl
  have hX:=arg_rw H R
  have hd:mapO decR (R.map encR)=some R:=mapO_map decR_enc R
  rw [prim_call (pol:=pol') (g:=56) (F:=elements56) hp (rs:=[encG g,.imm .arg 1 (R.map encR)]) (by simp only [mapO,hG,hX]) (res:=.tuple [.own 2 (((elemsT g R).getD []).map encX),.bool (elemsT g R).isSome]) (by
    simp only [elements56,decG_enc,hd]
    rw [if_pos ⟨hg,hr,hR⟩]
    cases elemsT g R <;> rfl),recv_X]
def shP (r:Option (List Int)):List Int × Int:=match r with | some p=>(p,0) | none=>([],6)
theorem newGroup_gr {l:List Int} (h:(newGroupT l).2=true):grOk (newGroupT l).1∧((newGroupT l).1.2.2=1 ∨ (newGroupT l).1.2.2=2):=by
  match l with
  | []=>simp [newGroupT] at h
  | [a] =>
    simp only [newGroupT] at h ⊢
    split
    · rename_i c
      have:=of_decide_eq_true c
      exact ⟨⟨⟨by show 1 ≤ a; omega,by show a ≤ 1000; omega⟩,by show (1:Int) ≤ 1; omega,by show (1:Int) ≤ 1000; omega⟩,.inl rfl⟩
    · rename_i c; rw [if_neg c] at h; cases h
  | [a,b] =>
    simp only [newGroupT] at h ⊢
    split
    · rename_i c
      rw [Bool.and_eq_true] at c
      have h1:=of_decide_eq_true c.1
      have h2:=of_decide_eq_true c.2
      exact ⟨⟨⟨by show 1 ≤ a; omega,by show a ≤ 1000; omega⟩,by show 1 ≤ b; omega,by show b ≤ 1000; omega⟩,.inr rfl⟩
    · rename_i c; rw [if_neg c] at h; cases h
  | a :: b :: c :: l=>simp [newGroupT] at h
theorem element_el {g:Gr} (hg:grOk g) {l:List Int} (h:(elementT g l).2=true):elOk g (elementT g l).1:=by
  match l with
  | []=>simp [elementT] at h
  | [a] =>
    simp only [elementT] at h ⊢
    split
    · rename_i c
      have:=of_decide_eq_true c.2
      exact ⟨⟨this.1,by show a < g.1; omega⟩,Int.le_refl _,by show (0:Int) < g.2.1; have:=hg.2; omega⟩
    · rename_i c; rw [if_neg c] at h; cases h
  | [a,b] =>
    simp only [elementT] at h ⊢
    split
    · rename_i c
      rw [if_pos c] at h
      have h1:=of_decide_eq_true c.2
      split
      · rename_i d
        have h2:=of_decide_eq_true d
        exact ⟨⟨h1.1,by show a < g.1; omega⟩,h2.1,by show b < g.2.1; omega⟩
      · rename_i d; rw [if_neg d] at h; cases h
    · rename_i c; rw [if_neg c] at h; cases h
  | a :: b :: c :: l=>simp [elementT] at h
theorem elems_el {g:Gr} (hg:grOk g) {R:List (List Int)} {l:List El} (h:elemsT g R=some l):allEl g l=true∧l.length=R.length∧R.length ≤ 60:=by
  unfold elemsT at h
  split at h
  · rename_i c
    cases h
    refine ⟨?_,by simp,c.1⟩
    rw [allEl_iff]
    intro x hx
    obtain ⟨r,hr,rfl⟩:=List.mem_map.1 hx
    exact element_el hg (List.all_eq_true.1 c.2 r hr)
  · cases h
def zeroT (l:List Int) (R:List (List Int)):List Int × Int :=
  if (newGroupT l).2=true then (match elemsT (newGroupT l).1 R with | some els=>shP (shT (newGroupT l).1 els (0,0) els.length 1) | none=>([],2)) else ([],2)
def ordF (g:Gr) (x:El):Nat → El → Nat → Option Nat
  | 0,_,_=>none
  | f+1,s,n=>if s=(0,0) then some n else ordF g x f (addT g s x) (n+1)
def orderT (l lx:List Int):Option (Int × Int) :=
  if (newGroupT l).2=true then (if (elementT (newGroupT l).1 lx).2=true then (ordF (newGroupT l).1 (elementT (newGroupT l).1 lx).1 1000 (elementT (newGroupT l).1 lx).1 1).map fun (n:Nat)=>(((n:Nat):Int),(0:Int)) else some (0,2)) else some (0,2)
def order29:List HV → Option HV:=llF fun l lx=>(orderT l lx).map fun r=>.tuple [.int .i64 r.1,.int .i64 r.2]
end Go.Proofs.Ytaibmipamkaljaa
end
section
open Go Go.HL
namespace Go.Proofs.Ytaibmipamkaljaa
set_option maxRecDepth 100000
open Go.Proofs.Try renaming prog → Tp
open Go.HL.HV renaming undef → Ud
noncomputable def B29:Code:=Try.f29.body.getD .skip
abbrev env29 (v0 v1 v4 v5 v6 v7 v8 v9 v10 v36:HV):Env:=[(0,v0),(1,v1),(4,v4),(5,v5),(6,v6),(7,v7),(8,v8),(9,v9),(10,v10),(36,v36)]
theorem od_a_0 (l lx:List HV) :RT polZ 29 (sub [0] B29) [(0,.a l),(1,.a lx)] [] .normal (env29 (.a l) (.a lx) (.i 0) (.i 0) Ud Ud Ud Ud Ud Ud) [] :=
  RunsTo.hin 0 60 [] fun kf hk=>⟨_,by kernel_rfl,.nil⟩
theorem od_b_0 (l lx:List HV)  {y6 y7 y8 y9 y10 y36:HV} {m0:Int} {m1:Int} {sz:Int} (g0:∀ kf,callN Tp polZ (kf+1) 55 [.a l] []=some (.tuple [.agg [.i m0,.i m1,.i sz],.bool true],[])):RT polZ 29 (sub [1,0] B29) (env29 (.a l) (.a lx) (.i 0) (.i 0) y6 y7 y8 y9 y10 y36) [] .normal (env29 (.a l) (.a lx) (.i 0) (.i 0) (.ptr 0 0 0 1) (.bool true) y8 y9 y10 y36) [.arr 3 [.agg [.i m0,.i m1,.i sz]] true 0] :=
  RunsTo.hin 0 60 [⟨1,1,.tuple [.agg [.i m0,.i m1,.i sz],.bool true],[]⟩] fun kf hk=>⟨_,by kernel_rfl,(oC (g0 kf) .nil)⟩
theorem od_b_1 (l lx:List HV)  {y6 y7 y8 y9 y10 y36:HV} {m0:Int} {m1:Int} {sz:Int} (g0:∀ kf,callN Tp polZ (kf+1) 55 [.a l] []=some (.tuple [.agg [.i m0,.i m1,.i sz],.bool false],[])):RT polZ 29 (sub [1,0] B29) (env29 (.a l) (.a lx) (.i 0) (.i 0) y6 y7 y8 y9 y10 y36) [] .normal (env29 (.a l) (.a lx) (.i 0) (.i 0) (.ptr 0 0 0 1) (.bool false) y8 y9 y10 y36) [.arr 3 [.agg [.i m0,.i m1,.i sz]] true 0] :=
  RunsTo.hin 0 60 [⟨1,1,.tuple [.agg [.i m0,.i m1,.i sz],.bool false],[]⟩] fun kf hk=>⟨_,by kernel_rfl,(oC (g0 kf) .nil)⟩
theorem od_ct_0 (l lx:List HV) (m0 m1 sz:Int) {y8 y9 y10 y36:HV}:RT polZ 29 (sub [1,1,0] B29) (env29 (.a l) (.a lx) (.i 0) (.i 0) (.ptr 0 0 0 1) (.bool true) y8 y9 y10 y36) [.arr 3 [.agg [.i m0,.i m1,.i sz]] true 0] .normal (env29 (.a l) (.a lx) (.i 0) (.i 0) (.ptr 0 0 0 1) (.bool true) y8 y9 y10 y36) [.arr 3 [.agg [.i m0,.i m1,.i sz]] true 0] :=
  RunsTo.hin 0 60 [] fun kf hk=>⟨_,by kernel_rfl,.nil⟩
theorem od_cf_0 (l lx:List HV) (m0 m1 sz:Int) {y8 y9 y10 y36:HV}:RT polZ 29 (sub [1,1,0] B29) (env29 (.a l) (.a lx) (.i 0) (.i 0) (.ptr 0 0 0 1) (.bool false) y8 y9 y10 y36) [.arr 3 [.agg [.i m0,.i m1,.i sz]] true 0] .ret (env29 (.a l) (.a lx) (.i 0) (.i 2) (.ptr 0 0 0 1) (.bool false) y8 y9 y10 y36) [.arr 3 [.agg [.i m0,.i m1,.i sz]] true 0] :=
  RunsTo.hin 0 60 [] fun kf hk=>⟨_,by kernel_rfl,.nil⟩
theorem od_d_0 (l lx:List HV) (m0 m1 sz:Int) {y8 y9 y10 y36:HV} {e0:Int} {e1:Int} (g0:∀ kf,callN Tp polZ (kf+1) 58 [.agg [.i m0,.i m1,.i sz],.a lx] [.arr 3 [.agg [.i m0,.i m1,.i sz]] true 0]=some (.tuple [.agg [.i e0,.i e1],.bool true],[.arr 3 [.agg [.i m0,.i m1,.i sz]] true 0])):RT polZ 29 (sub [1,1,1,0] B29) (env29 (.a l) (.a lx) (.i 0) (.i 0) (.ptr 0 0 0 1) (.bool true) y8 y9 y10 y36) [.arr 3 [.agg [.i m0,.i m1,.i sz]] true 0] .normal (env29 (.a l) (.a lx) (.i 0) (.i 0) (.ptr 0 0 0 1) (.bool true) (.ptr 1 0 0 1) y9 y10 y36) [.arr 3 [.agg [.i m0,.i m1,.i sz]] true 0,.arr 2 [.agg [.i e0,.i e1]] true 0] :=
  RunsTo.hin 0 60 [⟨4,2,.tuple [.agg [.i e0,.i e1],.bool true],[.arr 3 [.agg [.i m0,.i m1,.i sz]] true 0]⟩] fun kf hk=>⟨_,by kernel_rfl,(oC (g0 kf) .nil)⟩
theorem od_d_1 (l lx:List HV) (m0 m1 sz:Int) {y8 y9 y10 y36:HV} {e0:Int} {e1:Int} (g0:∀ kf,callN Tp polZ (kf+1) 58 [.agg [.i m0,.i m1,.i sz],.a lx] [.arr 3 [.agg [.i m0,.i m1,.i sz]] true 0]=some (.tuple [.agg [.i e0,.i e1],.bool false],[.arr 3 [.agg [.i m0,.i m1,.i sz]] true 0])):RT polZ 29 (sub [1,1,1,0] B29) (env29 (.a l) (.a lx) (.i 0) (.i 0) (.ptr 0 0 0 1) (.bool true) y8 y9 y10 y36) [.arr 3 [.agg [.i m0,.i m1,.i sz]] true 0] .normal (env29 (.a l) (.a lx) (.i 0) (.i 0) (.ptr 0 0 0 1) (.bool false) (.ptr 1 0 0 1) y9 y10 y36) [.arr 3 [.agg [.i m0,.i m1,.i sz]] true 0,.arr 2 [.agg [.i e0,.i e1]] true 0] :=
  RunsTo.hin 0 60 [⟨4,2,.tuple [.agg [.i e0,.i e1],.bool false],[.arr 3 [.agg [.i m0,.i m1,.i sz]] true 0]⟩] fun kf hk=>⟨_,by kernel_rfl,(oC (g0 kf) .nil)⟩
theorem od_et_0 (l lx:List HV) (m0 m1 sz:Int) (e0 e1:Int) {y9 y10 y36:HV}:RT polZ 29 (sub [1,1,1,1,0] B29) (env29 (.a l) (.a lx) (.i 0) (.i 0) (.ptr 0 0 0 1) (.bool true) (.ptr 1 0 0 1) y9 y10 y36) [.arr 3 [.agg [.i m0,.i m1,.i sz]] true 0,.arr 2 [.agg [.i e0,.i e1]] true 0] .normal (env29 (.a l) (.a lx) (.i 0) (.i 0) (.ptr 0 0 0 1) (.bool true) (.ptr 1 0 0 1) y9 y10 y36) [.arr 3 [.agg [.i m0,.i m1,.i sz]] true 0,.arr 2 [.agg [.i e0,.i e1]] true 0] :=
  RunsTo.hin 0 60 [] fun kf hk=>⟨_,by kernel_rfl,.nil⟩
theorem od_ef_0 (l lx:List HV) (m0 m1 sz:Int) (e0 e1:Int) {y9 y10 y36:HV}:RT polZ 29 (sub [1,1,1,1,0] B29) (env29 (.a l) (.a lx) (.i 0) (.i 0) (.ptr 0 0 0 1) (.bool false) (.ptr 1 0 0 1) y9 y10 y36) [.arr 3 [.agg [.i m0,.i m1,.i sz]] true 0,.arr 2 [.agg [.i e0,.i e1]] true 0] .ret (env29 (.a l) (.a lx) (.i 0) (.i 2) (.ptr 0 0 0 1) (.bool false) (.ptr 1 0 0 1) y9 y10 y36) [.arr 3 [.agg [.i m0,.i m1,.i sz]] true 0,.arr 2 [.agg [.i e0,.i e1]] true 0] :=
  RunsTo.hin 0 60 [] fun kf hk=>⟨_,by kernel_rfl,.nil⟩
theorem od_f_0 (l lx:List HV) (m0 m1 sz:Int) (e0 e1:Int) {y7 y9 y10 y36:HV}:RT polZ 29 (sub [1,1,1,1,1,0] B29) (env29 (.a l) (.a lx) (.i 0) (.i 0) (.ptr 0 0 0 1) y7 (.ptr 1 0 0 1) y9 y10 y36) [.arr 3 [.agg [.i m0,.i m1,.i sz]] true 0,.arr 2 [.agg [.i e0,.i e1]] true 0] .normal (env29 (.a l) (.a lx) (.i 0) (.i 0) (.ptr 0 0 0 1) y7 (.ptr 1 0 0 1) (.i 1) y10 y36) [.arr 3 [.agg [.i m0,.i m1,.i sz]] true 0,.arr 2 [.agg [.i e0,.i e1]] true 0] :=
  RunsTo.hin 0 60 [] fun kf hk=>⟨_,by kernel_rfl,.nil⟩
theorem od_g_0 (l lx:List HV) (m0 m1 sz:Int) (e0 e1:Int) {y7 y10 y36:HV}:RT polZ 29 (sub [1,1,1,1,1,1,0,0] B29) (env29 (.a l) (.a lx) (.i 0) (.i 0) (.ptr 0 0 0 1) y7 (.ptr 1 0 0 1) (.i 1) y10 y36) [.arr 3 [.agg [.i m0,.i m1,.i sz]] true 0,.arr 2 [.agg [.i e0,.i e1]] true 0] .normal (env29 (.a l) (.a lx) (.i 0) (.i 0) (.ptr 0 0 0 1) y7 (.ptr 1 0 0 1) (.i 1) (.ptr 2 0 0 1) y36) [.arr 3 [.agg [.i m0,.i m1,.i sz]] true 0,.arr 2 [.agg [.i e0,.i e1]] true 0,.arr 2 [.agg [.i e0,.i e1]] true 0] :=
  RunsTo.hin 0 60 [] fun kf hk=>⟨_,by kernel_rfl,.nil⟩
theorem od_h_0 (l lx:List HV) (m0 m1 sz:Int) (e0 e1:Int) (H:Heap) (tb:Nat) (c s0 s1:Int) (ub:Nat) {y7 y36:HV} {H0:Heap} {H1:Heap} {z0:Int} {z1:Int} {H2:Heap} {H3:Heap} (g0:loadV Tp H 64 (.ptr tb 0 0 1)=some (.agg [.i s0,.i s1])) (g1:binV Tp .neq 64 (.agg [.i s0,.i s1]) (.agg [.i 0,.i 0])=some (.bool true)) (g2:loadV Tp H 64 (.ptr tb 0 0 1)=some (.agg [.i s0,.i s1])) (g3:some (newV (.agg [.i 0,.i 0]) H)=some (.ptr ub 0 0 1,H0)) (g4:storeV Tp H0 64 (.ptr ub 0 0 1) (.agg [.i s0,.i s1])=some H1) (g5:loadV Tp H1 66 (.ptr 0 0 0 1)=some (.agg [.i m0,.i m1,.i sz])) (g6:loadV Tp H1 64 (.ptr ub 0 0 1)=some (.agg [.i s0,.i s1])) (g7:loadV Tp H1 64 (.ptr 1 0 0 1)=some (.agg [.i e0,.i e1])) (g8:∀ kf,callN Tp polZ (kf+1) 59 [.agg [.i m0,.i m1,.i sz],.agg [.i s0,.i s1],.agg [.i e0,.i e1]] H1=some (.agg [.i z0,.i z1],H2)) (g9:storeV Tp H2 64 (.ptr ub 0 0 1) (.agg [.i z0,.i z1])=some H3):RT polZ 29 (sub [1,1,1,1,1,1,0,1,0,0] B29) (env29 (.a l) (.a lx) (.i 0) (.i 0) (.ptr 0 0 0 1) y7 (.ptr 1 0 0 1) (.i c) (.ptr tb 0 0 1) y36) H .normal (env29 (.a l) (.a lx) (.i 0) (.i 0) (.ptr 0 0 0 1) y7 (.ptr 1 0 0 1) (.i (IntKind.i64.wrap (c+1))) (.ptr ub 0 0 1) (.agg [.i s0,.i s1])) H3 :=
  RunsTo.hin 0 60 [⟨9,0,.agg [.i s0,.i s1],H⟩,⟨9,2,.bool true,H⟩,⟨12,0,.agg [.i s0,.i s1],H⟩,⟨13,0,.ptr ub 0 0 1,H0⟩,⟨13,1,.tuple [],H1⟩,⟨10,0,.agg [.i m0,.i m1,.i sz],H1⟩,⟨10,1,.agg [.i s0,.i s1],H1⟩,⟨10,2,.agg [.i e0,.i e1],H1⟩,⟨10,3,.agg [.i z0,.i z1],H2⟩,⟨10,4,.tuple [],H3⟩] fun kf hk=>⟨_,by kernel_rfl,(oP H g0 (oP H g1 (oP H g2 (oC (g3) (oS g4 (oP H1 g5 (oP H1 g6 (oP H1 g7 (oC (g8 kf) (oS g9 .nil))))))))))⟩
theorem od_h_1 (l lx:List HV) (m0 m1 sz:Int) (e0 e1:Int) (H:Heap) (tb:Nat) (c s0 s1:Int) (ub:Nat) {y7 y36:HV}(g0:loadV Tp H 64 (.ptr tb 0 0 1)=some (.agg [.i s0,.i s1])) (g1:binV Tp .neq 64 (.agg [.i s0,.i s1]) (.agg [.i 0,.i 0])=some (.bool false)):RT polZ 29 (sub [1,1,1,1,1,1,0,1,0,0] B29) (env29 (.a l) (.a lx) (.i 0) (.i 0) (.ptr 0 0 0 1) y7 (.ptr 1 0 0 1) (.i c) (.ptr tb 0 0 1) y36) H (.exit 0) (env29 (.a l) (.a lx) (.i 0) (.i 0) (.ptr 0 0 0 1) y7 (.ptr 1 0 0 1) (.i c) (.ptr tb 0 0 1) y36) H :=
  RunsTo.hin 0 60 [⟨9,0,.agg [.i s0,.i s1],H⟩,⟨9,2,.bool false,H⟩] fun kf hk=>⟨_,by kernel_rfl,(oP H g0 (oP H g1 .nil))⟩
theorem od_i_0 (l lx:List HV) (c:Int) (tb:Nat) (H:Heap) {y7 y36:HV}:RT polZ 29 (sub [1,1,1,1,1,1,1] B29) (env29 (.a l) (.a lx) (.i 0) (.i 0) (.ptr 0 0 0 1) y7 (.ptr 1 0 0 1) (.i c) (.ptr tb 0 0 1) y36) H .ret (env29 (.a l) (.a lx) (.i c) (.i 0) (.ptr 0 0 0 1) y7 (.ptr 1 0 0 1) (.i c) (.ptr tb 0 0 1) y36) H :=
  RunsTo.hin 0 60 [] fun kf hk=>⟨_,by kernel_rfl,.nil⟩
end Go.Proofs.Ytaibmipamkaljaa
end
section
open Go Go.HL
namespace Go.Proofs.Ytaibmipamkaljaa
open Go.Proofs.Try renaming prog → Tp
open Go.HL.HV renaming undef → Ud
theorem res29:Try.f29.results.toList=[.tmp 4,.tmp 5]:=by kernel_rfl
abbrev odE (l lx:List Int) (v7:HV) (c:Int) (tb:Nat) (v36:HV):Env:=(env29 (.imm .arg 1 (l.map encI)) (.imm .arg 1 (lx.map encI)) (.int .i64 0) (.int .i64 0) (.ptr 0 0 0 1) v7 (.ptr 1 0 0 1) (.int .i64 c) (.ptr tb 0 0 1) v36)
theorem st_X (H:Heap) (s z:El):storeV Tp (H ++ [bX [s]]) 64 (.ptr H.length 0 0 1) (encX z)=some (H ++ [bX [z]]):=by
  have:=store_agg (P:=Tp) (H:=H ++ [bX [s]]) (t:=64) (b:=H.length) (i:=0) (tot:=1) (k:=2) (mx:=0) (els:=[encX s]) (cs:=[.int .i64 s.1,.int .i64 s.2]) (new:=[.int .i64 z.1,.int .i64 z.2])
    (by rw [List.getElem?_append_right (Nat.le_refl _),Nat.sub_self]; rfl) rfl rfl z64 rfl (by simp) rfl rfl
  rw [show encX z=.agg [.int .i64 z.1,.int .i64 z.2] from rfl,this]
  simp [encX]
theorem get_app (H:Heap) (B:Blk):(H ++ [B])[H.length]?=some B:=by rw [List.getElem?_append_right (Nat.le_refl _),Nat.sub_self]; rfl
theorem neq_X (s t:El):binV Tp .neq 64 (encX s) (encX t)=some (.bool (!decide (s=t))):=by
  have hu:Tp.underlying 64=some (.array 2 3):=by kernel_rfl
  have h:=keyX.eq s t
  simp only [encX,keyEq] at h
  have hp:(plainCells Tp 64 [.int .i64 s.1,.int .i64 s.2] && !Tp.eqGuardType Tp.depth 64 && tyAgg Tp 64)=true:=by kernel_rfl
  simp only [binV,encX,hu,h,hp,if_true,Option.map]
theorem mxs_snoc:∀ {J:Heap} (_:mxs J=0) (s:El),mxs (J ++ [bX [s]])=0
  | [],_,w=>rfl
  | b :: T,h,w=>by
    simp only [mxs] at h
    simp only [List.cons_append,mxs,mxs_snoc (J:=T) (by omega) w]; omega
theorem od_loop {g:Gr} (hg:grOk g) {x:El} (hx:elOk g x) (l lx:List Int):∀ (f:Nat) (s:El) (n:Nat) (J:Heap) (r:Nat),elOk g s → mxs J=0 → n+f ≤ 2000 → ordF g x f s n=some r →
    ∃ tb H' E,RT polZ 29 (sub [1,1,1,1,1,1,0,1,0] B29) (odE l lx Ud (n:Int) (bGr g :: bX [x] :: J).length Ud) (bGr g :: bX [x] :: J ++ [bX [s]]) (.exit 0) (odE l lx Ud (r:Int) tb Ud) H'∧E=tb:=by
  intro f
  induction f with
  | zero=>intro s n J r hs hJ hn h; cases h
  | succ f ih =>
    intro s n J r hs hJ hn h
    have gs:loadV Tp (bGr g :: bX [x] :: J ++ [bX [s]]) 64 (.ptr (bGr g :: bX [x] :: J).length 0 0 1)=some (encX s):=load_agg (get_app _ _) rfl rfl a64 z64
    have nq:=neq_X s (0,0)
    by_cases c:s=(0,0)
    · rw [ordF,if_pos c] at h
      cases h
      simp only [c,decide_true,Bool.not_true] at nq
      have s1:=od_h_1 (l.map encI) (lx.map encI) g.1 g.2.1 g.2.2 x.1 x.2 (bGr g :: bX [x] :: J ++ [bX [s]]) (bGr g :: bX [x] :: J).length n s.1 s.2 0 (y7:=Ud) (y36:=Ud) gs (by rw [c]; exact nq)
      exact ⟨_,_,_,lpo (s1) (c:=sub [1,1,1,1,1,1,0,1,0] B29),rfl⟩
    · rw [ordF,if_neg c] at h
      simp only [c,decide_false,Bool.not_false] at nq
      have nv:newV (.agg [.int .i64 0,.int .i64 0]) (bGr g :: bX [x] :: J ++ [bX [s]])=(.ptr (bGr g :: bX [x] :: J ++ [bX [s]]).length 0 0 1,bGr g :: bX [x] :: J ++ [bX [s]] ++ [bX [(0,0)]]):=rfl
      have st1:=st_X (bGr g :: bX [x] :: J ++ [bX [s]]) (0,0) s
      have g1:loadV Tp (bGr g :: bX [x] :: J ++ [bX [s]] ++ [bX [s]]) 66 (.ptr 0 0 0 1)=some (encG g):=load_agg (b:=0) rfl rfl rfl a66 z66
      have g2:loadV Tp (bGr g :: bX [x] :: J ++ [bX [s]] ++ [bX [s]]) 64 (.ptr (bGr g :: bX [x] :: J ++ [bX [s]]).length 0 0 1)=some (encX s):=load_agg (get_app _ _) rfl rfl a64 z64
      have g3:loadV Tp (bGr g :: bX [x] :: J ++ [bX [s]] ++ [bX [s]]) 64 (.ptr 1 0 0 1)=some (encX x):=load_agg (b:=1) rfl rfl rfl a64 z64
      have ad:=add_at (pol':=polZ) (g:=g) (by kernel_rfl) hg hs hx (bGr g :: bX [x] :: J ++ [bX [s]] ++ [bX [s]])
      have st2:=st_X (bGr g :: bX [x] :: J ++ [bX [s]]) s (addT g s x)
      have s1:=od_h_0 (l.map encI) (lx.map encI) g.1 g.2.1 g.2.2 x.1 x.2 (bGr g :: bX [x] :: J ++ [bX [s]]) (bGr g :: bX [x] :: J).length n s.1 s.2 (bGr g :: bX [x] :: J ++ [bX [s]]).length (y7:=Ud) (y36:=Ud) gs nq gs (congrArg some nv) st1 g1 g2 g3 ad st2
      rw [wrap_succ (by omega)] at s1
      obtain ⟨tb,H',E,h1,h2⟩:=ih (addT g s x) (n+1) (J ++ [bX [s]]) r (addT_ok hg) (mxs_snoc hJ s) (by omega) h
      have hgc:gc (bGr g :: bX [x] :: J ++ [bX [s]]).length (bndE (odE l lx Ud ((n+1:Nat):Int) (bGr g :: bX [x] :: (J ++ [bX [s]])).length Ud)) (bGr g :: bX [x] :: J ++ [bX [s]] ++ [bX [addT g s x]])=bGr g :: bX [x] :: (J ++ [bX [s]]) ++ [bX [addT g s x]]:=by
        unfold gc
        refine List.take_of_length_le ?_
        have:(bGr g :: bX [x] :: (J ++ [bX [s]])).length+1 ≤ bndE (odE l lx Ud ((n+1:Nat):Int) (bGr g :: bX [x] :: (J ++ [bX [s]])).length Ud):=by
          simp only [bndE,bnd]; omega
        simp only [List.length_cons,List.length_append,List.length_nil] at this ⊢
        omega
      exact ⟨tb,H',E,lop (s1) hgc (h1),h2⟩
theorem order_ok:PrimOk Tp 29 order29:=by
  refine primOk_pure (pol:=polZ) (fn:=Try.f29) (cd:=B29) follows_mixed soundZ (by kernel_rfl) (by kernel_rfl) (fnok polZ.prim _ _ (by kernel_rfl)) (by kernel_rfl) ?_
  intro args res h
  obtain ⟨l,lx,rfl,hq⟩:=llF_inv h
  clear h
  obtain ⟨r,hr,hq⟩:=Option.map_eq_some_iff.1 hq
  subst hq
  have a:=od_a_0 (l.map encI) (lx.map encI)
  have h5:=newGroup_at (pol':=polZ) (by kernel_rfl) l []
  by_cases c:(newGroupT l).2=true
  · obtain ⟨hg,hk⟩:=newGroup_gr c
    rw [c] at h5
    have b:=od_b_0 (l.map encI) (lx.map encI) (y6:=Ud) (y7:=Ud) (y8:=Ud) (y9:=Ud) (y10:=Ud) (y36:=Ud) h5
    have ct:=od_ct_0 (l.map encI) (lx.map encI) (newGroupT l).1.1 (newGroupT l).1.2.1 (newGroupT l).1.2.2 (y8:=Ud) (y9:=Ud) (y10:=Ud) (y36:=Ud)
    have h8:=element_at (pol':=polZ) (by kernel_rfl) hg hk lx [bGr (newGroupT l).1]
    by_cases d:(elementT (newGroupT l).1 lx).2=true
    · rw [d] at h8
      have hx:=element_el hg d
      have dd:=od_d_0 (l.map encI) (lx.map encI) _ _ _ (y8:=Ud) (y9:=Ud) (y10:=Ud) (y36:=Ud) h8
      have et:=od_et_0 (l.map encI) (lx.map encI) (newGroupT l).1.1 (newGroupT l).1.2.1 (newGroupT l).1.2.2 (elementT (newGroupT l).1 lx).1.1 (elementT (newGroupT l).1 lx).1.2 (y9:=Ud) (y10:=Ud) (y36:=Ud)
      have f:=od_f_0 (l.map encI) (lx.map encI) (newGroupT l).1.1 (newGroupT l).1.2.1 (newGroupT l).1.2.2 (elementT (newGroupT l).1 lx).1.1 (elementT (newGroupT l).1 lx).1.2 (y7:=.bool true) (y9:=Ud) (y10:=Ud) (y36:=Ud)
      have gq:=od_g_0 (l.map encI) (lx.map encI) (newGroupT l).1.1 (newGroupT l).1.2.1 (newGroupT l).1.2.2 (elementT (newGroupT l).1 lx).1.1 (elementT (newGroupT l).1 lx).1.2 (y7:=.bool true) (y10:=Ud) (y36:=Ud)
      simp only [orderT,c,d,if_true] at hr
      obtain ⟨n,hn,hr⟩:=Option.map_eq_some_iff.1 hr
      subst hr
      obtain ⟨tb,H',E,lp,_⟩:=od_loop hg hx l lx 1000 _ 1 [] n hx rfl (by omega) hn
      have lp':=lpi (e0:=odE l lx (.bool true) 1 2 Ud) lp (b:=sub [1,1,1,1,1,1,0,1,0,0] B29)
      have z:=od_i_0 (l.map encI) (lx.map encI) n tb H' (y7:=Ud) (y36:=Ud)
      have u:=sq (a) (sq (b) (sq (ct) (sq (dd) (sq (et) (sq (f) (sq (sq (gq) (bke (c:=sub [1,1,1,1,1,1,0,1] B29) (lp')) (c:=sub [1,1,1,1,1,1,0] B29)) (z) (c:=sub [1,1,1,1,1,1] B29)) (c:=sub [1,1,1,1,1] B29)) (c:=sub [1,1,1,1] B29)) (c:=sub [1,1,1] B29)) (c:=sub [1,1] B29)) (c:=sub [1] B29)) (c:=B29)
      exact ⟨_,_,_,.tuple [.int .i64 (n:Int),.int .i64 0],u,by simp,by simp only [resultsV,res29]; rfl,rfl⟩
    · rw [nb_false d] at h8
      have dd:=od_d_1 (l.map encI) (lx.map encI) _ _ _ (y8:=Ud) (y9:=Ud) (y10:=Ud) (y36:=Ud) h8
      have ef:=od_ef_0 (l.map encI) (lx.map encI) (newGroupT l).1.1 (newGroupT l).1.2.1 (newGroupT l).1.2.2 (elementT (newGroupT l).1 lx).1.1 (elementT (newGroupT l).1 lx).1.2 (y9:=Ud) (y10:=Ud) (y36:=Ud)
      simp only [orderT,c,nb_false d,if_true,Bool.false_eq_true,if_false] at hr
      cases hr
      have u:=sq (a) (sq (b) (sq (ct) (sq (dd) (sqo (ef) (c:=sub [1,1,1,1] B29) (b:=sub [1,1,1,1,1] B29)) (c:=sub [1,1,1] B29)) (c:=sub [1,1] B29)) (c:=sub [1] B29)) (c:=B29)
      exact ⟨_,_,_,.tuple [.int .i64 0,.int .i64 2],u,by simp,by simp only [resultsV,res29]; rfl,rfl⟩
  · rw [nb_false c] at h5
    have b:=od_b_1 (l.map encI) (lx.map encI) (y6:=Ud) (y7:=Ud) (y8:=Ud) (y9:=Ud) (y10:=Ud) (y36:=Ud) h5
    have cf:=od_cf_0 (l.map encI) (lx.map encI) (newGroupT l).1.1 (newGroupT l).1.2.1 (newGroupT l).1.2.2 (y8:=Ud) (y9:=Ud) (y10:=Ud) (y36:=Ud)
    simp only [orderT,nb_false c,Bool.false_eq_true,if_false] at hr
    cases hr
    have u:=sq (a) (sq (b) (sqo (cf) (c:=sub [1,1] B29) (b:=sub [1,1,1] B29)) (c:=sub [1] B29)) (c:=B29)
    exact ⟨_,_,_,.tuple [.int .i64 0,.int .i64 2],u,by simp,by simp only [resultsV,res29]; rfl,rfl⟩
end Go.Proofs.Ytaibmipamkaljaa
end
section
open Go Go.HL
namespace Go.Proofs.Ytaibmipamkaljaa
set_option maxRecDepth 100000
open Go.Proofs.Try renaming prog → Tp
open Go.HL.HV renaming undef → Ud
noncomputable def B28:Code:=Try.f28.body.getD .skip
abbrev env28 (v0 v2:HV):Env:=[(0,v0),(2,v2)]
theorem zr_0 (l:List HV)(g0:makeV Tp false 22 (.i (l.length:Int)) (.i (l.length:Int)) []=some (.sl 0 0 l.length (some l.length) l.length 1,[.arr 1 (List.replicate l.length (.i 0)) true 0])):RT pol 28 (sub [] B28) [(0,.a l)] [] .ret (env28 (.a l) (.sl 0 0 l.length (some l.length) l.length 1)) [.arr 1 (List.replicate l.length (.i 0)) true 0] :=
  RunsTo.hin 0 60 [⟨1,2,.sl 0 0 l.length (some l.length) l.length 1,[.arr 1 (List.replicate l.length (.i 0)) true 0]⟩] fun kf hk=>⟨_,by kernel_rfl,(oC (g0) .nil)⟩
end Go.Proofs.Ytaibmipamkaljaa
end
section
open Go Go.HL
namespace Go.Proofs.Ytaibmipamkaljaa
open Go.Proofs.Try renaming prog → Tp
open Go.HL.HV renaming undef → Ud
def zero28:List HV → Option HV:=liF fun l=>if l.length ≤ 1000 then some (.own 1 ((List.replicate l.length (0:Int)).map encI)) else none
theorem res28:Try.f28.results.toList=[.tmp 2]:=by kernel_rfl
theorem info3:(Tp.info? 3).map (fun i=>(i.size,i.bytes,i.zero.map ofConst))=some (1,8,some (.int .i64 0)):=by kernel_rfl
theorem zero28_ok:PrimOk Tp 28 zero28:=by
  refine primOk_pure (pol:=pol) (fn:=Try.f28) (cd:=B28) follows_mixed sound (by kernel_rfl) (by kernel_rfl) (fnok pol.prim _ _ (by kernel_rfl)) (by kernel_rfl) ?_
  intro args res h
  obtain ⟨l,rfl,hq⟩:=liF_inv h
  clear h
  split at hq
  case isFalse=>cases hq
  rename_i hl
  cases hq
  have mk:=makeV_ok (P:=Tp) (H:=[]) (t:=22) (e:=3) (k:=1) (bt:=8) (zv:=.int .i64 0) (n:=(l.length:Int)) u22 info3 (by simp [cellsOf,cellV]) (by simp [cellsOf]) (by omega) (by omega) (by simp only [roomMax]; omega)
  rw [Int.toNat_natCast] at mk
  have s:=zr_0 (l.map encI) (by rw [List.length_map]; exact mk)
  rw [List.length_map] at s
  have e:(List.replicate l.length (0:Int)).map encI=List.replicate l.length (.int .i64 0):=by rw [List.map_replicate]; rfl
  refine ⟨_,_,_,.sl 0 0 l.length (some l.length) l.length 1,s,by simp,by simp only [resultsV,res28]; rfl,?_⟩
  rw [e]
  show toRes _ false _=_
  have hr:=resCell_sl (H:=[.arr 1 (List.replicate l.length (.int .i64 0)) true 0]) (no:=[0]) (b:=0) (k:=1) (m:=l.length) (cap:=some l.length) (els:=List.replicate l.length (.int .i64 0)) rfl (by simp) (by rw [← e]; exact mapO_self (fun r=>frz_int 4 r) _)
  have ho:ownedAll [Blk.arr 1 (List.replicate l.length (.int .i64 0)) true 0] false (.sl 0 0 l.length (some l.length) l.length 1)=[0]:=rfl
  simp only [toRes,ho,List.nodup_cons,List.not_mem_nil,not_false_eq_true,List.nodup_nil,and_self,if_true,resVal,hr]
end Go.Proofs.Ytaibmipamkaljaa
end
section
open Go Go.HL
namespace Go.Proofs.Ytaibmipamkaljaa
theorem lit_seal' {P:Program} {H:Heap} {t e k b p mx bt:Nat} {zv:HV} {els:List HV} (ht:P.underlying t=some (.slice e)) (hI:(P.info? e).map (fun i=>(i.size,i.bytes,i.zero.map ofConst))=some (1,bt,some zv)) (hc:(cellsOf zv).all cellV=true) (hs:(cellsOf zv).length=1)
    (hb:H[b]?=some (.arr k els true mx)) (hp:els.length=p) (hr:resPL els=true) :
    ∃ w,litV P true false t 1 [(0,.sl b 0 p none p k)] H=some (.imm .lit 1 [.imm .own k els],H.set b (.arr k els w mx)):=by
  by_cases h0:p=0
  · subst h0
    have hn:els=[]:=List.length_eq_zero_iff.1 hp
    subst hn
    refine ⟨true,?_⟩
    have hH:H.set b (.arr k [] true mx)=H:=by
      apply List.ext_getElem?
      intro i
      rw [List.getElem?_set]
      split
      · rename_i hi
        subst hi
        split
        · exact hb.symm
        · rename_i hlt; exact absurd (lt_of_get hb) hlt
      · rfl
    rw [hH]
    cases hi:P.info? e with
    | none=>rw [hi] at hI; cases hI
    | some i =>
      rw [hi] at hI
      simp only [Option.map_some,Option.some.injEq,Prod.mk.injEq] at hI
      obtain ⟨h1,rfl,hz⟩:=hI
      cases hz2:i.zero with
      | none=>rw [hz2] at hz; cases hz
      | some z =>
        rw [hz2] at hz
        simp only [Option.map_some,Option.some.injEq] at hz
        subst hz
        have hse:seals [.sl b 0 0 none 0 k] H=some ([.imm .own k []],H):=by simp only [seals,seal1,if_true]
        simp only [litV,ht,hi,hz2,if_true,List.map_cons,List.map_nil,hse,h1]
        rw [if_pos ⟨by omega,hs,hc,by omega,by simp [cellsOf,cellV],by simp⟩]
        simp [bndL,bnd]
  · exact ⟨false,lit_seal ht hI hc hs hb hp h0 hr⟩
theorem res_O (r:List Int):resP (encO r)=true:=by
  have:resPL (r.map encI)=true:=ints_res r
  simp only [encO,resP,this]; rfl
theorem frz_O {H:Heap} {no:List Nat} (r:List Int):frz H no 4 (encO r)=some (encO r):=by
  show (if resP (encO r) then some (encO r) else none)=_
  rw [res_O]; rfl
theorem encO_bnd:∀ (l:List (List Int)),bndL (l.map encO)=0
  | []=>rfl
  | e :: l=>by simp only [List.map_cons,bndL,encO,bnd,encO_bnd l]; rfl
theorem res_rs {H:Heap} {b k:Nat} {R:List (List Int)} (hb:H[b]?=some (.arr 1 (R.map encO) true 0)) (hk:R.length=k):toRes H false (.sl b 0 k none k 1)=some (.own 1 (R.map encO)):=by
  have hr:=resCell_sl (H:=H) (no:=[b]) (b:=b) (k:=1) (m:=k) (cap:=none) (els:=R.map encO) hb (by simpa using hk) (mapO_self (fun r=>frz_O r) _)
  have ho:ownedAll H false (.sl b 0 k none k 1)=[b]:=by simp [ownedAll,cellsOf,owned,hb]
  simp only [toRes,ho,List.nodup_cons,List.not_mem_nil,not_false_eq_true,List.nodup_nil,and_self,if_true,resVal,hr]
theorem app_O {H:Heap} {b:Nat} {R:List (List Int)} (hb:H[b]?=some (.arr 1 (R.map encO) true 0)) (hlen:R.length ≤ 1000) (r:List Int) :
    appV H 1 24 (.sl b 0 R.length none R.length 1) [encO r]=some (.sl b 0 (R.length+1) none (R.length+1) 1,H.set b (.arr 1 ((R ++ [r]).map encO) true 0)):=by
  have:=app_sl (H:=H) (k:=1) (bytes:=24) (b:=b) (n:=R.length) (mx:=0) (els:=R.map encO) (xs:=[encO r]) hb (by simp) (by simp) (by simp only [roomMax,List.length_singleton]; omega) (encO_bnd [r])
  rw [this]
  simp only [List.map_append,List.map_cons,List.map_nil,List.length_singleton]
def posG (gl:List Int):Bool:=gl.all fun v=>decide (0 < v∧v < 9223372036854775808)
end Go.Proofs.Ytaibmipamkaljaa
end
section
open Go Go.HL
namespace Go.Proofs.Ytaibmipamkaljaa
abbrev bO (R:List (List Int)):Blk:=.arr 1 (R.map encO) true 0
end Go.Proofs.Ytaibmipamkaljaa
end
section
open Go Go.HL
namespace Go.Proofs.Ytaibmipamkaljaa
def GrL (gl:List Int) (g:Gr) (e:Int):Prop :=
  (∃ m,gl=[m]∧g=(m,1,1)∧e=m∧2 ≤ m∧m ≤ 24) ∨ (∃ a b,gl=[a,b]∧g=(a,b,2)∧e=b∧2 ≤ a∧a ≤ 12∧2 ≤ b∧b ≤ 24∧a * b ≤ 144∧b % a=0)
theorem GrL.new {gl:List Int} {g:Gr} {e:Int} (h:GrL gl g e):newGroupT gl=(g,true):=by
  rcases h with ⟨m,rfl,rfl,rfl,h1,h2⟩ | ⟨a,b,rfl,rfl,rfl,h1,h2,h3,h4,h5,h6⟩
  · simp only [newGroupT,in_t ⟨h1,h2⟩,if_true]
  · simp only [newGroupT,in_t (a:=a) (lo:=2) (hi:=24) ⟨h1,by omega⟩,in_t ⟨h3,h4⟩,Bool.and_self,if_true,decide_eq_true h5,decide_eq_true h6]
theorem GrL.ok {gl:List Int} {g:Gr} {e:Int} (h:GrL gl g e):grOk g:=by
  rcases h with ⟨m,rfl,rfl,rfl,h1,h2⟩ | ⟨a,b,rfl,rfl,rfl,h1,h2,h3,h4,h5,h6⟩
  · exact ⟨⟨by show 1 ≤ e; omega,by show e ≤ 1000; omega⟩,by show (1:Int) ≤ 1; omega,by show (1:Int) ≤ 1000; omega⟩
  · exact ⟨⟨by show 1 ≤ a; omega,by show a ≤ 1000; omega⟩,by show 1 ≤ e; omega,by show e ≤ 1000; omega⟩
theorem GrL.pos {gl:List Int} {g:Gr} {e:Int} (h:GrL gl g e):posG gl=true∧1 ≤ gl.length∧gl.length ≤ 2∧(∀ j,j < gl.length → 2 ≤ gl.getD j 0∧gl.getD j 0 ≤ 24)∧gl.getD (gl.length - 1) 0=e∧2 ≤ e∧e ≤ 24:=by
  rcases h with ⟨m,rfl,rfl,rfl,h1,h2⟩ | ⟨a,b,rfl,rfl,rfl,h1,h2,h3,h4,h5,h6⟩
  · refine ⟨?_,by simp,by simp,?_,rfl,h1,h2⟩
    · simp only [posG,List.all_cons,List.all_nil,Bool.and_true]; exact decide_eq_true (by omega)
    · intro j hj
      have:j=0:=by simp at hj; exact hj
      subst this; exact ⟨h1,h2⟩
  · refine ⟨?_,by simp,by simp,?_,rfl,h3,h4⟩
    · simp only [posG,List.all_cons,List.all_nil,Bool.and_true,Bool.and_eq_true]; exact ⟨decide_eq_true (by omega),decide_eq_true (by omega)⟩
    · intro j hj
      match j,hj with
      | 0,_=>exact ⟨h1,by show a ≤ 24; omega⟩
      | 1,_=>exact ⟨h3,h4⟩
      | j+2,hj=>simp only [List.length_cons,List.length_nil] at hj; omega
def elOf (r:List Int):El:=(r.getD 0 0,r.getD 1 0)
def rowOk (gl r:List Int):Prop:=r.length=gl.length∧∀ j,j < gl.length → 0 ≤ r.getD j 0∧r.getD j 0 < gl.getD j 0
theorem GrL.elem {gl:List Int} {g:Gr} {e:Int} (h:GrL gl g e) {r:List Int} (hr:rowOk gl r):elementT g r=(elOf r,true):=by
  obtain ⟨hl,hr⟩:=hr
  rcases h with ⟨m,rfl,rfl,rfl,h1,h2⟩ | ⟨a,b,rfl,rfl,rfl,h1,h2,h3,h4,h5,h6⟩
  · match r,hl with
    | [x],_ =>
      have k:=hr 0 (by simp)
      have k1:0 ≤ x∧x ≤ e - 1:=⟨k.1,by have:=k.2; simp at this; omega⟩
      simp only [elementT,in_t k1,and_self,if_true]; rfl
  · match r,hl with
    | [x,y],_ =>
      have k:=hr 0 (by simp)
      have q:=hr 1 (by simp)
      have k1:0 ≤ x∧x ≤ a - 1:=⟨k.1,by have:=k.2; simp at this; omega⟩
      have k2:0 ≤ y∧y ≤ e - 1:=⟨q.1,by have:=q.2; simp at this; omega⟩
      simp only [elementT,in_t k1,in_t k2,and_self,if_true]; rfl
def zeroAt (g:Gr) (x:El) (k:Nat):Prop:=((k:Int) * x.1) % g.1=0∧((k:Int) * x.2) % g.2.1=0
def mulT (g:Gr) (x:El) (k:Nat):El:=(((k:Int) * x.1) % g.1,((k:Int) * x.2) % g.2.1)
theorem mulT_zero {g:Gr} {x:El} {k:Nat}:mulT g x k=(0,0) ↔ zeroAt g x k:=by simp [mulT,zeroAt,Prod.ext_iff]
theorem mulT_succ (g:Gr) (x:El) (k:Nat):addT g (mulT g x k) x=mulT g x (k+1):=by
  simp only [addT,mulT,Int.emod_add_emod]
  congr 1 <;> · congr 1; rw [show ((k+1:Nat):Int)=(k:Int)+1 by omega,Int.add_mul]; omega
theorem mulT_one {g:Gr} (x:El) (h:elOk g x):mulT g x 1=x:=by
  obtain ⟨⟨a,b⟩,c,d⟩:=h
  have e1:(((1:Nat):Int) * x.1) % g.1=x.1:=by rw [show (((1:Nat):Int) * x.1)=x.1 by omega]; exact Int.emod_eq_of_lt a b
  have e2:(((1:Nat):Int) * x.2) % g.2.1=x.2:=by rw [show (((1:Nat):Int) * x.2)=x.2 by omega]; exact Int.emod_eq_of_lt c d
  simp only [mulT,e1,e2]
def isOrd (g:Gr) (x:El) (o:Nat):Prop:=1 ≤ o∧zeroAt g x o∧∀ k,1 ≤ k → k < o → ¬ zeroAt g x k
theorem ord_ex {g:Gr} {x:El}:∀ (e:Nat),1 ≤ e → zeroAt g x e → ∃ o,isOrd g x o∧o ≤ e:=by
  intro e
  induction e using Nat.strongRecOn with
  | ind e ih =>
    intro h1 h2
    by_cases c:∃ k,1 ≤ k∧k < e∧zeroAt g x k
    · obtain ⟨k,a,b,d⟩:=c
      obtain ⟨o,p,q⟩:=ih k b a d
      exact ⟨o,p,by omega⟩
    · exact ⟨e,⟨h1,h2,fun k a b d=>c ⟨k,a,b,d⟩⟩,Nat.le_refl _⟩
theorem ord_dvd {g:Gr} {x:El} {o e:Nat} (ho:isOrd g x o) (he:zeroAt g x e):e % o=0:=by
  apply Classical.byContradiction
  intro hne
  refine ho.2.2 (e % o) (by omega) (Nat.mod_lt _ ho.1) ?_
  have key:∀ (m y:Int),((e:Int) * y) % m=0 → ((o:Int) * y) % m=0 → (((e % o:Nat):Int) * y) % m=0:=by
    intro m y h1 h2
    have d1:=Int.dvd_of_emod_eq_zero h1
    have d2:=Int.dvd_of_emod_eq_zero h2
    have e1:((e % o:Nat):Int) * y=(e:Int) * y - ((e / o:Nat):Int) * ((o:Int) * y):=by
      have:(e:Int)=(o:Int) * ((e / o:Nat):Int)+((e % o:Nat):Int):=by
        have:=Nat.div_add_mod e o; exact_mod_cast this.symm
      rw [show ((e:Int) * y)=((o:Int) * ((e / o:Nat):Int)+((e % o:Nat):Int)) * y by rw [← this],Int.add_mul,
        show (o:Int) * ((e / o:Nat):Int) * y=((e / o:Nat):Int) * ((o:Int) * y) by rw [Int.mul_comm (o:Int),Int.mul_assoc]]
      omega
    rw [e1]
    exact Int.emod_eq_zero_of_dvd (Int.dvd_sub d1 (Int.dvd_trans d2 (Int.dvd_mul_left ..)))
  exact ⟨key _ _ he.1 ho.2.1.1,key _ _ he.2 ho.2.1.2⟩
theorem ordF_eq {g:Gr} {x:El} {o:Nat} (ho:isOrd g x o):∀ (f n:Nat),1 ≤ n → n ≤ o → o < n+f → ordF g x f (mulT g x n) n=some o:=by
  intro f
  induction f with
  | zero=>intro n h1 h2 h3; omega
  | succ f ih =>
    intro n h1 h2 h3
    rw [ordF]
    by_cases c:n=o
    · rw [if_pos (mulT_zero.2 (c ▸ ho.2.1)),c]
    · rw [if_neg (fun h=>ho.2.2 n h1 (by omega) (mulT_zero.1 h)),mulT_succ]
      exact ih (n+1) (by omega) (by omega) (by omega)
theorem GrL.zeroE {gl:List Int} {g:Gr} {e:Int} (h:GrL gl g e) (x:El) (hx:elOk g x):zeroAt g x e.toNat:=by
  rcases h with ⟨m,rfl,rfl,rfl,h1,h2⟩ | ⟨a,b,rfl,rfl,rfl,h1,h2,h3,h4,h5,h6⟩
  · refine ⟨?_,?_⟩
    · show ((e.toNat:Int) * x.1) % e=0
      rw [Int.toNat_of_nonneg (by omega)]; exact Int.mul_emod_right _ _
    · show ((e.toNat:Int) * x.2) % 1=0; omega
  · refine ⟨?_,?_⟩
    · show ((e.toNat:Int) * x.1) % a=0
      rw [Int.toNat_of_nonneg (by omega)]
      exact Int.emod_eq_zero_of_dvd (Int.dvd_trans (Int.dvd_of_emod_eq_zero h6) (Int.dvd_mul_right ..))
    · show ((e.toNat:Int) * x.2) % e=0
      rw [Int.toNat_of_nonneg (by omega)]; exact Int.mul_emod_right _ _
theorem GrL.order {gl:List Int} {g:Gr} {e:Int} (h:GrL gl g e) {r:List Int} (hr:rowOk gl r):∃ o,isOrd g (elOf r) o∧(o:Int) ≤ e∧e % (o:Int)=0∧orderT gl r=some ((o:Int),0):=by
  have he:=h.elem hr
  have hx:elOk g (elOf r):=by have:=element_el h.ok (l:=r) (by rw [he]); rwa [he] at this
  have hz:=h.zeroE _ hx
  have hp:=h.pos
  obtain ⟨o,ho,hoe⟩:=ord_ex e.toNat (by omega) hz
  have hd:=ord_dvd ho hz
  have e1:(e.toNat:Int)=e:=Int.toNat_of_nonneg (by omega)
  refine ⟨o,ho,by omega,?_,?_⟩
  · rw [← e1]; exact_mod_cast hd
  · have hm:=mulT_one _ hx
    have hf:=ordF_eq ho 1000 1 (Nat.le_refl _) ho.1 (by omega)
    rw [hm] at hf
    simp only [orderT,h.new,he,if_true,hf,Option.map]
theorem rch_rep {g:Gr} {x:El} (hx:elOk g x):∀ (o:Nat) (w:Wt),w ∈ (rchT g (List.replicate o x)).headD [] ↔ ∃ j:Nat,j ≤ o∧w=((j:Int),mulT g x j)
  | 0,w=>by
    simp only [List.replicate,rchT,List.headD_cons,List.mem_singleton]
    have m0:mulT g x 0=(0,0):=by simp [mulT]
    constructor
    · rintro rfl; exact ⟨0,Nat.le_refl _,by rw [m0]; rfl⟩
    · rintro ⟨j,h1,rfl⟩
      have:j=0:=by omega
      subst this; rw [m0]; rfl
  | o+1,w=>by
    rw [List.replicate_succ]
    show w ∈ rchStep g x ((rchT g (List.replicate o x)).headD []) ↔ _
    rw [mem_step]
    constructor
    · rintro ⟨u,h1,h2⟩
      obtain ⟨j,h3,rfl⟩:=(rch_rep hx o u).1 h1
      rcases h2 with rfl | rfl
      · exact ⟨j,by omega,rfl⟩
      · exact ⟨j+1,by omega,by rw [rchW,mulT_succ]; rfl⟩
    · rintro ⟨j,h1,rfl⟩
      by_cases c:j ≤ o
      · exact ⟨_,(rch_rep hx o _).2 ⟨j,c,rfl⟩,.inl rfl⟩
      · obtain ⟨i,rfl⟩:∃ i,j=i+1:=⟨j - 1,by omega⟩
        exact ⟨_,(rch_rep hx o _).2 ⟨i,by omega,rfl⟩,.inr (by rw [rchW,mulT_succ]; rfl)⟩
theorem partT_len {g:Gr} (hg:grOk g):∀ (l:List El) (i:Nat) (w:Wt),(∀ x ∈ l,elOk g x) → w ∈ (rchT g l).headD [] → ((partT g l i w).length:Int)=w.1
  | [],i,w,_,h=>by simp [rchT] at h; subst h; rfl
  | x :: l,i,w,hl,h=>by
    have hx:=hl x (by simp)
    have hl':∀ y ∈ l,elOk g y:=fun y hy=>hl y (by simp [hy])
    rw [partT]
    split
    · rename_i c; rw [c]; rfl
    · split
      · rename_i c
        have:=partT_len hg l (i+1) _ hl' c
        simp only [List.length_cons]
        simp only at this
        omega
      · rename_i c
        rcases part_next hg hx h with h' | h'
        · exact absurd h' c
        · exact partT_len hg l (i+1) w hl' h'
theorem shT_eq {g:Gr} {l:List El} {t:El} {o:Nat} (h1:((o:Int),t) ∈ (rchT g l).headD []):∀ (f j:Nat),(∀ k,j ≤ k → k < o → ((k:Int),t) ∉ (rchT g l).headD []) → j ≤ o → o < j+f → shT g l t f j=some (partI g l ((o:Int),t)):=by
  intro f
  induction f with
  | zero=>intro j _ h3 h4; omega
  | succ f ih =>
    intro j h2 h3 h4
    rw [shT]
    by_cases c:j=o
    · subst c; rw [if_pos h1]
    · rw [if_neg (h2 j (Nat.le_refl _) (by omega))]
      exact ih (j+1) (fun k a b=>h2 k (by omega) b) (by omega) (by omega)
theorem GrL.zero {gl:List Int} {g:Gr} {e:Int} (h:GrL gl g e) {r:List Int} (hr:rowOk gl r) {o:Nat} (ho:isOrd g (elOf r) o) (hoe:o ≤ 60):∃ p,zeroT gl (List.replicate o r)=(p,0)∧p.length=o:=by
  have he:=h.elem hr
  have hx:elOk g (elOf r):=by have:=element_el h.ok (l:=r) (by rw [he]); rwa [he] at this
  have hes:elemsT g (List.replicate o r)=some (List.replicate o (elOf r)):=by
    unfold elemsT
    rw [if_pos ⟨by simpa using hoe,by rw [List.all_eq_true]; intro x hx; rw [(List.mem_replicate.1 hx).2,he]⟩,List.map_replicate,he]
  have hz:((o:Int),((0,0):El)) ∈ (rchT g (List.replicate o (elOf r))).headD []:=(rch_rep hx o _).2 ⟨o,Nat.le_refl _,by rw [mulT_zero.2 ho.2.1]⟩
  have hs:=shT_eq hz o 1 (fun k h1 h2 h3=>by
    obtain ⟨j,_,hj⟩:=(rch_rep hx o _).1 h3
    simp only [Prod.mk.injEq] at hj
    have:k=j:=by omega
    subst this
    exact ho.2.2 k h1 h2 (mulT_zero.1 hj.2.symm)) ho.1 (by omega)
  refine ⟨partI g (List.replicate o (elOf r)) ((o:Int),(0,0)),?_,?_⟩
  · simp only [zeroT,h.new,if_true,hes,List.length_replicate,hs,shP]
  · have:=partT_len h.ok (List.replicate o (elOf r)) 0 ((o:Int),(0,0)) (fun x hx'=>by rw [(List.mem_replicate.1 hx').2]; exact hx) hz
    simp only [partI,List.length_map]
    simp only at this
    omega
end Go.Proofs.Ytaibmipamkaljaa
end
section
open Go Go.HL
namespace Go.Proofs.Ytaibmipamkaljaa
def tE (gl:List Int) (c:Int):El:=match gl with | [_,b]=>(c / b,c % b) | _=>(c,0)
abbrev eE (gl x:List Int):El:=tE gl (codeT gl x)
abbrev els (gl:List Int) (R:List (List Int)):List El:=R.map (eE gl)
abbrev grG (gl:List Int):Gr:=(newGroupT gl).1
theorem in_B {a lo hi:Int} (h:lo ≤ a∧a ≤ hi):inB a lo hi=true:=decide_eq_true h
theorem new_one {a:Int} (h1:2 ≤ a) (h2:a ≤ 24):newGroupT [a]=((a,1,1),true):=by simp only [newGroupT]; rw [if_pos (in_B ⟨h1,h2⟩)]
theorem new_two {a b:Int} (h1:2 ≤ a) (h2:a ≤ 24) (h3:2 ≤ b) (h4:b ≤ 24) (h5:a * b ≤ 144) (h6:b % a=0):newGroupT [a,b]=((a,b,2),true):=by
  simp only [newGroupT]; rw [in_B ⟨h1,h2⟩,in_B ⟨h3,h4⟩,decide_eq_true h5,decide_eq_true h6]; rfl
theorem tE_two {b u v a:Int} (h:0 ≤ v∧v < b):tE [a,b] (u * b+v)=(u,v):=by
  show ((u * b+v) / b,(u * b+v) % b)=_
  rw [Int.add_comm,Int.add_mul_ediv_right _ _ (by omega),Int.add_mul_emod_self_right,Int.ediv_eq_zero_of_lt h.1 h.2,Int.emod_eq_of_lt h.1 h.2,Int.zero_add]
theorem el_E {gl x:List Int} (hg:(newGroupT gl).2=true) (hx:elB gl x=true):elementT (grG gl) x=(eE gl x,true):=by
  rcases grp_cases hg with ⟨a,rfl,h1,h2⟩ | ⟨a,b,rfl,h1,h2,h3,h4,h5,h6⟩
  · obtain ⟨u,rfl,k1,k2⟩:=el_one hx
    simp only [grG,new_one h1 h2,elementT]
    rw [if_pos ⟨trivial,in_B ⟨k1,by omega⟩⟩]; rfl
  · obtain ⟨u,v,rfl,k1,k2⟩:=el_two hx
    simp only [grG,new_two h1 h2 h3 h4 h5 h6,elementT,eE,codeT,tE_two k2]
    rw [if_pos ⟨trivial,in_B ⟨k1.1,by omega⟩⟩,if_pos (in_B ⟨k2.1,by omega⟩)]
theorem el_no {gl x:List Int} (hg:(newGroupT gl).2=true) (hx:elB gl x=false):(elementT (grG gl) x).2=false:=by
  rcases grp_cases hg with ⟨a,rfl,h1,h2⟩ | ⟨a,b,rfl,h1,h2,h3,h4,h5,h6⟩
  · simp only [grG,new_one h1 h2]
    match x with
    | []=>rfl
    | [u] =>
      simp only [elementT]
      split
      · rename_i h
        have k:=of_decide_eq_true h.2
        rw [el_mk1 (a:=a) (u:=u) ⟨k.1,by omega⟩] at hx; cases hx
      · rfl
    | [u,v]=>simp only [elementT]; rfl
    | u :: v :: w :: x=>rfl
  · simp only [grG,new_two h1 h2 h3 h4 h5 h6]
    match x with
    | []=>rfl
    | [u]=>simp only [elementT]; rfl
    | [u,v] =>
      simp only [elementT]
      split
      · rename_i h
        have k:=of_decide_eq_true h.2
        split
        · rename_i h'
          have k':=of_decide_eq_true h'
          rw [el_mk2 (a:=a) (b:=b) (u:=u) (v:=v) ⟨k.1,by omega⟩ ⟨k'.1,by omega⟩] at hx; cases hx
        · rfl
      · rfl
    | u :: v :: w :: x=>rfl
theorem grG_ok {gl:List Int} (hg:(newGroupT gl).2=true):grOk (grG gl):=by
  rcases grp_cases hg with ⟨a,rfl,h1,h2⟩ | ⟨a,b,rfl,h1,h2,h3,h4,h5,h6⟩
  · simp only [grG,new_one h1 h2]; exact ⟨⟨by show 1 ≤ a; omega,by show a ≤ 1000; omega⟩,by show (1:Int) ≤ 1; omega,by show (1:Int) ≤ 1000; omega⟩
  · simp only [grG,new_two h1 h2 h3 h4 h5 h6]; exact ⟨⟨by show 1 ≤ a; omega,by show a ≤ 1000; omega⟩,by show 1 ≤ b; omega,by show b ≤ 1000; omega⟩
theorem tE_ok {gl:List Int} (hg:(newGroupT gl).2=true) {c:Int} (hc:0 ≤ c∧c < sizeT gl):elOk (grG gl) (tE gl c):=by
  rcases grp_cases hg with ⟨a,rfl,h1,h2⟩ | ⟨a,b,rfl,h1,h2,h3,h4,h5,h6⟩
  · simp only [grG,new_one h1 h2]; exact ⟨hc,Int.le_refl _,by show (0:Int) < 1; omega⟩
  · have c1:c < a * b:=hc.2
    simp only [grG,new_two h1 h2 h3 h4 h5 h6]
    exact ⟨⟨Int.ediv_nonneg hc.1 (by omega),Int.ediv_lt_of_lt_mul (by omega) c1⟩,Int.emod_nonneg _ (by omega),Int.emod_lt_of_pos _ (by omega)⟩
theorem tE_zero {gl:List Int} (hg:(newGroupT gl).2=true) {c:Int} (hc:0 ≤ c∧c < sizeT gl):tE gl c=(0,0) ↔ c=0:=by
  rcases grp_cases hg with ⟨a,rfl,h1,h2⟩ | ⟨a,b,rfl,h1,h2,h3,h4,h5,h6⟩
  · simp [tE]
  · constructor
    · intro h
      simp only [tE,Prod.mk.injEq] at h
      have:=Int.mul_ediv_add_emod c b
      rw [h.1,h.2] at this; omega
    · rintro rfl; simp [tE]
theorem tE_less {gl x:List Int} (hg:(newGroupT gl).2=true) {c:Int} (hx:elB gl x=true):tE gl (lessC gl c x)=subT (grG gl) (tE gl c) (eE gl x):=by
  rcases grp_cases hg with ⟨a,rfl,h1,h2⟩ | ⟨a,b,rfl,h1,h2,h3,h4,h5,h6⟩
  · obtain ⟨u,rfl,k1,k2⟩:=el_one hx
    simp only [grG,new_one h1 h2]; exact Prod.ext rfl (by show (0:Int)=(0 - 0+1) % 1; decide)
  · obtain ⟨u,v,rfl,k1,k2⟩:=el_two hx
    simp only [grG,new_two h1 h2 h3 h4 h5 h6,eE,lessC,codeT,lessT]
    rw [tE_two (mod_in (by omega) _),tE_two k2]; rfl
theorem eE_ok {gl x:List Int} (hg:(newGroupT gl).2=true) (hx:elB gl x=true):elOk (grG gl) (eE gl x):=tE_ok hg (code_bnd hg hx)
theorem add_subT {g:Gr} (hg:grOk g) {x u:El} (hu:elOk g u):addT g (subT g u x) x=u:=by
  obtain ⟨m0,m1,sz⟩:=g
  obtain ⟨⟨g1,g2⟩,g3,g4⟩:=hg
  obtain ⟨x0,x1⟩:=x
  obtain ⟨u0,u1⟩:=u
  obtain ⟨⟨b1,b2⟩,b3,b4⟩:=hu
  simp only at g1 g2 g3 g4 b1 b2 b3 b4
  have key:∀ (m a b:Int),0 ≤ b → b < m → ((b - a+m) % m+a) % m=b:=by
    intro m a b h3 h4
    rw [Int.emod_add_emod,show b - a+m+a=b+m by omega,Int.add_emod_right]
    exact Int.emod_eq_of_lt h3 h4
  simp only [subT,addT]
  rw [key m0 x0 u0 b1 b2,key m1 x1 u1 b3 b4]
theorem rch_cons {g:Gr} (hg:grOk g) {x:El} (hx:elOk g x) (l:List El) {k:Int} {t:El} (ht:elOk g t) :
    (k,t) ∈ (rchT g (x :: l)).headD [] ↔ (k,t) ∈ (rchT g l).headD [] ∨ (k - 1,subT g t x) ∈ (rchT g l).headD []:=by
  constructor
  · intro h
    exact (part_next hg hx h).symm
  · intro h
    show (k,t) ∈ rchStep g x ((rchT g l).headD [])
    rw [mem_step]
    rcases h with h | h
    · exact ⟨_,h,.inl rfl⟩
    · refine ⟨_,h,.inr ?_⟩
      simp only [rchW]
      rw [add_subT hg ht,show k - 1+1=k by omega]
section
variable {gl:List Int} (hg:(newGroupT gl).2=true)
include hg
theorem fT_spec:∀ (R:List (List Int)),(∀ x ∈ R,elB gl x=true) → ∀ c,(0 ≤ c∧c < sizeT gl) →
    (∀ k,(k,tE gl c) ∈ (rchT (grG gl) (els gl R)).headD [] → fT gl R c ≤ k)∧(fT gl R c < 1099511627776 → (fT gl R c,tE gl c) ∈ (rchT (grG gl) (els gl R)).headD [])
  | [],_,c,hc=>by
    simp only [els,List.map_nil,rchT,List.headD_cons,List.mem_singleton,fT]
    refine ⟨fun k h=>?_,fun h=>?_⟩
    · have h1:k=0:=congrArg Prod.fst h
      have h2:tE gl c=(0,0):=congrArg Prod.snd h
      rw [if_pos ((tE_zero hg hc).1 h2),h1]; exact Int.le_refl _
    · split at h
      · rename_i e
        rw [if_pos e,(tE_zero hg hc).2 e]
      · omega
  | x :: R,hR,c,hc=>by
    have hx:=hR x (by simp)
    have hR':∀ y ∈ R,elB gl y=true:=fun y hy=>hR y (by simp [hy])
    have hl:=less_bnd (c:=c) hg hx
    obtain ⟨a1,a2⟩:=fT_spec R hR' c hc
    obtain ⟨b1,b2⟩:=fT_spec R hR' _ hl
    have hb:=fT_bnd gl R (lessC gl c x)
    rw [tE_less hg hx] at b1 b2
    have hrc:=fun k=>rch_cons (grG_ok hg) (eE_ok hg hx) (els gl R) (k:=k) (tE_ok hg hc)
    show (∀ k,(k,tE gl c) ∈ (rchT (grG gl) (eE gl x :: els gl R)).headD [] → _)∧(_ → _ ∈ (rchT (grG gl) (eE gl x :: els gl R)).headD [])
    refine ⟨fun k h=>?_,fun h=>?_⟩
    · rw [fT]
      rcases (hrc k).1 h with h | h
      · have:=a1 k h; omega
      · have:=b1 (k - 1) h; omega
    · rw [fT] at h ⊢
      refine (hrc _).2 ?_
      by_cases c1:fT gl R c ≤ 1+fT gl R (lessC gl c x)
      · rw [Int.min_eq_left c1] at h ⊢
        exact .inl (a2 h)
      · rw [Int.min_eq_right (by omega)] at h ⊢
        refine .inr ?_
        rw [show 1+fT gl R (lessC gl c x) - 1=fT gl R (lessC gl c x) by omega]
        exact b2 (by omega)
theorem ch_part:∀ (R:List (List Int)) (i:Nat) (c b:Int),(∀ x ∈ R,elB gl x=true) → R.length ≤ 900 → (0 ≤ c∧c < sizeT gl) → 0 ≤ b → (b,tE gl c) ∈ (rchT (grG gl) (els gl R)).headD [] →
    (∀ k,1 ≤ k → (k,tE gl c) ∈ (rchT (grG gl) (els gl R)).headD [] → b ≤ k) → chT gl R i c b=partT (grG gl) (els gl R) i (b,tE gl c)
  | [],i,c,b,_,_,_,_,_,_=>rfl
  | x :: R,i,c,b,hR,hll,hc,hb,hin,hmin=>by
    have hx:=hR x (by simp)
    have hR':∀ y ∈ R,elB gl y=true:=fun y hy=>hR y (by simp [hy])
    have hl:=less_bnd (c:=c) hg hx
    simp only [List.length_cons] at hll
    have hok:=(head_ok (grG_ok hg) (els gl (x :: R)) _ hin).2.2
    simp only [els,List.length_map,List.length_cons] at hok
    obtain ⟨b1,b2⟩:=fT_spec hg R hR' _ hl
    rw [tE_less hg hx] at b1 b2
    have hrc:=fun k=>rch_cons (grG_ok hg) (eE_ok hg hx) (els gl R) (k:=k) (tE_ok hg hc)
    have hin':(b,tE gl c) ∈ (rchT (grG gl) (eE gl x :: els gl R)).headD []:=hin
    have hmin':∀ k,1 ≤ k → (k,tE gl c) ∈ (rchT (grG gl) (eE gl x :: els gl R)).headD [] → b ≤ k:=hmin
    show _=partT (grG gl) (eE gl x :: els gl R) i (b,tE gl c)
    rw [chT,partT]
    by_cases hb0:b ≤ 0
    · rw [if_pos hb0,if_pos (show b=0 by omega)]
    · rw [if_neg hb0,if_neg (show ¬ b=0 by omega)]
      have key:1+fT gl R (lessC gl c x)=b ↔ (b - 1,subT (grG gl) (tE gl c) (eE gl x)) ∈ (rchT (grG gl) (els gl R)).headD []:=by
        constructor
        · intro e
          rw [← e,show 1+fT gl R (lessC gl c x) - 1=fT gl R (lessC gl c x) by omega]
          exact b2 (by omega)
        · intro h
          have h1:=b1 _ h
          have h0:=fT_bnd gl R (lessC gl c x)
          have h2:=hmin' (1+fT gl R (lessC gl c x)) (by omega) ((hrc _).2 (.inr (by
            rw [show 1+fT gl R (lessC gl c x) - 1=fT gl R (lessC gl c x) by omega]
            exact b2 (by omega))))
          omega
      by_cases hc1:1+fT gl R (lessC gl c x)=b
      · rw [if_pos hc1,if_pos (key.1 hc1)]
        have:=ch_part R (i+1) (lessC gl c x) (b - 1) hR' (by omega) hl (by omega) (by rw [tE_less hg hx]; exact key.1 hc1) (fun k hk h=>by
          rw [tE_less hg hx] at h
          have:=hmin' (k+1) (by omega) ((hrc _).2 (.inr (by rw [show k+1 - 1=k by omega]; exact h)))
          omega)
        rw [this,tE_less hg hx]
      · rw [if_neg hc1,if_neg (fun h=>hc1 (key.2 h))]
        rcases (hrc b).1 hin' with h | h
        · exact ch_part R (i+1) c b hR' (by omega) hc hb h (fun k hk h=>hmin' k hk ((hrc k).2 (.inl h)))
        · exact absurd (key.2 h) hc1
theorem bst_spec {c:Int} (hc:0 ≤ c∧c < sizeT gl):∀ (R:List (List Int)) (b0:Int),(∀ x ∈ R,elB gl x=true) → b0 ≤ 1099511627776 →
    (∀ k,1 ≤ k → (k,tE gl c) ∈ (rchT (grG gl) (els gl R)).headD [] → bst gl R c b0 ≤ k)∧bst gl R c b0 ≤ b0∧(bst gl R c b0 < b0 → 1 ≤ bst gl R c b0∧(bst gl R c b0,tE gl c) ∈ (rchT (grG gl) (els gl R)).headD [])
  | [],b0,_,_=>by
    simp only [els,List.map_nil,rchT,List.headD_cons,List.mem_singleton,bst]
    refine ⟨fun k hk h=>?_,Int.le_refl _,fun h=>by omega⟩
    have h1:k=0:=congrArg Prod.fst h
    omega
  | x :: R,b0,hR,hb0=>by
    have hx:=hR x (by simp)
    have hR':∀ y ∈ R,elB gl y=true:=fun y hy=>hR y (by simp [hy])
    have hl:=less_bnd (c:=c) hg hx
    obtain ⟨b1,b2⟩:=fT_spec hg R hR' _ hl
    rw [tE_less hg hx] at b1 b2
    have h0:=fT_bnd gl R (lessC gl c x)
    have hrc:=fun k=>rch_cons (grG_ok hg) (eE_ok hg hx) (els gl R) (k:=k) (tE_ok hg hc)
    obtain ⟨i1,i2,i3⟩:=bst_spec hc R (min b0 (1+fT gl R (lessC gl c x))) hR' (by omega)
    show (∀ k,1 ≤ k → (k,tE gl c) ∈ (rchT (grG gl) (eE gl x :: els gl R)).headD [] → _)∧_∧(_ → _∧_ ∈ (rchT (grG gl) (eE gl x :: els gl R)).headD [])
    rw [bst]
    refine ⟨fun k hk h=>?_,by omega,fun h=>?_⟩
    · rcases (hrc k).1 h with h | h
      · exact i1 k hk h
      · have:=b1 (k - 1) h; omega
    · by_cases c1:bst gl R c (min b0 (1+fT gl R (lessC gl c x))) < min b0 (1+fT gl R (lessC gl c x))
      · obtain ⟨j1,j2⟩:=i3 c1
        exact ⟨j1,(hrc _).2 (.inl j2)⟩
      · have e:bst gl R c (min b0 (1+fT gl R (lessC gl c x)))=1+fT gl R (lessC gl c x):=by omega
        rw [e]
        refine ⟨by omega,(hrc _).2 (.inr ?_)⟩
        rw [show 1+fT gl R (lessC gl c x) - 1=fT gl R (lessC gl c x) by omega]
        exact b2 (by omega)
theorem first_sh {R:List (List Int)} (hR:∀ x ∈ R,elB gl x=true) (hl:R.length ≤ 900) {x:List Int} (hx:elB gl x=true) (ls:Nat) (hls:ls ≤ 1) :
    firstT gl R x (ls:Int)=shT (grG gl) (els gl R) (eE gl x) (R.length+1 - ls) ls:=by
  have hc:=code_bnd hg hx
  have spec:(∀ k,(ls:Int) ≤ k → (k,eE gl x) ∈ (rchT (grG gl) (els gl R)).headD [] → fbT gl R x ls ≤ k)∧(fbT gl R x ls < 1099511627776 → (ls:Int) ≤ fbT gl R x ls∧(fbT gl R x ls,eE gl x) ∈ (rchT (grG gl) (els gl R)).headD []):=by
    unfold fbT
    by_cases h0:ls=0
    · subst h0
      rw [if_pos (show ((0:Nat):Int)=0 by rfl)]
      obtain ⟨a1,a2⟩:=fT_spec hg R hR _ hc
      exact ⟨fun k _ h=>a1 k h,fun h=>⟨(fT_bnd gl R _).1,a2 h⟩⟩
    · have h1:ls=1:=by omega
      subst h1
      rw [if_neg (show ¬ ((1:Nat):Int)=0 by omega)]
      obtain ⟨a1,a2,a3⟩:=bst_spec hg hc R 1099511627776 hR (by omega)
      exact ⟨fun k hk h=>a1 k hk h,fun h=>a3 h⟩
  obtain ⟨s1,s2⟩:=spec
  unfold firstT
  by_cases hf:1099511627776 ≤ fbT gl R x ls
  · rw [if_pos hf]
    have none:∀ f j:Nat,ls ≤ j → shT (grG gl) (els gl R) (eE gl x) f j=none:=by
      intro f
      induction f with
      | zero=>intro j _; rfl
      | succ f ih =>
        intro j hj
        rw [shT,if_neg (fun h=>by
          have h1:=s1 j (by omega) h
          have:=(head_ok (grG_ok hg) _ _ h).2.2
          simp only [els,List.length_map] at this
          omega)]
        exact ih (j+1) (by omega)
    rw [none _ _ (Nat.le_refl _)]
  · rw [if_neg hf]
    obtain ⟨t1,t2⟩:=s2 (by omega)
    have h2:=(head_ok (grG_ok hg) _ _ t2).2.2
    simp only [els,List.length_map] at h2
    have e:((fbT gl R x ls).toNat:Int)=fbT gl R x ls:=Int.toNat_of_nonneg (by omega)
    rw [shT_eq (o:=(fbT gl R x ls).toNat) (by rw [e]; exact t2) (R.length+1 - ls) ls (fun k h1 h2 h=>by have:=s1 k (by omega) h; omega) (by omega) (by omega)]
    rw [e,partI,ch_part hg R 0 (codeT gl x) _ hR hl hc (by omega) t2 (fun k hk h=>s1 k (by omega) h)]
end
end Go.Proofs.Ytaibmipamkaljaa
end
section
open Go Go.HL
namespace Go.Proofs.Ytaibmipamkaljaa
set_option maxRecDepth 100000
open Go.Proofs.Try renaming prog → Tp
open Go.HL.HV renaming undef → Ud
noncomputable def B33:Code:=Try.f33.body.getD .skip
abbrev env33 (v0 v2 v3 v4 v5:HV):Env:=[(0,v0),(2,v2),(3,v3),(4,v4),(5,v5)]
theorem tb_a_0 (rw:List HV) :RT pol 33 (sub [0] B33) [(0,.a rw)] [] .normal (env33 (.a rw) (.imm .lit 1 []) Ud Ud Ud) [] :=
  RunsTo.hin 0 60 [] fun kf hk=>⟨_,by kernel_rfl,.nil⟩
theorem tb_b_0 (rw:List HV)  {y3 y4 y5:HV}:RT pol 33 (sub [1,0] B33) (env33 (.a rw) (.imm .lit 1 []) y3 y4 y5) [] .normal (env33 (.a rw) (.imm .lit 1 []) (.s 0 0) y4 y5) [.b []] :=
  RunsTo.hin 0 60 [] fun kf hk=>⟨_,by kernel_rfl,.nil⟩
theorem tb_c_0 (rw:List HV) (p:Nat) (out:List HV) {y4 y5:HV}:RT pol 33 (sub [1,1,0,0] B33) (env33 (.a rw) (.imm .lit 1 []) (.s 0 p) y4 y5) [.b out] .normal (env33 (.a rw) (.imm .lit 1 []) (.s 0 p) (.i 0) y5) [.b out] :=
  RunsTo.hin 0 60 [] fun kf hk=>⟨_,by kernel_rfl,.nil⟩
theorem tb_d_0 (rw:List HV) (p:Nat) (out:List HV) (i m:Nat) {y5:HV} {l0:List HV} {l1:List HV} {w0:Bool} (g0:(i:Int) < (rw.length:Int)) (g1:(i:Int) ≤ 60) (g2:idxV Tp 35 (.a rw) (.i (i:Int))=some (.vptr (.a l0))) (g3:idxV Tp 35 (.a rw) (.i (i:Int))=some (.vptr (.a l1))) (g4:sliceV Tp 22 (.a l0) none (some (.i (min (l1.length:Int) 3))) none=some (.a (l0.take m))) (g5:appV [.b out,.b []] 1 8 (.s 1 0) (l0.take m)=some (.sl 1 0 ((l0.take m).length) none ((l0.take m).length) 1,[.b out,.arr 1 (l0.take m) true 0])) (g6:litV Tp true false 35 1 [(0,.sl 1 0 ((l0.take m).length) none ((l0.take m).length) 1)] [.b out,.arr 1 (l0.take m) true 0]=some (.imm .lit 1 [.imm .own 1 (l0.take m)],[.b out,.arr 1 (l0.take m) w0 0])) (g7:appV [.b out,.arr 1 (l0.take m) w0 0] 1 24 (.s 0 p) [.imm .own 1 (l0.take m)]=some (.sl 0 0 (p+1) none (p+1) 1,[.arr 1 (out ++ [.imm .own 1 (l0.take m)]) true 0,.arr 1 (l0.take m) w0 0])):RT pol 33 (sub [1,1,0,1,0,0] B33) (env33 (.a rw) (.imm .lit 1 []) (.s 0 p) (.i (i:Int)) y5) [.b out] .normal (env33 (.a rw) (.imm .lit 1 []) (.sl 0 0 (p+1) none (p+1) 1) (.i (IntKind.i64.wrap ((i:Int)+1))) (.s 1 0)) [.arr 1 (out ++ [.imm .own 1 (l0.take m)]) true 0,.arr 1 (l0.take m) w0 0] :=
  RunsTo.hin 0 60 [⟨3,3,.bool true,[.b out]⟩,⟨3,6,.bool true,[.b out]⟩,⟨6,4,.vptr (.a l0),[.b out,.b []]⟩,⟨6,8,.vptr (.a l1),[.b out,.b []]⟩,⟨6,12,.a (l0.take m),[.b out,.b []]⟩,⟨6,13,.sl 1 0 ((l0.take m).length) none ((l0.take m).length) 1,[.b out,.arr 1 (l0.take m) true 0]⟩,⟨6,14,.imm .lit 1 [.imm .own 1 (l0.take m)],[.b out,.arr 1 (l0.take m) w0 0]⟩,⟨6,15,.sl 0 0 (p+1) none (p+1) 1,[.arr 1 (out ++ [.imm .own 1 (l0.take m)]) true 0,.arr 1 (l0.take m) w0 0]⟩] fun kf hk=>⟨_,by kernel_rfl,(oB [.b out] (decide_eq_true g0) (oB [.b out] (decide_eq_true g1) (oP [.b out,.b []] g2 (oP [.b out,.b []] g3 (oP [.b out,.b []] g4 (oC (g5) (oC (g6) (oC (g7) .nil))))))))⟩
theorem tb_d_1 (rw:List HV) (p:Nat) (out:List HV) (i m:Nat) {y5:HV}(g0:(i:Int) < (rw.length:Int)) (g1:¬ ((i:Int) ≤ 60)):RT pol 33 (sub [1,1,0,1,0,0] B33) (env33 (.a rw) (.imm .lit 1 []) (.s 0 p) (.i (i:Int)) y5) [.b out] (.exit 0) (env33 (.a rw) (.imm .lit 1 []) (.s 0 p) (.i (i:Int)) y5) [.b out] :=
  RunsTo.hin 0 60 [⟨3,3,.bool true,[.b out]⟩,⟨3,6,.bool false,[.b out]⟩] fun kf hk=>⟨_,by kernel_rfl,(oB [.b out] (decide_eq_true g0) (oB [.b out] (decide_eq_false g1) .nil))⟩
theorem tb_d_2 (rw:List HV) (p:Nat) (out:List HV) (i m:Nat) {y5:HV}(g0:¬ ((i:Int) < (rw.length:Int))):RT pol 33 (sub [1,1,0,1,0,0] B33) (env33 (.a rw) (.imm .lit 1 []) (.s 0 p) (.i (i:Int)) y5) [.b out] (.exit 0) (env33 (.a rw) (.imm .lit 1 []) (.s 0 p) (.i (i:Int)) y5) [.b out] :=
  RunsTo.hin 0 60 [⟨3,3,.bool false,[.b out]⟩] fun kf hk=>⟨_,by kernel_rfl,(oB [.b out] (decide_eq_false g0) .nil)⟩
theorem tb_e_0 (rw:List HV) (p:Nat) (out:List HV) (i:Nat) {y5:HV}:RT pol 33 (sub [1,1,1] B33) (env33 (.a rw) (.imm .lit 1 []) (.s 0 p) (.i (i:Int)) y5) [.b out] .ret (env33 (.a rw) (.s 0 p) (.s 0 p) (.i (i:Int)) y5) [.b out] :=
  RunsTo.hin 0 60 [] fun kf hk=>⟨_,by kernel_rfl,.nil⟩
end Go.Proofs.Ytaibmipamkaljaa
end
section
open Go Go.HL
namespace Go.Proofs.Ytaibmipamkaljaa
open Go.Proofs.Try renaming prog → Tp
open Go.HL.HV renaming undef → Ud
def tabT (R:List (List Int)):List (List Int):=(R.take 61).map fun r=>r.take 3
def table33:List HV → Option HV:=rwF fun R=>some (.own 1 ((tabT R).map encO))
theorem res33:Try.f33.results.toList=[.tmp 2]:=by kernel_rfl
abbrev tbE (R:List (List Int)) (p i:Nat) (v5:HV):Env:=(env33 (.imm .arg 1 (R.map encR)) (.imm .lit 1 []) (.sl 0 0 p none p 1) (.int .i64 (i:Int)) v5)
abbrev bO3 (R:List (List Int)):Blk:=.arr 1 (R.map encO) true 0
theorem tb_out {R:List (List Int)}:∀ k i (out:List (List Int)),i+k=(R.take 61).length → out.length=i →
    ∃ i',RT pol 33 (sub [1,1,0,1,0] B33) (tbE R out.length i Ud) [bO3 out] (.exit 0) (tbE R (out ++ ((R.take 61).drop i).map fun r=>r.take 3).length i' Ud) [bO3 (out ++ ((R.take 61).drop i).map fun r=>r.take 3)]:=by
  intro k
  induction k with
  | zero =>
    intro i out hi ho
    rw [List.length_take] at hi
    rw [List.drop_of_length_le (by rw [List.length_take]; omega),List.map_nil,List.append_nil]
    by_cases h:i < R.length
    · have s:=tb_d_1 (R.map encR) out.length (out.map encO) i 0 (y5:=Ud) (by rw [List.length_map]; omega) (by omega)
      exact ⟨i,lpo (s) (c:=sub [1,1,0,1,0] B33)⟩
    · have s:=tb_d_2 (R.map encR) out.length (out.map encO) i 0 (y5:=Ud) (by rw [List.length_map]; omega)
      exact ⟨i,lpo (s) (c:=sub [1,1,0,1,0] B33)⟩
  | succ k ih =>
    intro i out hi ho
    have hi2:=hi
    rw [List.length_take] at hi2
    have hil:i < R.length:=by omega
    have hd:(R.take 61).drop i=R.getD i [] :: (R.take 61).drop (i+1):=by
      rw [List.drop_eq_getElem_cons (by omega)]
      simp [List.getD,List.getElem?_eq_getElem hil,List.getElem_take]
    have hmin:min (((R.getD i []).map encI).length:Int) 3=((min (R.getD i []).length 3:Nat):Int):=by rw [List.length_map]; omega
    have hw:((R.getD i []).map encI).take (min (R.getD i []).length 3)=((R.getD i []).take 3).map encI:=by rw [← List.map_take,take_min]
    have g4:sliceV Tp 22 (.imm .arg 1 ((R.getD i []).map encI)) none (some (.int .i64 (min (((R.getD i []).map encI).length:Int) 3))) none=some (.imm .arg 1 (((R.getD i []).map encI).take (min (R.getD i []).length 3))):=by
      rw [hmin]; exact slice_imm (by rw [List.length_map]; omega)
    have g5:appV [bO3 out,.arr 1 [] true 0] 1 8 (.sl 1 0 0 none 0 1) (((R.getD i []).take 3).map encI)=some (.sl 1 0 (((R.getD i []).take 3).map encI).length none (((R.getD i []).take 3).map encI).length 1,[bO3 out,.arr 1 (((R.getD i []).take 3).map encI) true 0]):=by
      by_cases h0:(R.getD i []).take 3=[]
      · rw [h0]; rfl
      · have hlen:((R.getD i []).take 3).length ≤ 3:=by rw [List.length_take]; omega
        have:=app_ints (H:=[bO3 out,bI []]) (b:=1) (o:=[]) (xs:=(R.getD i []).take 3) rfl (by simp; omega) h0
        rw [List.nil_append] at this
        rw [List.length_map]
        exact this
    obtain ⟨w,lt⟩:=lit_seal' (P:=Tp) (H:=[bO3 out,.arr 1 (((R.getD i []).take 3).map encI) true 0]) (t:=35) (e:=22) (k:=1) (b:=1) (p:=(((R.getD i []).take 3).map encI).length) (mx:=0) (bt:=24) (zv:=.imm .lit 0 []) (els:=((R.getD i []).take 3).map encI) u35 (by kernel_rfl) (by kernel_rfl) (by kernel_rfl) rfl rfl (ints_res _)
    have ap:=app_O (H:=[bO3 out,.arr 1 (((R.getD i []).take 3).map encI) w 0]) (b:=0) (R:=out) rfl (by omega) ((R.getD i []).take 3)
    have s:=tb_d_0 (R.map encR) out.length (out.map encO) i (min (R.getD i []).length 3) (y5:=Ud) (w0:=w) (by rw [List.length_map]; omega) (by omega) (gr hil) (gr hil) g4 (by rw [hw]; exact g5) (by rw [hw]; exact lt) (by rw [hw]; exact ap.trans (by simp only [List.map_append]; rfl))
    rw [hw,wrap_succ (by omega)] at s
    obtain ⟨i',nx⟩:=ih (i+1) (out ++ [(R.getD i []).take 3]) (by omega) (by simp; omega)
    have hgc:gc [bO3 out].length (bndE (tbE R (out.length+1) (i+1) Ud)) [.arr 1 (out.map encO ++ [.imm .own 1 (((R.getD i []).take 3).map encI)]) true 0,.arr 1 (((R.getD i []).take 3).map encI) w 0]=[bO3 (out ++ [(R.getD i []).take 3])]:=by
      have h1:bndE (tbE R (out.length+1) (i+1) Ud) ≤ 1:=by simp only [bndE,bnd]; decide
      unfold gc
      have h3:max [bO3 out].length (max (bndE (tbE R (out.length+1) (i+1) Ud)) (mxs [.arr 1 (out.map encO ++ [.imm .own 1 (((R.getD i []).take 3).map encI)]) true 0,.arr 1 (((R.getD i []).take 3).map encI) w 0]))=1:=by
        have:mxs [.arr 1 (out.map encO ++ [.imm .own 1 (((R.getD i []).take 3).map encI)]) true 0,.arr 1 (((R.getD i []).take 3).map encI) w 0]=0:=rfl
        rw [this]; simp only [List.length_cons,List.length_nil]; omega
      rw [h3]
      simp only [bO3,List.map_append]
      rfl
    refine ⟨i',?_⟩
    rw [hd,List.map_cons,List.append_cons]
    rw [List.length_append,List.length_singleton] at nx
    exact lop (s) hgc (nx)
theorem table_ok:PrimOk Tp 33 table33:=by
  refine primOk_pure (pol:=pol) (fn:=Try.f33) (cd:=B33) follows_mixed sound (by kernel_rfl) (by kernel_rfl) (fnok pol.prim _ _ (by kernel_rfl)) (by kernel_rfl) ?_
  intro args res h
  obtain ⟨R,rfl,hq⟩:=rwF_inv h
  clear h
  cases hq
  have a:=tb_a_0 (R.map encR)
  have b:=tb_b_0 (R.map encR) (y3:=Ud) (y4:=Ud) (y5:=Ud)
  have c:=tb_c_0 (R.map encR) 0 [] (y4:=Ud) (y5:=Ud)
  obtain ⟨i',lp⟩:=tb_out (R:=R) (R.take 61).length 0 [] (by omega) rfl
  rw [List.drop_zero,List.nil_append] at lp
  have z:=tb_e_0 (R.map encR) (tabT R).length ((tabT R).map encO) i' (y5:=Ud)
  have u:=sq (a) (sq (b) (sq (sq (c) (bke (c:=sub [1,1,0,1] B33) (lp)) (c:=sub [1,1,0] B33)) (z) (c:=sub [1,1] B33)) (c:=sub [1] B33)) (c:=B33)
  exact ⟨_,_,_,.sl 0 0 (tabT R).length none (tabT R).length 1,u,by simp,by simp only [resultsV,res33]; rfl,res_rs rfl rfl⟩
end Go.Proofs.Ytaibmipamkaljaa
end
section
open Go Go.HL
namespace Go.Proofs.Ytaibmipamkaljaa
set_option maxRecDepth 100000
open Go.Proofs.Try renaming prog → Tp
open Go.HL.HV renaming undef → Ud
noncomputable def B35:Code:=Try.f35.body.getD .skip
abbrev env35 (v0 v2 v3 v4:HV):Env:=[(0,v0),(2,v2),(3,v3),(4,v4)]
theorem gr_y_0 (l:List HV)(g0:¬ ((l.length:Int) < 1)) (g1:2 < (l.length:Int)):RT pol 35 (sub [] B35) [(0,.a l)] [] .ret (env35 (.a l) (.bool false) Ud Ud) [] :=
  RunsTo.hin 0 60 [⟨1,2,.bool false,[]⟩,⟨1,6,.bool true,[]⟩] fun kf hk=>⟨_,by kernel_rfl,(oB [] (decide_eq_false g0) (oB [] (decide_eq_true g1) .nil))⟩
theorem gr_z_0 :RT pol 35 (sub [] B35) [(0,.a [])] [] .ret (env35 (.a []) (.bool false) Ud Ud) [] :=
  RunsTo.hin 0 60 [] fun kf hk=>⟨_,by kernel_rfl,.nil⟩
theorem gr_a_0 (a:Int)(g0:a < 2):RT pol 35 (sub [] B35) [(0,.a [.i a])] [] .ret (env35 (.a [.i a]) (.bool false) (.i 1) (.i 0)) [] :=
  RunsTo.hin 0 60 [⟨7,4,.bool true,[]⟩] fun kf hk=>⟨_,by kernel_rfl,(oB [] (decide_eq_true g0) .nil)⟩
theorem gr_a_1 (a:Int)(g0:¬ (a < 2)) (g1:24 < a):RT pol 35 (sub [] B35) [(0,.a [.i a])] [] .ret (env35 (.a [.i a]) (.bool false) (.i 1) (.i 0)) [] :=
  RunsTo.hin 0 60 [⟨7,4,.bool false,[]⟩,⟨7,10,.bool true,[]⟩] fun kf hk=>⟨_,by kernel_rfl,(oB [] (decide_eq_false g0) (oB [] (decide_eq_true g1) .nil))⟩
theorem gr_a_3 (a:Int)(g0:¬ (a < 2)) (g1:¬ (24 < a)) (g2:binV Tp .rem 3 (.i a) (.i a)=some (.i ((a:Int).tmod a))) (g3:(a:Int).tmod a=0) (g4:IntKind.i64.wrap (1 * a) ≤ 144):RT pol 35 (sub [] B35) [(0,.a [.i a])] [] .ret (env35 (.a [.i a]) (.bool true) (.i (IntKind.i64.wrap (1 * a))) (.i 1)) [] :=
  RunsTo.hin 0 60 [⟨7,4,.bool false,[]⟩,⟨7,10,.bool false,[]⟩,⟨7,20,.i ((a:Int).tmod a),[]⟩,⟨7,21,.bool false,[]⟩,⟨10,1,.bool true,[]⟩] fun kf hk=>⟨_,by kernel_rfl,(oB [] (decide_eq_false g0) (oB [] (decide_eq_false g1) (oP [] g2 (oB [] (congrArg not (decide_eq_true g3)) (oB [] (decide_eq_true g4) .nil)))))⟩
theorem gr_b_0 (a b:Int)(g0:a < 2):RT pol 35 (sub [] B35) [(0,.a [.i a,.i b])] [] .ret (env35 (.a [.i a,.i b]) (.bool false) (.i 1) (.i 0)) [] :=
  RunsTo.hin 0 60 [⟨7,4,.bool true,[]⟩] fun kf hk=>⟨_,by kernel_rfl,(oB [] (decide_eq_true g0) .nil)⟩
theorem gr_b_1 (a b:Int)(g0:¬ (a < 2)) (g1:24 < a):RT pol 35 (sub [] B35) [(0,.a [.i a,.i b])] [] .ret (env35 (.a [.i a,.i b]) (.bool false) (.i 1) (.i 0)) [] :=
  RunsTo.hin 0 60 [⟨7,4,.bool false,[]⟩,⟨7,10,.bool true,[]⟩] fun kf hk=>⟨_,by kernel_rfl,(oB [] (decide_eq_false g0) (oB [] (decide_eq_true g1) .nil))⟩
theorem gr_b_3 (a b:Int)(g0:¬ (a < 2)) (g1:¬ (24 < a)) (g2:binV Tp .rem 3 (.i a) (.i a)=some (.i ((a:Int).tmod a))) (g3:(a:Int).tmod a=0) (g4:b < 2):RT pol 35 (sub [] B35) [(0,.a [.i a,.i b])] [] .ret (env35 (.a [.i a,.i b]) (.bool false) (.i (IntKind.i64.wrap (1 * a))) (.i 1)) [] :=
  RunsTo.hin 0 60 [⟨7,4,.bool false,[]⟩,⟨7,10,.bool false,[]⟩,⟨7,20,.i ((a:Int).tmod a),[]⟩,⟨7,21,.bool false,[]⟩,⟨7,4,.bool true,[]⟩] fun kf hk=>⟨_,by kernel_rfl,(oB [] (decide_eq_false g0) (oB [] (decide_eq_false g1) (oP [] g2 (oB [] (congrArg not (decide_eq_true g3)) (oB [] (decide_eq_true g4) .nil)))))⟩
theorem gr_b_4 (a b:Int)(g0:¬ (a < 2)) (g1:¬ (24 < a)) (g2:binV Tp .rem 3 (.i a) (.i a)=some (.i ((a:Int).tmod a))) (g3:(a:Int).tmod a=0) (g4:¬ (b < 2)) (g5:24 < b):RT pol 35 (sub [] B35) [(0,.a [.i a,.i b])] [] .ret (env35 (.a [.i a,.i b]) (.bool false) (.i (IntKind.i64.wrap (1 * a))) (.i 1)) [] :=
  RunsTo.hin 0 60 [⟨7,4,.bool false,[]⟩,⟨7,10,.bool false,[]⟩,⟨7,20,.i ((a:Int).tmod a),[]⟩,⟨7,21,.bool false,[]⟩,⟨7,4,.bool false,[]⟩,⟨7,10,.bool true,[]⟩] fun kf hk=>⟨_,by kernel_rfl,(oB [] (decide_eq_false g0) (oB [] (decide_eq_false g1) (oP [] g2 (oB [] (congrArg not (decide_eq_true g3)) (oB [] (decide_eq_false g4) (oB [] (decide_eq_true g5) .nil))))))⟩
theorem gr_b_5 (a b:Int)(g0:¬ (a < 2)) (g1:¬ (24 < a)) (g2:binV Tp .rem 3 (.i a) (.i a)=some (.i ((a:Int).tmod a))) (g3:(a:Int).tmod a=0) (g4:¬ (b < 2)) (g5:¬ (24 < b)) (g6:binV Tp .rem 3 (.i b) (.i a)=some (.i ((b:Int).tmod a))) (g7:¬ ((b:Int).tmod a=0)):RT pol 35 (sub [] B35) [(0,.a [.i a,.i b])] [] .ret (env35 (.a [.i a,.i b]) (.bool false) (.i (IntKind.i64.wrap (1 * a))) (.i 1)) [] :=
  RunsTo.hin 0 60 [⟨7,4,.bool false,[]⟩,⟨7,10,.bool false,[]⟩,⟨7,20,.i ((a:Int).tmod a),[]⟩,⟨7,21,.bool false,[]⟩,⟨7,4,.bool false,[]⟩,⟨7,10,.bool false,[]⟩,⟨7,20,.i ((b:Int).tmod a),[]⟩,⟨7,21,.bool true,[]⟩] fun kf hk=>⟨_,by kernel_rfl,(oB [] (decide_eq_false g0) (oB [] (decide_eq_false g1) (oP [] g2 (oB [] (congrArg not (decide_eq_true g3)) (oB [] (decide_eq_false g4) (oB [] (decide_eq_false g5) (oP [] g6 (oB [] (congrArg not (decide_eq_false g7)) .nil))))))))⟩
theorem gr_b_6 (a b:Int)(g0:¬ (a < 2)) (g1:¬ (24 < a)) (g2:binV Tp .rem 3 (.i a) (.i a)=some (.i ((a:Int).tmod a))) (g3:(a:Int).tmod a=0) (g4:¬ (b < 2)) (g5:¬ (24 < b)) (g6:binV Tp .rem 3 (.i b) (.i a)=some (.i ((b:Int).tmod a))) (g7:(b:Int).tmod a=0) (g8:IntKind.i64.wrap (IntKind.i64.wrap (1 * a) * b) ≤ 144):RT pol 35 (sub [] B35) [(0,.a [.i a,.i b])] [] .ret (env35 (.a [.i a,.i b]) (.bool true) (.i (IntKind.i64.wrap (IntKind.i64.wrap (1 * a) * b))) (.i 2)) [] :=
  RunsTo.hin 0 60 [⟨7,4,.bool false,[]⟩,⟨7,10,.bool false,[]⟩,⟨7,20,.i ((a:Int).tmod a),[]⟩,⟨7,21,.bool false,[]⟩,⟨7,4,.bool false,[]⟩,⟨7,10,.bool false,[]⟩,⟨7,20,.i ((b:Int).tmod a),[]⟩,⟨7,21,.bool false,[]⟩,⟨10,1,.bool true,[]⟩] fun kf hk=>⟨_,by kernel_rfl,(oB [] (decide_eq_false g0) (oB [] (decide_eq_false g1) (oP [] g2 (oB [] (congrArg not (decide_eq_true g3)) (oB [] (decide_eq_false g4) (oB [] (decide_eq_false g5) (oP [] g6 (oB [] (congrArg not (decide_eq_true g7)) (oB [] (decide_eq_true g8) .nil)))))))))⟩
theorem gr_b_7 (a b:Int)(g0:¬ (a < 2)) (g1:¬ (24 < a)) (g2:binV Tp .rem 3 (.i a) (.i a)=some (.i ((a:Int).tmod a))) (g3:(a:Int).tmod a=0) (g4:¬ (b < 2)) (g5:¬ (24 < b)) (g6:binV Tp .rem 3 (.i b) (.i a)=some (.i ((b:Int).tmod a))) (g7:(b:Int).tmod a=0) (g8:¬ (IntKind.i64.wrap (IntKind.i64.wrap (1 * a) * b) ≤ 144)):RT pol 35 (sub [] B35) [(0,.a [.i a,.i b])] [] .ret (env35 (.a [.i a,.i b]) (.bool false) (.i (IntKind.i64.wrap (IntKind.i64.wrap (1 * a) * b))) (.i 2)) [] :=
  RunsTo.hin 0 60 [⟨7,4,.bool false,[]⟩,⟨7,10,.bool false,[]⟩,⟨7,20,.i ((a:Int).tmod a),[]⟩,⟨7,21,.bool false,[]⟩,⟨7,4,.bool false,[]⟩,⟨7,10,.bool false,[]⟩,⟨7,20,.i ((b:Int).tmod a),[]⟩,⟨7,21,.bool false,[]⟩,⟨10,1,.bool false,[]⟩] fun kf hk=>⟨_,by kernel_rfl,(oB [] (decide_eq_false g0) (oB [] (decide_eq_false g1) (oP [] g2 (oB [] (congrArg not (decide_eq_true g3)) (oB [] (decide_eq_false g4) (oB [] (decide_eq_false g5) (oP [] g6 (oB [] (congrArg not (decide_eq_true g7)) (oB [] (decide_eq_false g8) .nil)))))))))⟩
end Go.Proofs.Ytaibmipamkaljaa
end
section
open Go Go.HL
namespace Go.Proofs.Ytaibmipamkaljaa
open Go.Proofs.Try renaming prog → Tp
open Go.HL.HV renaming undef → Ud
def group35:List HV → Option HV:=liF fun l=>some (.bool (newGroupT l).2)
theorem res35:Try.f35.results.toList=[.tmp 2]:=by kernel_rfl
theorem group35_ok:PrimOk Tp 35 group35:=by
  refine primOk_pure (pol:=pol) (fn:=Try.f35) (cd:=B35) follows_mixed sound (by kernel_rfl) (by kernel_rfl) (fnok pol.prim _ _ (by kernel_rfl)) (by kernel_rfl) ?_
  intro args res h
  obtain ⟨l,rfl,hq⟩:=liF_inv h
  clear h
  cases hq
  match l with
  | []=>exact ⟨_,_,_,.bool false,gr_z_0,by simp,by simp only [resultsV,res35]; rfl,rfl⟩
  | [a] =>
    have ta:¬ a < 2 → a.tmod a=0:=fun _=>Int.tmod_self ..
    by_cases c:a < 2
    · refine ⟨_,_,_,.bool false,gr_a_0 a c,by simp,by simp only [resultsV,res35]; rfl,?_⟩
      simp only [newGroupT,in_f (show ¬ (2 ≤ a∧a ≤ 24) by omega),Bool.false_eq_true,if_false]; rfl
    · by_cases d:24 < a
      · refine ⟨_,_,_,.bool false,gr_a_1 a c d,by simp,by simp only [resultsV,res35]; rfl,?_⟩
        simp only [newGroupT,in_f (show ¬ (2 ≤ a∧a ≤ 24) by omega),Bool.false_eq_true,if_false]; rfl
      · refine ⟨_,_,_,.bool true,gr_a_3 a c d (rem3 (by omega)) (ta c) (by rw [Int.one_mul,wrap_id (by omega) (by omega)]; omega),by simp,by simp only [resultsV,res35]; rfl,?_⟩
        simp only [newGroupT,in_t (show 2 ≤ a∧a ≤ 24 by omega),if_true]; rfl
  | [a,b] =>
    have ta:¬ a < 2 → a.tmod a=0:=fun _=>Int.tmod_self ..
    have out:¬ (2 ≤ a∧a ≤ 24) ∨ ¬ (2 ≤ b∧b ≤ 24) → (newGroupT [a,b]).2=false:=by
      rintro (h | h)
      · simp only [newGroupT,in_f h,Bool.false_and,Bool.false_eq_true,if_false]
      · simp only [newGroupT,in_f h,Bool.and_false,Bool.false_eq_true,if_false]
    by_cases c:a < 2
    · refine ⟨_,_,_,.bool false,gr_b_0 a b c,by simp,by simp only [resultsV,res35]; rfl,?_⟩
      rw [out (.inl (by omega))]; rfl
    · by_cases d:24 < a
      · refine ⟨_,_,_,.bool false,gr_b_1 a b c d,by simp,by simp only [resultsV,res35]; rfl,?_⟩
        rw [out (.inl (by omega))]; rfl
      · by_cases c2:b < 2
        · refine ⟨_,_,_,.bool false,gr_b_3 a b c d (rem3 (by omega)) (ta c) c2,by simp,by simp only [resultsV,res35]; rfl,?_⟩
          rw [out (.inr (by omega))]; rfl
        · by_cases d2:24 < b
          · refine ⟨_,_,_,.bool false,gr_b_4 a b c d (rem3 (by omega)) (ta c) c2 d2,by simp,by simp only [resultsV,res35]; rfl,?_⟩
            rw [out (.inr (by omega))]; rfl
          · have hm:0 ≤ a * b∧a * b ≤ 24 * 24:=⟨Int.mul_nonneg (by omega) (by omega),Int.mul_le_mul (by omega) (by omega) (by omega) (by omega)⟩
            have w:IntKind.i64.wrap (IntKind.i64.wrap (1 * a) * b)=a * b:=by rw [Int.one_mul,wrap_id (n:=a) (by omega) (by omega)]; exact wrap_id (by omega) (by omega)
            have tb:b.tmod a=b % a:=Int.tmod_eq_emod_of_nonneg (by omega)
            have e:(newGroupT [a,b]).2=(decide (a * b ≤ 144) && decide (b % a=0)):=by
              simp only [newGroupT,in_t (show 2 ≤ a∧a ≤ 24 by omega),in_t (show 2 ≤ b∧b ≤ 24 by omega),Bool.and_self,if_true]
            by_cases f:b % a=0
            · by_cases g:a * b ≤ 144
              · refine ⟨_,_,_,.bool true,gr_b_6 a b c d (rem3 (by omega)) (ta c) c2 d2 (rem3 (by omega)) (by rw [tb]; exact f) (by rw [w]; exact g),by simp,by simp only [resultsV,res35]; rfl,?_⟩
                rw [e,decide_eq_true f,decide_eq_true g]; rfl
              · refine ⟨_,_,_,.bool false,gr_b_7 a b c d (rem3 (by omega)) (ta c) c2 d2 (rem3 (by omega)) (by rw [tb]; exact f) (by rw [w]; exact g),by simp,by simp only [resultsV,res35]; rfl,?_⟩
                rw [e,decide_eq_false g,Bool.false_and]; rfl
            · refine ⟨_,_,_,.bool false,gr_b_5 a b c d (rem3 (by omega)) (ta c) c2 d2 (rem3 (by omega)) (by rw [tb]; exact f),by simp,by simp only [resultsV,res35]; rfl,?_⟩
              rw [e,decide_eq_false f,Bool.and_false]; rfl
  | a :: b :: c :: l =>
    exact ⟨_,_,_,.bool false,gr_y_0 ((a :: b :: c :: l).map encI) (by simp only [List.length_map,List.length_cons]; omega) (by simp only [List.length_map,List.length_cons]; omega),by simp,by simp only [resultsV,res35]; rfl,rfl⟩
end Go.Proofs.Ytaibmipamkaljaa
end
section
open Go Go.HL
namespace Go.Proofs.Ytaibmipamkaljaa
open Go.Proofs.Try renaming prog → Tp
open Go.HL.HV renaming undef → Ud
def polAw:Pol:={ pol with shared:=fun g=>sharedT.contains g || g == 54,prim:=fun g=>if g == 49 then some reached49 else if g == 59 then some add59 else none }
set_option maxRecDepth 100000 in
theorem fns_okAw:(Tp.funcs.toList.zipIdx.all fun p=>fnOk { pol with shared:=fun g=>sharedT.contains g || g == 54 } p.2 p.1)=true:=by kernel_rfl
theorem sound_primC (F:FuncId → Option (List HV → Option HV)) (hF:∀ g f,F g=some f → PrimOk Tp g f) (n:Nat):CallSound Tp (callN Tp { pol with shared:=fun g=>sharedT.contains g || g == 54,prim:=F } n) :=
  callN_ok follows_mixed (fun g fn h=>by
    have:=fnOk_prim (pol:={ pol with shared:=fun g=>sharedT.contains g || g == 54 }) (F:=F) g fn
    rw [this]
    exact List.all_eq_true.1 fns_okAw (fn,g) (by
      rw [List.mem_zipIdx_iff_getElem?]
      simpa using h)) hF n
theorem soundAw (n:Nat):CallSound Tp (callN Tp polAw n):=sound_primC _ (fun g f h=>by
  split at h
  · rename_i hg; cases h; rw [eq_of_beq hg]; exact reached_ok
  split at h
  · rename_i hg; cases h; rw [eq_of_beq hg]; exact add_ok
  · cases h) n
set_option maxRecDepth 100000 in
theorem awake_run:callN Tp polAw 400 16 [] []=some (.bool true,[]):=by kernel_rfl
end Go.Proofs.Ytaibmipamkaljaa
end
section
open Go Go.HL
namespace Go.Proofs.Ytaibmipamkaljaa
open Go.Proofs.Try renaming prog → Tp
open Go.HL.HV renaming undef → Ud
theorem awake_prim:PrimOk Tp 16 awakeF:=by
  refine primOk_of (pol:=polAw) soundAw (by kernel_rfl) fun args res h=>?_
  match args,h with
  | [],h =>
    cases h
    exact ⟨400,_,_,false,awake_run,rfl⟩
theorem awake_at {pol':Pol} (hp:pol'.prim 16=some awakeF) (H:Heap):∀ k,callN Tp pol' (k+1) 16 [] H=some (.bool true,H):=fun k=>by
  rw [prim_call (pol:=pol') (g:=16) (F:=awakeF) hp (rs:=[]) rfl (res:=.bool true) rfl]; rfl
def argI (H:Heap) (v:HV) (l:List Int):Prop:=toArg H 6 v=some (.imm .arg 1 (l.map encI))
theorem argI_own (H:Heap) (l:List Int):argI H (.imm .own 1 (l.map encI)) l:=by
  show argP (.imm .own 1 (l.map encI))=_
  simp only [argP,argP_ints']
theorem order_at {pol':Pol} (hp:pol'.prim 29=some order29) {l lx:List Int} {v1 v2:HV} {H:Heap} (h1:argI H v1 l) (h2:argI H v2 lx) {r:Int × Int} (hr:orderT l lx=some r) :
    ∀ k,callN Tp pol' (k+1) 29 [v1,v2] H=some (.tuple [.int .i64 r.1,.int .i64 r.2],H):=fun k=>by
  have hd:mapO decI (l.map encI)=some l:=mapO_map decI_enc l
  have hd2:mapO decI (lx.map encI)=some lx:=mapO_map decI_enc lx
  unfold argI at h1 h2
  rw [prim_call (pol:=pol') (g:=29) (F:=order29) hp (rs:=[.imm .arg 1 (l.map encI),.imm .arg 1 (lx.map encI)]) (by simp only [mapO,h1,h2]) (res:=.tuple [.int .i64 r.1,.int .i64 r.2]) (by simp only [order29,llF,hd,hd2,hr,Option.map])]
  rfl
end Go.Proofs.Ytaibmipamkaljaa
end
section
open Go Go.HL
namespace Go.Proofs.Ytaibmipamkaljaa
open Go.Proofs.Try renaming prog → Tp
open Go.HL.HV renaming undef → Ud
theorem ints_at {pol':Pol} (hp:pol'.prim 17=some ints17) {a b:List Int} {v1 v2:HV} {H:Heap} (h1:argI H v1 a) (h2:argI H v2 b) (hl:a.length ≤ 1000) :
    ∀ k,callN Tp pol' (k+1) 17 [v1,v2] H=some (.bool (decide (a=b)),H):=fun k=>by
  have hd:mapO decI (a.map encI)=some a:=mapO_map decI_enc a
  have hd2:mapO decI (b.map encI)=some b:=mapO_map decI_enc b
  unfold argI at h1 h2
  rw [prim_call (pol:=pol') (g:=17) (F:=ints17) hp (rs:=[.imm .arg 1 (a.map encI),.imm .arg 1 (b.map encI)]) (by simp only [mapO,h1,h2]) (res:=.bool (decide (a=b))) (by simp only [ints17,llF,hd,hd2]; rw [if_pos hl])]
  rfl
end Go.Proofs.Ytaibmipamkaljaa
end
section
open Go Go.HL
namespace Go.Proofs.Ytaibmipamkaljaa
set_option maxRecDepth 100000
open Go.Proofs.Try renaming prog → Tp
open Go.HL.HV renaming undef → Ud
noncomputable def B37:Code:=Try.f37.body.getD .skip
abbrev env37 (v0 v1 v2 v3 v8 v9 v10 v11 v12 v13 v14 v15 v16 v17 v18 v19 v20:HV):Env:=[(0,v0),(1,v1),(2,v2),(3,v3),(8,v8),(9,v9),(10,v10),(11,v11),(12,v12),(13,v13),(14,v14),(15,v15),(16,v16),(17,v17),(18,v18),(19,v19),(20,v20)]
theorem rf_a_0 (l rw lx:List HV) (ls:Int) :RT polTc 37 (sub [0] B37) [(0,.a l),(1,.a rw),(2,.a lx),(3,.i ls)] [] .normal (env37 (.a l) (.a rw) (.a lx) (.i ls) (.imm .lit 1 []) (.bool false) Ud Ud Ud Ud Ud Ud Ud Ud Ud Ud Ud) [] :=
  RunsTo.hin 0 60 [] fun kf hk=>⟨_,by kernel_rfl,.nil⟩
theorem rf_b_0 (l rw lx:List HV) (ls:Int)  {y10 y11 y12 y13 y14 y15 y16 y17 y18 y19 y20:HV}:RT polTc 37 (sub [1,0] B37) (env37 (.a l) (.a rw) (.a lx) (.i ls) (.imm .lit 1 []) (.bool false) y10 y11 y12 y13 y14 y15 y16 y17 y18 y19 y20) [] .normal (env37 (.a l) (.a rw) (.a lx) (.i ls) (.imm .lit 1 []) (.bool false) (.i (rw.length:Int)) y11 y12 y13 y14 y15 y16 y17 y18 y19 y20) [] :=
  RunsTo.hin 0 60 [] fun kf hk=>⟨_,by kernel_rfl,.nil⟩
theorem rf_c_0 (l rw lx:List HV) (ls:Int) (m0 m:Nat) {y11 y12 y13 y14 y15 y16 y17 y18 y19 y20:HV}(g0:makeV Tp false 35 (.i (IntKind.i64.wrap ((m0:Int)+1))) (.i (IntKind.i64.wrap ((m0:Int)+1))) []=some (.o 0 m,[.arr 1 (List.replicate m (.imm .lit 0 [])) true 0])):RT polTc 37 (sub [1,1,0] B37) (env37 (.a l) (.a rw) (.a lx) (.i ls) (.imm .lit 1 []) (.bool false) (.i (m0:Int)) y11 y12 y13 y14 y15 y16 y17 y18 y19 y20) [] .normal (env37 (.a l) (.a rw) (.a lx) (.i ls) (.imm .lit 1 []) (.bool false) (.i (m0:Int)) (.o 0 m) y12 y13 y14 y15 y16 y17 y18 y19 y20) [.arr 1 (List.replicate m (.imm .lit 0 [])) true 0] :=
  RunsTo.hin 0 60 [⟨2,2,.o 0 m,[.arr 1 (List.replicate m (.imm .lit 0 [])) true 0]⟩] fun kf hk=>⟨_,by kernel_rfl,(oC (g0) .nil)⟩
theorem rf_d_0 (l rw lx:List HV) (ls:Int) (m0 m:Nat) (H:Heap) {y12 y13 y14 y15 y16 y17 y18 y19 y20:HV}:RT polTc 37 (sub [1,1,1,0,0] B37) (env37 (.a l) (.a rw) (.a lx) (.i ls) (.imm .lit 1 []) (.bool false) (.i (m0:Int)) (.o 0 m) y12 y13 y14 y15 y16 y17 y18 y19 y20) H .normal (env37 (.a l) (.a rw) (.a lx) (.i ls) (.imm .lit 1 []) (.bool false) (.i (m0:Int)) (.o 0 m) (.i (m0:Int)) y13 y14 y15 y16 y17 y18 y19 y20) H :=
  RunsTo.hin 0 60 [] fun kf hk=>⟨_,by kernel_rfl,.nil⟩
theorem rf_e_0 (l rw lx:List HV) (ls:Int) (m0 m:Nat) (H:Heap) (i:Int) {y13 y14 y15 y16 y17 y18 y19 y20:HV}(g0:0 ≤ i):RT polTc 37 (sub [1,1,1,0,1,0,0,0] B37) (env37 (.a l) (.a rw) (.a lx) (.i ls) (.imm .lit 1 []) (.bool false) (.i (m0:Int)) (.o 0 m) (.i i) y13 y14 y15 y16 y17 y18 y19 y20) H .normal (env37 (.a l) (.a rw) (.a lx) (.i ls) (.imm .lit 1 []) (.bool false) (.i (m0:Int)) (.o 0 m) (.i i) y13 y14 y15 y16 y17 y18 y19 y20) H :=
  RunsTo.hin 0 60 [⟨4,1,.bool true,H⟩] fun kf hk=>⟨_,by kernel_rfl,(oB H (decide_eq_true g0) .nil)⟩
theorem rf_e_1 (l rw lx:List HV) (ls:Int) (m0 m:Nat) (H:Heap) (i:Int) {y13 y14 y15 y16 y17 y18 y19 y20:HV}(g0:¬ (0 ≤ i)):RT polTc 37 (sub [1,1,1,0,1,0,0,0] B37) (env37 (.a l) (.a rw) (.a lx) (.i ls) (.imm .lit 1 []) (.bool false) (.i (m0:Int)) (.o 0 m) (.i i) y13 y14 y15 y16 y17 y18 y19 y20) H (.exit 0) (env37 (.a l) (.a rw) (.a lx) (.i ls) (.imm .lit 1 []) (.bool false) (.i (m0:Int)) (.o 0 m) (.i i) y13 y14 y15 y16 y17 y18 y19 y20) H :=
  RunsTo.hin 0 60 [⟨4,1,.bool false,H⟩] fun kf hk=>⟨_,by kernel_rfl,(oB H (decide_eq_false g0) .nil)⟩
theorem rf_f_0 (l rw lx:List HV) (ls:Int) (m0 m:Nat) (H:Heap) (i:Nat) (q:Nat) {y13 y14 y15 y16 y17 y18 y19 y20:HV} {H0:Heap} (g0:∀ kf,callN Tp polTc (kf+1) 40 [.a l] H=some (.i (q:Int),H)) (g1:makeV Tp false 22 (.i (q:Int)) (.i (q:Int)) H=some (.o 1 q,H0)):RT polTc 37 (sub [1,1,1,0,1,0,0,1,0,0,0] B37) (env37 (.a l) (.a rw) (.a lx) (.i ls) (.imm .lit 1 []) (.bool false) (.i (m0:Int)) (.o 0 m) (.i (i:Int)) y13 y14 y15 y16 y17 y18 y19 y20) H .normal (env37 (.a l) (.a rw) (.a lx) (.i ls) (.imm .lit 1 []) (.bool false) (.i (m0:Int)) (.o 0 m) (.i (i:Int)) (.o 1 q) y14 y15 y16 y17 y18 y19 y20) H0 :=
  RunsTo.hin 0 60 [⟨6,1,.i (q:Int),H⟩,⟨6,2,.o 1 q,H0⟩] fun kf hk=>⟨_,by kernel_rfl,(oC (g0 kf) (oC (g1) .nil))⟩
theorem rf_g_0 (l rw lx:List HV) (ls:Int) (m0 m:Nat) (H:Heap) (i:Nat) (q:Nat) {y14 y15 y16 y17 y18 y19 y20:HV}:RT polTc 37 (sub [1,1,1,0,1,0,0,1,0,0,1,0,0] B37) (env37 (.a l) (.a rw) (.a lx) (.i ls) (.imm .lit 1 []) (.bool false) (.i (m0:Int)) (.o 0 m) (.i (i:Int)) (.o 1 q) y14 y15 y16 y17 y18 y19 y20) H .normal (env37 (.a l) (.a rw) (.a lx) (.i ls) (.imm .lit 1 []) (.bool false) (.i (m0:Int)) (.o 0 m) (.i (i:Int)) (.o 1 q) (.i 0) y15 y16 y17 y18 y19 y20) H :=
  RunsTo.hin 0 60 [] fun kf hk=>⟨_,by kernel_rfl,.nil⟩
theorem rf_h_0 (l rw lx:List HV) (ls:Int) (m0 m:Nat) (H:Heap) (i:Nat) (q:Nat) (c:Nat) {y15 y16 y17 y18 y19 y20:HV} {H0:Heap} {v0:HV} {a0:HV} {x0:Int} {v1:HV} {l0:List HV} {rt0:Int} {a1:HV} {x1:Int} {H1:Heap} (g0:(c:Int) < (q:Int)) (g1:idxV Tp 22 (.o 1 q) (.i (c:Int))=some (.ptr 1 c 0 q)) (g2:storeV Tp H 3 (.ptr 1 c 0 q) (.i 1099511627776)=some H0) (g3:(i:Int) < (m0:Int)) (g4:idxV Tp 35 (.o 0 m) (.i (IntKind.i64.wrap ((i:Int)+1)))=some (.ptr 0 ((IntKind.i64.wrap ((i:Int)+1)).toNat) 0 m)) (g5:loadV Tp H0 22 (.ptr 0 ((IntKind.i64.wrap ((i:Int)+1)).toNat) 0 m)=some (v0)) (g6:idxV Tp 22 v0 (.i (c:Int))=some (a0)) (g7:loadV Tp H0 3 (a0)=some (.i x0)) (g8:idxV Tp 35 (.o 0 m) (.i (IntKind.i64.wrap ((i:Int)+1)))=some (.ptr 0 ((IntKind.i64.wrap ((i:Int)+1)).toNat) 0 m)) (g9:loadV Tp H0 22 (.ptr 0 ((IntKind.i64.wrap ((i:Int)+1)).toNat) 0 m)=some (v1)) (g10:idxV Tp 35 (.a rw) (.i (i:Int))=some (.vptr (.a l0))) (g11:∀ kf,callN Tp polTc (kf+1) 60 [.a l,.i (c:Int),.a l0] H0=some (.i rt0,H0)) (g12:idxV Tp 22 v1 (.i rt0)=some (a1)) (g13:loadV Tp H0 3 (a1)=some (.i x1)) (g14:idxV Tp 22 (.o 1 q) (.i (c:Int))=some (.ptr 1 c 0 q)) (g15:storeV Tp H0 3 (.ptr 1 c 0 q) (.i (min x0 (IntKind.i64.wrap (1+x1))))=some H1) (gS12:(recL ((loadV Tp H0 22 (.ptr 0 ((IntKind.i64.wrap ((i:Int)+1)).toNat) 0 m)).map (fun v=>(v,(H0:Heap)))) ((loadV Tp H0 22 (.ptr 0 ((IntKind.i64.wrap ((i:Int)+1)).toNat) 0 m)).map (fun v=>(v,(H0:Heap)))) H0 H0 && (recL ((loadV Tp H0 3 (a0)).map (fun v=>(v,(H0:Heap)))) ((loadV Tp H0 3 (a0)).map (fun v=>(v,(H0:Heap)))) H0 H0 && (recL ((loadV Tp H0 22 (.ptr 0 ((IntKind.i64.wrap ((i:Int)+1)).toNat) 0 m)).map (fun v=>(v,(H0:Heap)))) ((loadV Tp H0 22 (.ptr 0 ((IntKind.i64.wrap ((i:Int)+1)).toNat) 0 m)).map (fun v=>(v,(H0:Heap)))) H0 H0 && true)))=true):RT polTc 37 (sub [1,1,1,0,1,0,0,1,0,0,1,0,1,0,0] B37) (env37 (.a l) (.a rw) (.a lx) (.i ls) (.imm .lit 1 []) (.bool false) (.i (m0:Int)) (.o 0 m) (.i (i:Int)) (.o 1 q) (.i (c:Int)) y15 y16 y17 y18 y19 y20) H .normal (env37 (.a l) (.a rw) (.a lx) (.i ls) (.imm .lit 1 []) (.bool false) (.i (m0:Int)) (.o 0 m) (.i (i:Int)) (.o 1 q) (.i (IntKind.i64.wrap ((c:Int)+1))) y15 y16 y17 y18 y19 y20) H1 :=
  RunsTo.hin 0 60 [⟨8,3,.bool true,H⟩,⟨10,2,.ptr 1 c 0 q,H⟩,⟨10,3,.tuple [],H0⟩,⟨11,2,.bool true,H0⟩,⟨12,5,.ptr 0 ((IntKind.i64.wrap ((i:Int)+1)).toNat) 0 m,H0⟩,⟨12,6,v0,H0⟩,⟨12,8,a0,H0⟩,⟨12,9,.i x0,H0⟩,⟨12,13,.ptr 0 ((IntKind.i64.wrap ((i:Int)+1)).toNat) 0 m,H0⟩,⟨12,14,v1,H0⟩,⟨12,19,.vptr (.a l0),H0⟩,⟨12,21,.i rt0,H0⟩,⟨12,22,a1,H0⟩,⟨12,23,.i x1,H0⟩,⟨12,26,.ptr 1 c 0 q,H0⟩,⟨12,27,.tuple [],H1⟩] fun kf hk=>⟨_,by kernel_rfl,(oB H (decide_eq_true g0) (oP H g1 (oS g2 (oB H0 (decide_eq_true g3) (oC (gS12) (oP H0 g4 (oP H0 g5 (oP H0 g6 (oP H0 g7 (oP H0 g8 (oP H0 g9 (oP H0 g10 (oC (g11 kf) (oP H0 g12 (oP H0 g13 (oP H0 g14 (oS g15 .nil)))))))))))))))))⟩
theorem rf_h_1 (l rw lx:List HV) (ls:Int) (m0 m:Nat) (H:Heap) (i:Nat) (q:Nat) (c:Nat) {y15 y16 y17 y18 y19 y20:HV} {H0:Heap} {H1:Heap} (g0:(c:Int) < (q:Int)) (g1:idxV Tp 22 (.o 1 q) (.i (c:Int))=some (.ptr 1 c 0 q)) (g2:storeV Tp H 3 (.ptr 1 c 0 q) (.i 1099511627776)=some H0) (g3:¬ ((i:Int) < (m0:Int))) (g4:(c:Int)=0) (g5:idxV Tp 22 (.o 1 q) (.i (c:Int))=some (.ptr 1 c 0 q)) (g6:storeV Tp H0 3 (.ptr 1 c 0 q) (.i 0)=some H1):RT polTc 37 (sub [1,1,1,0,1,0,0,1,0,0,1,0,1,0,0] B37) (env37 (.a l) (.a rw) (.a lx) (.i ls) (.imm .lit 1 []) (.bool false) (.i (m0:Int)) (.o 0 m) (.i (i:Int)) (.o 1 q) (.i (c:Int)) y15 y16 y17 y18 y19 y20) H .normal (env37 (.a l) (.a rw) (.a lx) (.i ls) (.imm .lit 1 []) (.bool false) (.i (m0:Int)) (.o 0 m) (.i (i:Int)) (.o 1 q) (.i (IntKind.i64.wrap ((c:Int)+1))) y15 y16 y17 y18 y19 y20) H1 :=
  RunsTo.hin 0 60 [⟨8,3,.bool true,H⟩,⟨10,2,.ptr 1 c 0 q,H⟩,⟨10,3,.tuple [],H0⟩,⟨11,2,.bool false,H0⟩,⟨13,1,.bool true,H0⟩,⟨14,2,.ptr 1 c 0 q,H0⟩,⟨14,3,.tuple [],H1⟩] fun kf hk=>⟨_,by kernel_rfl,(oB H (decide_eq_true g0) (oP H g1 (oS g2 (oB H0 (decide_eq_false g3) (oB H0 (decide_eq_true g4) (oP H0 g5 (oS g6 .nil)))))))⟩
theorem rf_h_2 (l rw lx:List HV) (ls:Int) (m0 m:Nat) (H:Heap) (i:Nat) (q:Nat) (c:Nat) {y15 y16 y17 y18 y19 y20:HV} {H0:Heap} (g0:(c:Int) < (q:Int)) (g1:idxV Tp 22 (.o 1 q) (.i (c:Int))=some (.ptr 1 c 0 q)) (g2:storeV Tp H 3 (.ptr 1 c 0 q) (.i 1099511627776)=some H0) (g3:¬ ((i:Int) < (m0:Int))) (g4:¬ ((c:Int)=0)):RT polTc 37 (sub [1,1,1,0,1,0,0,1,0,0,1,0,1,0,0] B37) (env37 (.a l) (.a rw) (.a lx) (.i ls) (.imm .lit 1 []) (.bool false) (.i (m0:Int)) (.o 0 m) (.i (i:Int)) (.o 1 q) (.i (c:Int)) y15 y16 y17 y18 y19 y20) H .normal (env37 (.a l) (.a rw) (.a lx) (.i ls) (.imm .lit 1 []) (.bool false) (.i (m0:Int)) (.o 0 m) (.i (i:Int)) (.o 1 q) (.i (IntKind.i64.wrap ((c:Int)+1))) y15 y16 y17 y18 y19 y20) H0 :=
  RunsTo.hin 0 60 [⟨8,3,.bool true,H⟩,⟨10,2,.ptr 1 c 0 q,H⟩,⟨10,3,.tuple [],H0⟩,⟨11,2,.bool false,H0⟩,⟨13,1,.bool false,H0⟩] fun kf hk=>⟨_,by kernel_rfl,(oB H (decide_eq_true g0) (oP H g1 (oS g2 (oB H0 (decide_eq_false g3) (oB H0 (decide_eq_false g4) .nil)))))⟩
theorem rf_h_3 (l rw lx:List HV) (ls:Int) (m0 m:Nat) (H:Heap) (i:Nat) (q:Nat) (c:Nat) {y15 y16 y17 y18 y19 y20:HV}(g0:¬ ((c:Int) < (q:Int))):RT polTc 37 (sub [1,1,1,0,1,0,0,1,0,0,1,0,1,0,0] B37) (env37 (.a l) (.a rw) (.a lx) (.i ls) (.imm .lit 1 []) (.bool false) (.i (m0:Int)) (.o 0 m) (.i (i:Int)) (.o 1 q) (.i (c:Int)) y15 y16 y17 y18 y19 y20) H (.exit 2) (env37 (.a l) (.a rw) (.a lx) (.i ls) (.imm .lit 1 []) (.bool false) (.i (m0:Int)) (.o 0 m) (.i (i:Int)) (.o 1 q) (.i (c:Int)) y15 y16 y17 y18 y19 y20) H :=
  RunsTo.hin 0 60 [⟨8,3,.bool false,H⟩] fun kf hk=>⟨_,by kernel_rfl,(oB H (decide_eq_false g0) .nil)⟩
theorem rf_i_0 (l rw lx:List HV) (ls:Int) (m0 m:Nat) (H:Heap) (i:Nat) (q:Nat) {y14 y15 y16 y17 y18 y19 y20:HV} {H0:Heap} (g0:idxV Tp 35 (.o 0 m) (.i (i:Int))=some (.ptr 0 i 0 m)) (g1:sealSt Tp 22 (.ptr 0 i 0 m) (.o 1 q) H=some (.tuple [],H0)):RT polTc 37 (sub [1,1,1,0,1,0,0,1,0,0,1,1] B37) (env37 (.a l) (.a rw) (.a lx) (.i ls) (.imm .lit 1 []) (.bool false) (.i (m0:Int)) (.o 0 m) (.i (i:Int)) (.o 1 q) y14 y15 y16 y17 y18 y19 y20) H .normal (env37 (.a l) (.a rw) (.a lx) (.i ls) (.imm .lit 1 []) (.bool false) (.i (m0:Int)) (.o 0 m) (.i (i:Int)) (.o 1 q) y14 y15 y16 y17 y18 y19 y20) H0 :=
  RunsTo.hin 0 60 [⟨15,3,.ptr 0 i 0 m,H⟩,⟨15,4,.tuple [],H0⟩] fun kf hk=>⟨_,by kernel_rfl,(oP H g0 (oC (g1) .nil))⟩
theorem rf_j_0 (l rw lx:List HV) (ls:Int) (m0 m:Nat) (H:Heap) (i:Nat) {y13 y14 y15 y16 y17 y18 y19 y20:HV}:RT polTc 37 (sub [1,1,1,0,1,0,0,1,1] B37) (env37 (.a l) (.a rw) (.a lx) (.i ls) (.imm .lit 1 []) (.bool false) (.i (m0:Int)) (.o 0 m) (.i (i:Int)) y13 y14 y15 y16 y17 y18 y19 y20) H .normal (env37 (.a l) (.a rw) (.a lx) (.i ls) (.imm .lit 1 []) (.bool false) (.i (m0:Int)) (.o 0 m) (.i (IntKind.i64.wrap ((i:Int) - 1))) y13 y14 y15 y16 y17 y18 y19 y20) H :=
  RunsTo.hin 0 60 [] fun kf hk=>⟨_,by kernel_rfl,.nil⟩
theorem rf_k_0 (l rw lx:List HV) (ls:Int) (m0 m:Nat) (H:Heap) {y12 y13 y14 y15 y16 y17 y18 y19 y20:HV} {rt0:Int} (g0:∀ kf,callN Tp polTc (kf+1) 61 [.a l,.a lx] H=some (.i rt0,H)):RT polTc 37 (sub [1,1,1,1,0] B37) (env37 (.a l) (.a rw) (.a lx) (.i ls) (.imm .lit 1 []) (.bool false) (.i (m0:Int)) (.o 0 m) y12 y13 y14 y15 y16 y17 y18 y19 y20) H .normal (env37 (.a l) (.a rw) (.a lx) (.i ls) (.imm .lit 1 []) (.bool false) (.i (m0:Int)) (.o 0 m) y12 y13 y14 (.i rt0) y16 y17 y18 y19 y20) H :=
  RunsTo.hin 0 60 [⟨16,2,.i rt0,H⟩] fun kf hk=>⟨_,by kernel_rfl,(oC (g0 kf) .nil)⟩
theorem rf_l_0 (l rw lx:List HV) (ls:Int) (m0 m:Nat) (H:Heap) (w:Int) {y12 y13 y14 y16 y17 y18 y19 y20:HV}:RT polTc 37 (sub [1,1,1,1,1,0] B37) (env37 (.a l) (.a rw) (.a lx) (.i ls) (.imm .lit 1 []) (.bool false) (.i (m0:Int)) (.o 0 m) y12 y13 y14 (.i w) y16 y17 y18 y19 y20) H .normal (env37 (.a l) (.a rw) (.a lx) (.i ls) (.imm .lit 1 []) (.bool false) (.i (m0:Int)) (.o 0 m) y12 y13 y14 (.i w) (.i 1099511627776) y17 y18 y19 y20) H :=
  RunsTo.hin 0 60 [] fun kf hk=>⟨_,by kernel_rfl,.nil⟩
theorem rf_m_0 (l rw lx:List HV) (ls:Int) (m0 m:Nat) (H:Heap) (w bs:Int) {y12 y13 y14 y17 y18 y19 y20:HV} {v0:HV} {a0:HV} {x0:Int} (g0:ls=0) (g1:idxV Tp 35 (.o 0 m) (.i 0)=some (.ptr 0 0 0 m)) (g2:loadV Tp H 22 (.ptr 0 0 0 m)=some (v0)) (g3:idxV Tp 22 v0 (.i w)=some (a0)) (g4:loadV Tp H 3 (a0)=some (.i x0)):RT polTc 37 (sub [1,1,1,1,1,1,0] B37) (env37 (.a l) (.a rw) (.a lx) (.i ls) (.imm .lit 1 []) (.bool false) (.i (m0:Int)) (.o 0 m) y12 y13 y14 (.i w) (.i bs) y17 y18 y19 y20) H .normal (env37 (.a l) (.a rw) (.a lx) (.i ls) (.imm .lit 1 []) (.bool false) (.i (m0:Int)) (.o 0 m) y12 y13 y14 (.i w) (.i x0) y17 y18 y19 y20) H :=
  RunsTo.hin 0 60 [⟨18,1,.bool true,H⟩,⟨19,1,.ptr 0 0 0 m,H⟩,⟨19,2,v0,H⟩,⟨19,4,a0,H⟩,⟨19,5,.i x0,H⟩] fun kf hk=>⟨_,by kernel_rfl,(oB H (decide_eq_true g0) (oP H g1 (oP H g2 (oP H g3 (oP H g4 .nil)))))⟩
theorem rf_m_1 (l rw lx:List HV) (ls:Int) (m0 m:Nat) (H:Heap) (w bs:Int) {y12 y13 y14 y17 y18 y19 y20:HV}(g0:¬ (ls=0)):RT polTc 37 (sub [1,1,1,1,1,1,0] B37) (env37 (.a l) (.a rw) (.a lx) (.i ls) (.imm .lit 1 []) (.bool false) (.i (m0:Int)) (.o 0 m) y12 y13 y14 (.i w) (.i bs) y17 y18 y19 y20) H .normal (env37 (.a l) (.a rw) (.a lx) (.i ls) (.imm .lit 1 []) (.bool false) (.i (m0:Int)) (.o 0 m) y12 y13 y14 (.i w) (.i bs) y17 y18 y19 y20) H :=
  RunsTo.hin 0 60 [⟨18,1,.bool false,H⟩] fun kf hk=>⟨_,by kernel_rfl,(oB H (decide_eq_false g0) .nil)⟩
theorem rf_n_0 (l rw lx:List HV) (ls:Int) (m0 m:Nat) (H:Heap) (w bs:Int) {y12 y13 y14 y17 y18 y19 y20:HV}:RT polTc 37 (sub [1,1,1,1,1,1,1,0,0] B37) (env37 (.a l) (.a rw) (.a lx) (.i ls) (.imm .lit 1 []) (.bool false) (.i (m0:Int)) (.o 0 m) y12 y13 y14 (.i w) (.i bs) y17 y18 y19 y20) H .normal (env37 (.a l) (.a rw) (.a lx) (.i ls) (.imm .lit 1 []) (.bool false) (.i (m0:Int)) (.o 0 m) y12 y13 y14 (.i w) (.i bs) (.i 0) y18 y19 y20) H :=
  RunsTo.hin 0 60 [] fun kf hk=>⟨_,by kernel_rfl,.nil⟩
theorem rf_o_0 (l rw lx:List HV) (ls:Int) (m0 m:Nat) (H:Heap) (w bs:Int) (i:Nat) {y12 y13 y14 y18 y19 y20:HV} {v0:HV} {l0:List HV} {rt0:Int} {a0:HV} {x0:Int} (g0:(i:Int) < (m0:Int)) (g1:0 < ls) (g2:idxV Tp 35 (.o 0 m) (.i (IntKind.i64.wrap ((i:Int)+1)))=some (.ptr 0 ((IntKind.i64.wrap ((i:Int)+1)).toNat) 0 m)) (g3:loadV Tp H 22 (.ptr 0 ((IntKind.i64.wrap ((i:Int)+1)).toNat) 0 m)=some (v0)) (g4:idxV Tp 35 (.a rw) (.i (i:Int))=some (.vptr (.a l0))) (g5:∀ kf,callN Tp polTc (kf+1) 60 [.a l,.i w,.a l0] H=some (.i rt0,H)) (g6:idxV Tp 22 v0 (.i rt0)=some (a0)) (g7:loadV Tp H 3 (a0)=some (.i x0)) (gS23:(recL ((loadV Tp H 22 (.ptr 0 ((IntKind.i64.wrap ((i:Int)+1)).toNat) 0 m)).map (fun v=>(v,(H:Heap)))) ((loadV Tp H 22 (.ptr 0 ((IntKind.i64.wrap ((i:Int)+1)).toNat) 0 m)).map (fun v=>(v,(H:Heap)))) H H && true)=true):RT polTc 37 (sub [1,1,1,1,1,1,1,0,1,0,0] B37) (env37 (.a l) (.a rw) (.a lx) (.i ls) (.imm .lit 1 []) (.bool false) (.i (m0:Int)) (.o 0 m) y12 y13 y14 (.i w) (.i bs) (.i (i:Int)) y18 y19 y20) H .normal (env37 (.a l) (.a rw) (.a lx) (.i ls) (.imm .lit 1 []) (.bool false) (.i (m0:Int)) (.o 0 m) y12 y13 y14 (.i w) (.i (min bs (IntKind.i64.wrap (1+x0)))) (.i (IntKind.i64.wrap ((i:Int)+1))) y18 y19 y20) H :=
  RunsTo.hin 0 60 [⟨21,2,.bool true,H⟩,⟨21,5,.bool true,H⟩,⟨23,4,.ptr 0 ((IntKind.i64.wrap ((i:Int)+1)).toNat) 0 m,H⟩,⟨23,5,v0,H⟩,⟨23,10,.vptr (.a l0),H⟩,⟨23,12,.i rt0,H⟩,⟨23,13,a0,H⟩,⟨23,14,.i x0,H⟩] fun kf hk=>⟨_,by kernel_rfl,(oB H (decide_eq_true g0) (oB H (decide_eq_true g1) (oC (gS23) (oP H g2 (oP H g3 (oP H g4 (oC (g5 kf) (oP H g6 (oP H g7 .nil)))))))))⟩
theorem rf_o_1 (l rw lx:List HV) (ls:Int) (m0 m:Nat) (H:Heap) (w bs:Int) (i:Nat) {y12 y13 y14 y18 y19 y20:HV}(g0:(i:Int) < (m0:Int)) (g1:¬ (0 < ls)):RT polTc 37 (sub [1,1,1,1,1,1,1,0,1,0,0] B37) (env37 (.a l) (.a rw) (.a lx) (.i ls) (.imm .lit 1 []) (.bool false) (.i (m0:Int)) (.o 0 m) y12 y13 y14 (.i w) (.i bs) (.i (i:Int)) y18 y19 y20) H (.exit 4) (env37 (.a l) (.a rw) (.a lx) (.i ls) (.imm .lit 1 []) (.bool false) (.i (m0:Int)) (.o 0 m) y12 y13 y14 (.i w) (.i bs) (.i (i:Int)) y18 y19 y20) H :=
  RunsTo.hin 0 60 [⟨21,2,.bool true,H⟩,⟨21,5,.bool false,H⟩] fun kf hk=>⟨_,by kernel_rfl,(oB H (decide_eq_true g0) (oB H (decide_eq_false g1) .nil))⟩
theorem rf_o_2 (l rw lx:List HV) (ls:Int) (m0 m:Nat) (H:Heap) (w bs:Int) (i:Nat) {y12 y13 y14 y18 y19 y20:HV}(g0:¬ ((i:Int) < (m0:Int))):RT polTc 37 (sub [1,1,1,1,1,1,1,0,1,0,0] B37) (env37 (.a l) (.a rw) (.a lx) (.i ls) (.imm .lit 1 []) (.bool false) (.i (m0:Int)) (.o 0 m) y12 y13 y14 (.i w) (.i bs) (.i (i:Int)) y18 y19 y20) H (.exit 4) (env37 (.a l) (.a rw) (.a lx) (.i ls) (.imm .lit 1 []) (.bool false) (.i (m0:Int)) (.o 0 m) y12 y13 y14 (.i w) (.i bs) (.i (i:Int)) y18 y19 y20) H :=
  RunsTo.hin 0 60 [⟨21,2,.bool false,H⟩] fun kf hk=>⟨_,by kernel_rfl,(oB H (decide_eq_false g0) .nil)⟩
theorem rf_p_0 (l rw lx:List HV) (ls:Int) (m0 m:Nat) (H:Heap) (w bs:Int) {y12 y13 y14 y17 y18 y19 y20:HV}(g0:1099511627776 ≤ bs):RT polTc 37 (sub [1,1,1,1,1,1,1,1,0] B37) (env37 (.a l) (.a rw) (.a lx) (.i ls) (.imm .lit 1 []) (.bool false) (.i (m0:Int)) (.o 0 m) y12 y13 y14 (.i w) (.i bs) y17 y18 y19 y20) H .ret (env37 (.a l) (.a rw) (.a lx) (.i ls) (.imm .lit 1 []) (.bool false) (.i (m0:Int)) (.o 0 m) y12 y13 y14 (.i w) (.i bs) y17 y18 y19 y20) H :=
  RunsTo.hin 0 60 [⟨24,1,.bool true,H⟩] fun kf hk=>⟨_,by kernel_rfl,(oB H (decide_eq_true g0) .nil)⟩
theorem rf_p_1 (l rw lx:List HV) (ls:Int) (m0 m:Nat) (H:Heap) (w bs:Int) {y12 y13 y14 y17 y18 y19 y20:HV}(g0:¬ (1099511627776 ≤ bs)):RT polTc 37 (sub [1,1,1,1,1,1,1,1,0] B37) (env37 (.a l) (.a rw) (.a lx) (.i ls) (.imm .lit 1 []) (.bool false) (.i (m0:Int)) (.o 0 m) y12 y13 y14 (.i w) (.i bs) y17 y18 y19 y20) H .normal (env37 (.a l) (.a rw) (.a lx) (.i ls) (.imm .lit 1 []) (.bool false) (.i (m0:Int)) (.o 0 m) y12 y13 y14 (.i w) (.i bs) y17 y18 y19 y20) H :=
  RunsTo.hin 0 60 [⟨24,1,.bool false,H⟩] fun kf hk=>⟨_,by kernel_rfl,(oB H (decide_eq_false g0) .nil)⟩
theorem rf_q_0 (l rw lx:List HV) (ls:Int) (m0 m:Nat) (H:Heap) (w bs:Int) {y12 y13 y14 y17 y18 y19 y20:HV} {H0:Heap} (g0:some (HV.sl H.length 0 0 none 0 1,H ++ [Blk.b []])=some (.s 1 0,H0)):RT polTc 37 (sub [1,1,1,1,1,1,1,1,1,0] B37) (env37 (.a l) (.a rw) (.a lx) (.i ls) (.imm .lit 1 []) (.bool false) (.i (m0:Int)) (.o 0 m) y12 y13 y14 (.i w) (.i bs) y17 y18 y19 y20) H .normal (env37 (.a l) (.a rw) (.a lx) (.i ls) (.imm .lit 1 []) (.bool false) (.i (m0:Int)) (.o 0 m) y12 y13 y14 (.i w) (.i bs) y17 (.s 1 0) y19 y20) H0 :=
  RunsTo.hin 0 60 [⟨26,0,.s 1 0,H0⟩] fun kf hk=>⟨_,by kernel_rfl,(oC (g0) .nil)⟩
theorem rf_r_0 (l rw lx:List HV) (ls:Int) (m0 m:Nat) (H:Heap) (w bs:Int) (z:Nat) {y12 y13 y14 y17 y19 y20:HV}:RT polTc 37 (sub [1,1,1,1,1,1,1,1,1,1,0,0] B37) (env37 (.a l) (.a rw) (.a lx) (.i ls) (.imm .lit 1 []) (.bool false) (.i (m0:Int)) (.o 0 m) y12 y13 y14 (.i w) (.i bs) y17 (.s 1 z) y19 y20) H .normal (env37 (.a l) (.a rw) (.a lx) (.i ls) (.imm .lit 1 []) (.bool false) (.i (m0:Int)) (.o 0 m) y12 y13 y14 (.i w) (.i bs) y17 (.s 1 z) (.i 0) y20) H :=
  RunsTo.hin 0 60 [] fun kf hk=>⟨_,by kernel_rfl,.nil⟩
theorem rf_s_0 (l rw lx:List HV) (ls:Int) (m0 m:Nat) (H:Heap) (w bs:Int) (z j:Nat) {y12 y13 y14 y17 y20:HV} {l0:List HV} {rt0:Int} {v0:HV} {a0:HV} {x0:Int} {H0:Heap} (g0:(j:Int) < (m0:Int)) (g1:(z:Int) < bs) (g2:idxV Tp 35 (.a rw) (.i (j:Int))=some (.vptr (.a l0))) (g3:∀ kf,callN Tp polTc (kf+1) 60 [.a l,.i w,.a l0] H=some (.i rt0,H)) (g4:idxV Tp 35 (.o 0 m) (.i (IntKind.i64.wrap ((j:Int)+1)))=some (.ptr 0 ((IntKind.i64.wrap ((j:Int)+1)).toNat) 0 m)) (g5:loadV Tp H 22 (.ptr 0 ((IntKind.i64.wrap ((j:Int)+1)).toNat) 0 m)=some (v0)) (g6:idxV Tp 22 v0 (.i rt0)=some (a0)) (g7:loadV Tp H 3 (a0)=some (.i x0)) (g8:IntKind.i64.wrap (1+x0)=IntKind.i64.wrap (bs - (z:Int))) (g9:appV H 1 8 (.s 1 z) [.i (j:Int)]=some (.sl 1 0 (z+1) none (z+1) 1,H0)):RT polTc 37 (sub [1,1,1,1,1,1,1,1,1,1,0,1,0,0] B37) (env37 (.a l) (.a rw) (.a lx) (.i ls) (.imm .lit 1 []) (.bool false) (.i (m0:Int)) (.o 0 m) y12 y13 y14 (.i w) (.i bs) y17 (.s 1 z) (.i (j:Int)) y20) H .normal (env37 (.a l) (.a rw) (.a lx) (.i ls) (.imm .lit 1 []) (.bool false) (.i (m0:Int)) (.o 0 m) y12 y13 y14 (.i rt0) (.i bs) y17 (.sl 1 0 (z+1) none (z+1) 1) (.i (IntKind.i64.wrap ((j:Int)+1))) (.i rt0)) H0 :=
  RunsTo.hin 0 60 [⟨28,2,.bool true,H⟩,⟨28,7,.bool true,H⟩,⟨30,4,.vptr (.a l0),H⟩,⟨30,6,.i rt0,H⟩,⟨31,3,.ptr 0 ((IntKind.i64.wrap ((j:Int)+1)).toNat) 0 m,H⟩,⟨31,4,v0,H⟩,⟨31,6,a0,H⟩,⟨31,7,.i x0,H⟩,⟨31,13,.bool true,H⟩,⟨32,3,.sl 1 0 (z+1) none (z+1) 1,H0⟩] fun kf hk=>⟨_,by kernel_rfl,(oB H (decide_eq_true g0) (oB H (decide_eq_true g1) (oP H g2 (oC (g3 kf) (oP H g4 (oP H g5 (oP H g6 (oP H g7 (oB H (decide_eq_true g8) (oC (g9) .nil))))))))))⟩
theorem rf_s_1 (l rw lx:List HV) (ls:Int) (m0 m:Nat) (H:Heap) (w bs:Int) (z j:Nat) {y12 y13 y14 y17 y20:HV} {l0:List HV} {rt0:Int} {v0:HV} {a0:HV} {x0:Int} (g0:(j:Int) < (m0:Int)) (g1:(z:Int) < bs) (g2:idxV Tp 35 (.a rw) (.i (j:Int))=some (.vptr (.a l0))) (g3:∀ kf,callN Tp polTc (kf+1) 60 [.a l,.i w,.a l0] H=some (.i rt0,H)) (g4:idxV Tp 35 (.o 0 m) (.i (IntKind.i64.wrap ((j:Int)+1)))=some (.ptr 0 ((IntKind.i64.wrap ((j:Int)+1)).toNat) 0 m)) (g5:loadV Tp H 22 (.ptr 0 ((IntKind.i64.wrap ((j:Int)+1)).toNat) 0 m)=some (v0)) (g6:idxV Tp 22 v0 (.i rt0)=some (a0)) (g7:loadV Tp H 3 (a0)=some (.i x0)) (g8:¬ (IntKind.i64.wrap (1+x0)=IntKind.i64.wrap (bs - (z:Int)))):RT polTc 37 (sub [1,1,1,1,1,1,1,1,1,1,0,1,0,0] B37) (env37 (.a l) (.a rw) (.a lx) (.i ls) (.imm .lit 1 []) (.bool false) (.i (m0:Int)) (.o 0 m) y12 y13 y14 (.i w) (.i bs) y17 (.s 1 z) (.i (j:Int)) y20) H .normal (env37 (.a l) (.a rw) (.a lx) (.i ls) (.imm .lit 1 []) (.bool false) (.i (m0:Int)) (.o 0 m) y12 y13 y14 (.i w) (.i bs) y17 (.s 1 z) (.i (IntKind.i64.wrap ((j:Int)+1))) (.i rt0)) H :=
  RunsTo.hin 0 60 [⟨28,2,.bool true,H⟩,⟨28,7,.bool true,H⟩,⟨30,4,.vptr (.a l0),H⟩,⟨30,6,.i rt0,H⟩,⟨31,3,.ptr 0 ((IntKind.i64.wrap ((j:Int)+1)).toNat) 0 m,H⟩,⟨31,4,v0,H⟩,⟨31,6,a0,H⟩,⟨31,7,.i x0,H⟩,⟨31,13,.bool false,H⟩] fun kf hk=>⟨_,by kernel_rfl,(oB H (decide_eq_true g0) (oB H (decide_eq_true g1) (oP H g2 (oC (g3 kf) (oP H g4 (oP H g5 (oP H g6 (oP H g7 (oB H (decide_eq_false g8) .nil)))))))))⟩
theorem rf_s_2 (l rw lx:List HV) (ls:Int) (m0 m:Nat) (H:Heap) (w bs:Int) (z j:Nat) {y12 y13 y14 y17 y20:HV}(g0:(j:Int) < (m0:Int)) (g1:¬ ((z:Int) < bs)):RT polTc 37 (sub [1,1,1,1,1,1,1,1,1,1,0,1,0,0] B37) (env37 (.a l) (.a rw) (.a lx) (.i ls) (.imm .lit 1 []) (.bool false) (.i (m0:Int)) (.o 0 m) y12 y13 y14 (.i w) (.i bs) y17 (.s 1 z) (.i (j:Int)) y20) H (.exit 6) (env37 (.a l) (.a rw) (.a lx) (.i ls) (.imm .lit 1 []) (.bool false) (.i (m0:Int)) (.o 0 m) y12 y13 y14 (.i w) (.i bs) y17 (.s 1 z) (.i (j:Int)) y20) H :=
  RunsTo.hin 0 60 [⟨28,2,.bool true,H⟩,⟨28,7,.bool false,H⟩] fun kf hk=>⟨_,by kernel_rfl,(oB H (decide_eq_true g0) (oB H (decide_eq_false g1) .nil))⟩
theorem rf_s_3 (l rw lx:List HV) (ls:Int) (m0 m:Nat) (H:Heap) (w bs:Int) (z j:Nat) {y12 y13 y14 y17 y20:HV}(g0:¬ ((j:Int) < (m0:Int))):RT polTc 37 (sub [1,1,1,1,1,1,1,1,1,1,0,1,0,0] B37) (env37 (.a l) (.a rw) (.a lx) (.i ls) (.imm .lit 1 []) (.bool false) (.i (m0:Int)) (.o 0 m) y12 y13 y14 (.i w) (.i bs) y17 (.s 1 z) (.i (j:Int)) y20) H (.exit 6) (env37 (.a l) (.a rw) (.a lx) (.i ls) (.imm .lit 1 []) (.bool false) (.i (m0:Int)) (.o 0 m) y12 y13 y14 (.i w) (.i bs) y17 (.s 1 z) (.i (j:Int)) y20) H :=
  RunsTo.hin 0 60 [⟨28,2,.bool false,H⟩] fun kf hk=>⟨_,by kernel_rfl,(oB H (decide_eq_false g0) .nil)⟩
theorem rf_t_0 (l rw lx:List HV) (ls:Int) (m0 m:Nat) (H:Heap) (w bs:Int) (z:Nat) {y12 y13 y14 y17 y19 y20:HV}:RT polTc 37 (sub [1,1,1,1,1,1,1,1,1,1,1] B37) (env37 (.a l) (.a rw) (.a lx) (.i ls) (.imm .lit 1 []) (.bool false) (.i (m0:Int)) (.o 0 m) y12 y13 y14 (.i w) (.i bs) y17 (.s 1 z) y19 y20) H .ret (env37 (.a l) (.a rw) (.a lx) (.i ls) (.s 1 z) (.bool true) (.i (m0:Int)) (.o 0 m) y12 y13 y14 (.i w) (.i bs) y17 (.s 1 z) y19 y20) H :=
  RunsTo.hin 0 60 [] fun kf hk=>⟨_,by kernel_rfl,.nil⟩
end Go.Proofs.Ytaibmipamkaljaa
end
section
open Go Go.HL
namespace Go.Proofs.Ytaibmipamkaljaa
open Go.Proofs.Try renaming prog → Tp
open Go.HL.HV renaming undef → Ud
theorem info3f:(Tp.info? 3).map (fun i=>(i.size,i.bytes,i.zero.map ofConst))=some (1,8,some (.int .i64 0)):=by kernel_rfl
theorem info22f:(Tp.info? 22).map (fun i=>(i.size,i.bytes,i.zero.map ofConst))=some (1,24,some (.imm .lit 0 [])):=by kernel_rfl
def rowF (gl:List Int) (R:List (List Int)):List Int:=(List.range (sizeT gl).toNat).map fun (c:Nat)=>fT gl R (c:Int)
def rfS (gl:List Int):List (List Int) → List (List Int)
  | []=>[rowF gl []]
  | x :: s=>rowF gl (x :: s) :: rfS gl s
def rfK (gl:List Int) (R:List (List Int)) (k:Nat):List (List Int):=if k ≤ R.length then rfS gl (R.drop k) else []
theorem rfK_step {gl:List Int} {R:List (List Int)} {k:Nat} (h:k ≤ R.length):rfK gl R k=rowF gl (R.drop k) :: rfK gl R (k+1):=by
  unfold rfK
  rw [if_pos h]
  by_cases e:k=R.length
  · subst e
    rw [if_neg (by omega),List.drop_length]; rfl
  · rw [if_pos (by omega),List.drop_eq_getElem_cons (by omega)]; rfl
theorem rfK_len {gl:List Int} {R:List (List Int)}:∀ d k,k+d=R.length+1 → (rfK gl R k).length=d:=by
  intro d
  induction d with
  | zero=>intro k h; rw [rfK,if_neg (by omega)]; rfl
  | succ d ih=>intro k h; rw [rfK_step (by omega),List.length_cons,ih (k+1) (by omega)]
theorem rfK_at {gl:List Int} {R:List (List Int)}:∀ d k j,k+d=j → j ≤ R.length → (rfK gl R k)[d]?=some (rowF gl (R.drop j)):=by
  intro d
  induction d with
  | zero=>intro k j h hj; rw [rfK_step (by omega)]; simp [← h]
  | succ d ih=>intro k j h hj; rw [rfK_step (by omega),List.getElem?_cons_succ,ih (k+1) j (by omega) hj]
abbrev bNo (k:Nat) (M:List (List Int)):Blk:=.arr 1 (List.replicate k nilV ++ M.map encO) true 0
theorem same_intsL (T:List Int):sameL (T.map encI) (T.map encI)=true:=same_mapL (fun x=>by simp [encI,same]) T
theorem same_encO (r:List Int):same (encO r) (encO r)=true:=by simp only [encO,same,same_intsL,beq_self_eq_true,Bool.and_self]
theorem same_nO (k:Nat) (M:List (List Int)):sameL (List.replicate k nilV ++ M.map encO) (List.replicate k nilV ++ M.map encO)=true:=by
  induction k with
  | zero=>simp only [List.replicate_zero,List.nil_append]; exact same_mapL same_encO M
  | succ k ih=>simp only [List.replicate_succ,List.cons_append,sameL,ih]; rfl
theorem ix35n {m i:Nat} (h:i < m):idxV Tp 35 (.sl 0 0 m (some m) m 1) (.int .i64 (i:Int))=some (.ptr 0 i 0 m):=by
  have:=idx_sl (P:=Tp) (t:=35) (b:=0) (len:=m) (tot:=m) (cap:=some m) (ik:=.i64) (n:=(i:Int)) u35 z22 (by omega) (by omega)
  rwa [Int.toNat_natCast] at this
theorem ix22n {m i:Nat} (h:i < m):idxV Tp 22 (.sl 1 0 m (some m) m 1) (.int .i64 (i:Int))=some (.ptr 1 i 0 m):=by
  have:=idx_sl (P:=Tp) (t:=22) (b:=1) (len:=m) (tot:=m) (cap:=some m) (ik:=.i64) (n:=(i:Int)) u22 z3 (by omega) (by omega)
  rwa [Int.toNat_natCast] at this
theorem ixO {r:List Int} {i:Nat} (h:i < r.length):idxV Tp 22 (encO r) (.int .i64 (i:Int))=some (.vptr (.int .i64 (r.getD i 0))) :=
  idx_imm u22 z3 (by omega) (by rw [Int.toNat_natCast,List.getElem?_map,List.getElem?_eq_getElem h]; simp [List.getD,List.getElem?_eq_getElem h,encI])
theorem ldNo {k m i:Nat} {M:List (List Int)} {H:Heap} {r:List Int} (hm:k+M.length=m) (h:M[i]?=some r):loadV Tp (bNo k M :: H) 22 (.ptr 0 (k+i) 0 m)=some (encO r) :=
  load_elem (b:=0) (els:=List.replicate k nilV ++ M.map encO) rfl (by simp [hm]) (by rw [List.getElem?_append_right (by simp)]; simp [h]) rfl a22 i22
theorem stI {B:Blk} {T:List Int} {q c:Nat} (hq:T.length=q) (hc:c < q) (v:Int):storeV Tp [B,bI T] 3 (.ptr 1 c 0 q) (.int .i64 v)=some [B,bI (T.set c v)]:=by
  subst hq
  exact store_out (H:=[B,bI T]) (k:=1) rfl hc v
theorem ldvi (v:Int) (H:Heap):loadV Tp H 3 (.vptr (.int .i64 v))=some (.int .i64 v):=by
  simp only [loadV,a3,i3]; simp
theorem seal_rowO {k m q:Nat} {M:List (List Int)} {T:List Int} (hm:k+1+M.length=m) (hq:T.length=q) (h0:q ≠ 0) :
    sealSt Tp 22 (.ptr 0 k 0 m) (.sl 1 0 q (some q) q 1) [bNo (k+1) M,bI T]=some (.tuple [],[bNo k (T :: M),.arr 1 (T.map encI) false 0]):=by
  have h1:seal1 [bNo (k+1) M,bI T] (.sl 1 0 q (some q) q 1)=some (encO T,[bNo (k+1) M,.arr 1 (T.map encI) false 0]):=by
    simp only [seal1,if_neg h0,List.getElem?_cons_succ,List.getElem?_cons_zero,List.drop_zero,bI]
    rw [if_pos ⟨by simp [hq],by simp [hq],trivial,by rw [List.take_of_length_le (by simp [hq])]; exact ints_res T⟩,List.take_of_length_le (by simp [hq])]
    rfl
  have hi:(List.replicate (k+1) nilV ++ M.map encO)[k]?=some nilV:=by rw [List.getElem?_append_left (by simp),List.getElem?_replicate]; simp
  have h2:=store_elem (P:=Tp) (t:=22) (b:=0) (tot:=m) (v:=encO T) (H:=[bNo (k+1) M,.arr 1 (T.map encI) false 0]) rfl (by simp; omega) hi rfl (by intro cs h; cases h) z22 rfl rfl rfl
  simp only [sealSt,h1,h2,Option.map_some]
  rw [rep_set]
  rfl
theorem gcO (k:Nat) (M:List (List Int)) (B:List HV) (w:Bool) {r:Nat} (h:r ≤ 1):gc 1 r [bNo k M,.arr 1 B w 0]=[bNo k M]:=by
  have h3:max 1 (max r (mxs [bNo k M,.arr 1 B w 0]))=1:=by
    have:mxs [bNo k M,.arr 1 B w 0]=0:=rfl
    rw [this]; omega
  unfold gc
  rw [h3]; rfl
def FJ (gl:List Int) (s:List (List Int)) (T:List Int) (c:Nat):Prop:=T.length=(sizeT gl).toNat∧∀ j,j < c → T.getD j 0=fT gl s (j:Int)
theorem FJ.put {gl:List Int} {s:List (List Int)} {T:List Int} {c:Nat} (h:FJ gl s T c) (hc:c < (sizeT gl).toNat):FJ gl s (T.set c (fT gl s (c:Int))) (c+1):=by
  refine ⟨by rw [List.length_set]; exact h.1,fun j hj=>?_⟩
  by_cases e:j=c
  · subst e
    simp [List.getD,List.getElem?_set,h.1,hc]
  · have:=h.2 j (by omega)
    simp only [List.getD,List.getElem?_set] at this ⊢
    rw [if_neg (fun h=>e h.symm)]; exact this
theorem FJ.row {gl:List Int} {s:List (List Int)} {T:List Int} (h:FJ gl s T (sizeT gl).toNat):T=rowF gl s:=by
  apply List.ext_getElem
  · rw [h.1]; simp [rowF]
  · intro j h1 h2
    have:=h.2 j (by have:=h.1; omega)
    simp only [rowF,List.getElem_map,List.getElem_range]
    rw [← this]; simp [List.getD,List.getElem?_eq_getElem h1]
theorem rowF_at {gl:List Int} {s:List (List Int)} {c:Nat} (hc:c < (sizeT gl).toNat):(rowF gl s).length=(sizeT gl).toNat∧(rowF gl s).getD c 0=fT gl s (c:Int):=by
  refine ⟨by simp [rowF],?_⟩
  simp [rowF,List.getD,List.getElem?_map,List.getElem?_range,hc]
theorem size_at {pol':Pol} (hp:pol'.prim 40=some size40) {l:List Int} (hg:(newGroupT l).2=true) (H:Heap):∀ k,callN Tp pol' (k+1) 40 [.imm .arg 1 (l.map encI)] H=some (.int .i64 (((sizeT l).toNat:Nat):Int),H):=fun k=>by
  have hd:mapO decI (l.map encI)=some l:=mapO_map decI_enc l
  have hb:=size_bnd hg
  rw [prim_call (pol:=pol') (g:=40) (F:=size40) hp (rs:=[.imm .arg 1 (l.map encI)]) (by simp only [mapO,arg_li]) (res:=.int .i64 (sizeT l)) (by simp only [size40,liF,hd]; rw [if_pos hg]),Int.toNat_of_nonneg (by omega)]
  rfl
theorem less_at {pol':Pol} (hp:pol'.prim 60=some less60) {l x:List Int} {c:Int} (hg:(newGroupT l).2=true) (hc:0 ≤ c∧c < sizeT l) (hx:elB l x=true) (H:Heap):∀ k,callN Tp pol' (k+1) 60 [.imm .arg 1 (l.map encI),.int .i64 c,.imm .arg 1 (x.map encI)] H=some (.int .i64 (lessC l c x),H):=fun k=>by
  have hd:mapO decI (l.map encI)=some l:=mapO_map decI_enc l
  have hd2:mapO decI (x.map encI)=some x:=mapO_map decI_enc x
  have hN:toArg H 6 (.int .i64 c)=some (.int .i64 c):=rfl
  rw [prim_call (pol:=pol') (g:=60) (F:=less60) hp (rs:=[.imm .arg 1 (l.map encI),.int .i64 c,.imm .arg 1 (x.map encI)]) (by simp only [mapO,arg_li,hN]) (res:=.int .i64 (lessC l c x)) (by simp only [less60,hd,hd2]; rw [if_pos ⟨hg,hc,hx⟩]; rfl)]
  rfl
section
variable {gl:List Int} {R:List (List Int)} {xs:List Int} {ls:Int}
abbrev rfE (gl:List Int) (R:List (List Int)) (xs:List Int) (ls:Int) (v10 v11 v12 v13 v14 v15 v16 v17 v18 v19 v20:HV):Env:=(env37 (.imm .arg 1 (gl.map encI)) (.imm .arg 1 (R.map encR)) (.imm .arg 1 (xs.map encI)) (.int .i64 ls) (.imm .lit 1 []) (.bool false) v10 v11 v12 v13 v14 v15 v16 v17 v18 v19 v20)
abbrev rfI (gl:List Int) (R:List (List Int)) (xs:List Int) (ls:Int) (v12 v13 v14:HV):Env:=rfE gl R xs ls (.int .i64 (R.length:Int)) (.sl 0 0 (R.length+1) (some (R.length+1)) (R.length+1) 1) v12 v13 v14 Ud Ud Ud Ud Ud Ud
abbrev qsl (gl:List Int):HV:=.sl 1 0 (sizeT gl).toNat (some (sizeT gl).toNat) (sizeT gl).toNat 1
def okR (gl:List Int) (R:List (List Int)):Prop:=(newGroupT gl).2=true∧(∀ x ∈ R,elB gl x=true)∧R.length ≤ 900
theorem okR.el (h:okR gl R) {i:Nat} (hi:i < R.length):elB gl (R.getD i [])=true:=h.2.1 _ (by rw [List.getD,List.getElem?_eq_getElem hi]; exact List.getElem_mem hi)
theorem drop_cons {α:Type} {R:List α} {i:Nat} (a:α) (h:i < R.length):R.drop i=R.getD i a :: R.drop (i+1):=by
  rw [List.drop_eq_getElem_cons h]; simp [List.getD,List.getElem?_eq_getElem h]
theorem rf_cell (hR:okR gl R) {i:Nat} (hi:i ≤ R.length):∀ d c T,c+d=(sizeT gl).toNat → FJ gl (R.drop i) T c →
    ∃ T' y14,RT polTc 37 (sub [1,1,1,0,1,0,0,1,0,0,1,0,1,0] B37) (rfI gl R xs ls (.int .i64 (i:Int)) (qsl gl) (.int .i64 (c:Int))) [bNo (i+1) (rfK gl R (i+1)),bI T] (.exit 2)
      (rfI gl R xs ls (.int .i64 (i:Int)) (qsl gl) y14) [bNo (i+1) (rfK gl R (i+1)),bI T']∧FJ gl (R.drop i) T' (sizeT gl).toNat:=by
  obtain ⟨hg,hel,hRl⟩:=hR
  have hs:=size_bnd hg
  intro d
  induction d with
  | zero =>
    intro c T hc hT
    have s:=rf_h_3 (gl.map encI) (R.map encR) (xs.map encI) ls R.length (R.length+1) [bNo (i+1) (rfK gl R (i+1)),bI T] i (sizeT gl).toNat c (y15:=Ud) (y16:=Ud) (y17:=Ud) (y18:=Ud) (y19:=Ud) (y20:=Ud) (by omega)
    exact ⟨T,_,lpo (s),(show c=(sizeT gl).toNat by omega) ▸ hT⟩
  | succ d ih =>
    intro c T hc hT
    have hcq:c < (sizeT gl).toNat:=by omega
    have hix:=ix22n hcq
    have fin:∀ U v,T.length=U.length → (∀ j,j ≠ c → U.getD j 0=T.getD j 0) → v=fT gl (R.drop i) (c:Int) → U.getD c 0=v → RT polTc 37 (sub [1,1,1,0,1,0,0,1,0,0,1,0,1,0,0] B37) (rfI gl R xs ls (.int .i64 (i:Int)) (qsl gl) (.int .i64 (c:Int))) [bNo (i+1) (rfK gl R (i+1)),bI T] .normal
        (rfI gl R xs ls (.int .i64 (i:Int)) (qsl gl) (.int .i64 ((c+1:Nat):Int))) [bNo (i+1) (rfK gl R (i+1)),bI U] →
        ∃ T' y14,RT polTc 37 (sub [1,1,1,0,1,0,0,1,0,0,1,0,1,0] B37) (rfI gl R xs ls (.int .i64 (i:Int)) (qsl gl) (.int .i64 (c:Int))) [bNo (i+1) (rfK gl R (i+1)),bI T] (.exit 2)
          (rfI gl R xs ls (.int .i64 (i:Int)) (qsl gl) y14) [bNo (i+1) (rfK gl R (i+1)),bI T']∧FJ gl (R.drop i) T' (sizeT gl).toNat:=fun U v hU hj hv hc2 s=>by
      have hT':FJ gl (R.drop i) U (c+1):=⟨hU ▸ hT.1,fun j hj2=>by
        by_cases e:j=c
        · subst e; rw [hc2,hv]
        · rw [hj j e]; exact hT.2 j (by omega)⟩
      obtain ⟨T',y14,r',hF⟩:=ih (c+1) U (by omega) hT'
      exact ⟨T',y14,lop (s) (gc_eq _ rfl) (r'),hF⟩
    have st1:=stI (B:=bNo (i+1) (rfK gl R (i+1))) hT.1 hcq 1099511627776
    have hT1:(T.set c 1099511627776).length=(sizeT gl).toNat:=by rw [List.length_set]; exact hT.1
    have st2:∀ v,_:=fun v=>stI (B:=bNo (i+1) (rfK gl R (i+1))) hT1 hcq v
    have gS:∀ (v:Int) (j:Nat),((T.set c 1099511627776).set c v).getD j 0=if j=c then v else T.getD j 0:=fun v j=>by
      simp only [List.getD,List.getElem?_set,List.length_set]
      by_cases e:j=c
      · subst e; simp [hT.1,hcq]
      · rw [if_neg (fun h=>e h.symm),if_neg (fun h=>e h.symm),if_neg e]
    by_cases hiL:i=R.length
    · have hnil:R.drop i=[]:=by rw [hiL,List.drop_length]
      by_cases k0:c=0
      · have s:=rf_h_1 (gl.map encI) (R.map encR) (xs.map encI) ls R.length (R.length+1) [bNo (i+1) (rfK gl R (i+1)),bI T] i (sizeT gl).toNat c (y15:=Ud) (y16:=Ud) (y17:=Ud) (y18:=Ud) (y19:=Ud) (y20:=Ud) (by omega) hix st1 (by omega) (by omega) hix (st2 0)
        rw [wrap_succ (by omega)] at s
        exact fin _ 0 (by simp) (fun j hj=>by rw [gS,if_neg hj]) (by rw [hnil,fT,k0]; rfl) (by rw [gS,if_pos rfl]) s
      · have s:=rf_h_2 (gl.map encI) (R.map encR) (xs.map encI) ls R.length (R.length+1) [bNo (i+1) (rfK gl R (i+1)),bI T] i (sizeT gl).toNat c (y15:=Ud) (y16:=Ud) (y17:=Ud) (y18:=Ud) (y19:=Ud) (y20:=Ud) (by omega) hix st1 (by omega) (by omega)
        rw [wrap_succ (by omega)] at s
        exact fin _ 1099511627776 (by simp) (fun j hj=>by simp only [List.getD,List.getElem?_set,if_neg (fun h:c=j=>hj h.symm)]) (by rw [hnil,fT,if_neg (by omega)]) (by simp [List.getD,List.getElem?_set,hT.1,hcq]) s
    · have hlt:i < R.length:=by omega
      have hcons:=drop_cons ([]:List Int) hlt
      have helx:elB gl (R.getD i [])=true:=okR.el ⟨hg,hel,hRl⟩ hlt
      have hlb:=less_bnd (c:=(c:Int)) hg helx
      have hlen:=rfK_len (gl:=gl) (R:=R) (R.length - i) (i+1) (by omega)
      have hx:=ix35n (m:=R.length+1) (i:=i+1) (by omega)
      have hrow:=rfK_at (gl:=gl) (R:=R) 0 (i+1) (i+1) (by omega) (by omega)
      have hld:=ldNo (k:=i+1) (m:=R.length+1) (i:=0) (H:=[bI (T.set c 1099511627776)]) (by omega) hrow
      rw [Nat.add_zero] at hld
      have wi:=wrap_succ (j:=i) (by omega)
      obtain ⟨l1,l2⟩:=rowF_at (gl:=gl) (s:=R.drop (i+1)) hcq
      obtain ⟨_,l4⟩:=rowF_at (gl:=gl) (s:=R.drop (i+1)) (c:=(lessC gl c (R.getD i [])).toNat) (by omega)
      have hB:=ixO (r:=rowF gl (R.drop (i+1))) (i:=c) (by omega)
      have hB2:=ixO (r:=rowF gl (R.drop (i+1))) (i:=(lessC gl c (R.getD i [])).toNat) (by omega)
      rw [l2] at hB
      rw [l4,Int.toNat_of_nonneg hlb.1] at hB2
      have b1:=fT_bnd gl (R.drop (i+1)) (c:Int)
      have b2:=fT_bnd gl (R.drop (i+1)) (lessC gl c (R.getD i []))
      have cl:=less_at (pol':=polTc) (by kernel_rfl) (c:=(c:Int)) hg (by omega) helx [bNo (i+1) (rfK gl R (i+1)),bI (T.set c 1099511627776)]
      have w1:IntKind.i64.wrap (1+fT gl (R.drop (i+1)) (lessC gl c (R.getD i [])))=1+fT gl (R.drop (i+1)) (lessC gl c (R.getD i [])):=wrap_id (by omega) (by omega)
      have s:=rf_h_0 (gl.map encI) (R.map encR) (xs.map encI) ls R.length (R.length+1) [bNo (i+1) (rfK gl R (i+1)),bI T] i (sizeT gl).toNat c (y15:=Ud) (y16:=Ud) (y17:=Ud) (y18:=Ud) (y19:=Ud) (y20:=Ud) (by omega) hix st1 (by omega) (by rw [wi,Int.toNat_natCast]; exact hx) (by rw [wi,Int.toNat_natCast]; exact hld) hB (ldvi _ _) (by rw [wi,Int.toNat_natCast]; exact hx) (by rw [wi,Int.toNat_natCast]; exact hld) (gr hlt) cl hB2 (ldvi _ _) hix (by rw [w1]; exact st2 _) (by
        rw [wi,Int.toNat_natCast,hld]
        simp only [Option.map_some,recL,ldvi,same,same_encO,sameH,same_nO,same_intsL,beq_self_eq_true,Bool.and_self])
      rw [wrap_succ (by omega)] at s
      refine fin _ _ (by simp) (fun j hj=>by rw [gS,if_neg hj]) ?_ (by rw [gS,if_pos rfl]) s
      rw [hcons,fT]
theorem rf_i (hR:okR gl R):∀ k,k ≤ R.length+1 →
    ∃ y13 y14,RT polTc 37 (sub [1,1,1,0,1,0] B37) (rfI gl R xs ls (.int .i64 ((k:Int) - 1)) Ud Ud) [bNo k (rfK gl R k)] (.exit 0)
      (rfI gl R xs ls (.int .i64 (-1)) y13 y14) [bNo 0 (rfK gl R 0)]:=by
  have hR':=hR
  obtain ⟨hg,hel,hRl⟩:=hR
  have hs:=size_bnd hg
  intro k
  induction k with
  | zero =>
    intro _
    have s:=rf_e_1 (gl.map encI) (R.map encR) (xs.map encI) ls R.length (R.length+1) [bNo 0 (rfK gl R 0)] (-1) (y13:=Ud) (y14:=Ud) (y15:=Ud) (y16:=Ud) (y17:=Ud) (y18:=Ud) (y19:=Ud) (y20:=Ud) (by omega)
    exact ⟨_,_,lpo (sqo (s) (c:=sub [1,1,1,0,1,0,0] B37) (b:=sub [1,1,1,0,1,0,0,1] B37))⟩
  | succ k ih =>
    intro hk
    rw [show ((k+1:Nat):Int) - 1=(k:Int) by omega]
    have s1:=rf_e_0 (gl.map encI) (R.map encR) (xs.map encI) ls R.length (R.length+1) [bNo (k+1) (rfK gl R (k+1))] (k:Int) (y13:=Ud) (y14:=Ud) (y15:=Ud) (y16:=Ud) (y17:=Ud) (y18:=Ud) (y19:=Ud) (y20:=Ud) (by omega)
    have mk:=makeV_ok (P:=Tp) (H:=[bNo (k+1) (rfK gl R (k+1))]) (t:=22) (n:=(((sizeT gl).toNat:Nat):Int)) u22 info3f rfl rfl (by omega) (by omega) (by simp only [roomMax]; omega)
    rw [Int.toNat_natCast] at mk
    have s2:=rf_f_0 (gl.map encI) (R.map encR) (xs.map encI) ls R.length (R.length+1) [bNo (k+1) (rfK gl R (k+1))] k (sizeT gl).toNat (y13:=Ud) (y14:=Ud) (y15:=Ud) (y16:=Ud) (y17:=Ud) (y18:=Ud) (y19:=Ud) (y20:=Ud) (size_at (pol':=polTc) (by kernel_rfl) hg _) mk
    have s3:=rf_g_0 (gl.map encI) (R.map encR) (xs.map encI) ls R.length (R.length+1) ([bNo (k+1) (rfK gl R (k+1))] ++ [.arr 1 (List.replicate (sizeT gl).toNat (.int .i64 0)) true 0]) k (sizeT gl).toNat (y14:=Ud) (y15:=Ud) (y16:=Ud) (y17:=Ud) (y18:=Ud) (y19:=Ud) (y20:=Ud)
    have e0:([bNo (k+1) (rfK gl R (k+1))] ++ [.arr 1 (List.replicate (sizeT gl).toNat (.int .i64 0)) true 0]:Heap)=[bNo (k+1) (rfK gl R (k+1)),bI (List.replicate (sizeT gl).toNat 0)]:=by simp [bI,encI]
    rw [e0] at s2 s3
    obtain ⟨T1,y14,r1,hT1⟩:=rf_cell (xs:=xs) (ls:=ls) hR' (i:=k) (by omega) (sizeT gl).toNat 0 (List.replicate (sizeT gl).toNat 0) (by omega) ⟨by simp,fun j hj=>by omega⟩
    have hx:=ix35n (m:=R.length+1) (i:=k) (by omega)
    have hlen:=rfK_len (gl:=gl) (R:=R) (R.length - k) (k+1) (by omega)
    have sl:=seal_rowO (k:=k) (m:=R.length+1) (q:=(sizeT gl).toNat) (M:=rfK gl R (k+1)) (T:=T1) (by omega) hT1.1 (by omega)
    have s4:=rf_i_0 (gl.map encI) (R.map encR) (xs.map encI) ls R.length (R.length+1) [bNo (k+1) (rfK gl R (k+1)),bI T1] k (sizeT gl).toNat (y14:=y14) (y15:=Ud) (y16:=Ud) (y17:=Ud) (y18:=Ud) (y19:=Ud) (y20:=Ud) hx sl
    have s5:=rf_j_0 (gl.map encI) (R.map encR) (xs.map encI) ls R.length (R.length+1) [bNo k (T1 :: rfK gl R (k+1)),.arr 1 (T1.map encI) false 0] k (y13:=qsl gl) (y14:=y14) (y15:=Ud) (y16:=Ud) (y17:=Ud) (y18:=Ud) (y19:=Ud) (y20:=Ud)
    rw [wrap_id (by omega) (by omega)] at s5
    obtain ⟨z13,z14,r2⟩:=ih (by omega)
    rw [rfK_step (gl:=gl) (R:=R) (k:=k) (by omega),← hT1.row] at r2
    have hgc:gc [bNo (k+1) (rfK gl R (k+1))].length (bndE (rfI gl R xs ls (.int .i64 ((k:Int) - 1)) Ud Ud)) [bNo k (T1 :: rfK gl R (k+1)),.arr 1 (T1.map encI) false 0]=[bNo k (T1 :: rfK gl R (k+1))]:=gcO k _ _ false (by simp only [bndE,bnd]; decide)
    exact ⟨z13,z14,lop (sq (s1) (sq (RunsTo.block_normal (i:=1) (c:=sub [1,1,1,0,1,0,0,1,0] B37) (sq (s2) (sq (sq (s3) (bke (c:=sub [1,1,1,0,1,0,0,1,0,0,1,0,1] B37) (lpi (e0:=(rfI gl R xs ls (.int .i64 (k:Int)) (qsl gl) (.int .i64 ((0:Nat):Int)))) r1 (b:=sub [1,1,1,0,1,0,0,1,0,0,1,0,1,0,0] B37))) (c:=sub [1,1,1,0,1,0,0,1,0,0,1,0] B37)) (s4) (c:=sub [1,1,1,0,1,0,0,1,0,0,1] B37)) (c:=sub [1,1,1,0,1,0,0,1,0,0] B37)) (by kernel_rfl)) (s5) (c:=sub [1,1,1,0,1,0,0,1] B37)) (c:=sub [1,1,1,0,1,0,0] B37)) hgc (r2)⟩
abbrev rfB (gl:List Int) (R:List (List Int)) (xs:List Int) (ls:Int) (v12 v13 v14:HV) (w bs:Int) (v17 v18 v19 v20:HV):Env:=rfE gl R xs ls (.int .i64 (R.length:Int)) (.sl 0 0 (R.length+1) (some (R.length+1)) (R.length+1) 1) v12 v13 v14 (.int .i64 w) (.int .i64 bs) v17 v18 v19 v20
theorem row_ld (hR:okR gl R) (B:Heap) {i:Nat} (hi:i ≤ R.length) {w:Int} (hw:0 ≤ w∧w < sizeT gl):loadV Tp (bNo 0 (rfK gl R 0) :: B) 22 (.ptr 0 i 0 (R.length+1))=some (encO (rowF gl (R.drop i))) ∧
    idxV Tp 22 (encO (rowF gl (R.drop i))) (.int .i64 w)=some (.vptr (.int .i64 (fT gl (R.drop i) w))):=by
  have hs:=size_bnd hR.1
  have hlen:=rfK_len (gl:=gl) (R:=R) (R.length+1) 0 (by omega)
  have hrow:=rfK_at (gl:=gl) (R:=R) i 0 i (by omega) hi
  have hld:=ldNo (k:=0) (m:=R.length+1) (i:=i) (H:=B) (by omega) hrow
  rw [Nat.zero_add] at hld
  obtain ⟨l1,l2⟩:=rowF_at (gl:=gl) (s:=R.drop i) (c:=w.toNat) (by omega)
  have hB:=ixO (r:=rowF gl (R.drop i)) (i:=w.toNat) (by omega)
  rw [l2,Int.toNat_of_nonneg hw.1] at hB
  exact ⟨hld,hB⟩
theorem rf_bst (hR:okR gl R) {w:Int} (hw:0 ≤ w∧w < sizeT gl) (hls:0 < ls):∀ d i (bs:Int),i+d=R.length → (0 ≤ bs∧bs ≤ 1099511627776) →
    ∃ y17,RT polTc 37 (sub [1,1,1,1,1,1,1,0,1,0] B37) (rfB gl R xs ls Ud Ud Ud w bs (.int .i64 (i:Int)) Ud Ud Ud) [bNo 0 (rfK gl R 0)] (.exit 4)
      (rfB gl R xs ls Ud Ud Ud w (bst gl (R.drop i) w bs) y17 Ud Ud Ud) [bNo 0 (rfK gl R 0)]:=by
  have hR':=hR
  obtain ⟨hg,hel,hRl⟩:=hR
  intro d
  induction d with
  | zero =>
    intro i bs hi hb
    have s:=rf_o_2 (gl.map encI) (R.map encR) (xs.map encI) ls R.length (R.length+1) [bNo 0 (rfK gl R 0)] w bs i (y12:=Ud) (y13:=Ud) (y14:=Ud) (y18:=Ud) (y19:=Ud) (y20:=Ud) (by omega)
    rw [List.drop_of_length_le (by omega)]
    exact ⟨_,lpo (s)⟩
  | succ d ih =>
    intro i bs hi hb
    have hlt:i < R.length:=by omega
    rw [drop_cons ([]:List Int) hlt,bst]
    have helx:=hR'.el hlt
    have hlb:=less_bnd (c:=w) hg helx
    have cl:=less_at (pol':=polTc) (by kernel_rfl) (c:=w) hg hw helx [bNo 0 (rfK gl R 0)]
    obtain ⟨q1,q2⟩:=row_ld hR' [] (i:=i+1) (by omega) hlb
    have hx:=ix35n (m:=R.length+1) (i:=i+1) (by omega)
    have wi:=wrap_succ (j:=i) (by omega)
    have b2:=fT_bnd gl (R.drop (i+1)) (lessC gl w (R.getD i []))
    have w1:IntKind.i64.wrap (1+fT gl (R.drop (i+1)) (lessC gl w (R.getD i [])))=1+fT gl (R.drop (i+1)) (lessC gl w (R.getD i [])):=wrap_id (by omega) (by omega)
    have s:=rf_o_0 (gl.map encI) (R.map encR) (xs.map encI) ls R.length (R.length+1) [bNo 0 (rfK gl R 0)] w bs i (y12:=Ud) (y13:=Ud) (y14:=Ud) (y18:=Ud) (y19:=Ud) (y20:=Ud) (by omega) hls (by rw [wi,Int.toNat_natCast]; exact hx) (by rw [wi,Int.toNat_natCast]; exact q1) (gr hlt) cl q2 (ldvi _ _) (by
      rw [wi,Int.toNat_natCast,q1]
      simp only [Option.map_some,recL,same_encO,sameH,same_nO,beq_self_eq_true,Bool.and_self])
    rw [wi,w1] at s
    obtain ⟨y17,r⟩:=ih (i+1) (min bs (1+fT gl (R.drop (i+1)) (lessC gl w (R.getD i [])))) (by omega) (by omega)
    exact ⟨y17,lop (s) (gc_eq _ rfl) (r)⟩
theorem rf_q (hR:okR gl R) {best:Int} (hb:0 ≤ best∧best ≤ 1099511627776):∀ d j (w:Int) (o:List Int),j+d=R.length → (0 ≤ w∧w < sizeT gl) → o.length ≤ j →
    ∃ o' w' y19 y20,o'=o ++ (chT gl (R.drop j) j w (best - o.length)).map (fun q=>((q:Nat):Int))∧RT polTc 37 (sub [1,1,1,1,1,1,1,1,1,1,0,1,0] B37) (rfB gl R xs ls Ud Ud Ud w best Ud (.sl 1 0 o.length none o.length 1) (.int .i64 (j:Int)) Ud) [bNo 0 (rfK gl R 0),bI o] (.exit 6)
      (rfB gl R xs ls Ud Ud Ud w' best Ud (.sl 1 0 o'.length none o'.length 1) y19 y20) [bNo 0 (rfK gl R 0),bI o']:=by
  have hR':=hR
  obtain ⟨hg,hel,hRl⟩:=hR
  intro d
  induction d with
  | zero =>
    intro j w o hj hw ho
    have s:=rf_s_3 (gl.map encI) (R.map encR) (xs.map encI) ls R.length (R.length+1) [bNo 0 (rfK gl R 0),bI o] w best o.length j (y12:=Ud) (y13:=Ud) (y14:=Ud) (y17:=Ud) (y20:=Ud) (by omega)
    exact ⟨o,_,_,_,by rw [List.drop_of_length_le (by omega)]; simp [chT],lpo (s)⟩
  | succ d ih =>
    intro j w o hj hw ho
    have hlt:j < R.length:=by omega
    rw [drop_cons ([]:List Int) hlt,chT]
    by_cases hz:(o.length:Int) < best
    · rw [if_neg (by omega)]
      have helx:=hR'.el hlt
      have hlb:=less_bnd (c:=w) hg helx
      have cl:=less_at (pol':=polTc) (by kernel_rfl) (c:=w) hg hw helx [bNo 0 (rfK gl R 0),bI o]
      obtain ⟨q1,q2⟩:=row_ld hR' [bI o] (i:=j+1) (by omega) hlb
      have hx:=ix35n (m:=R.length+1) (i:=j+1) (by omega)
      have wi:=wrap_succ (j:=j) (by omega)
      have b2:=fT_bnd gl (R.drop (j+1)) (lessC gl w (R.getD j []))
      have w1:IntKind.i64.wrap (1+fT gl (R.drop (j+1)) (lessC gl w (R.getD j [])))=1+fT gl (R.drop (j+1)) (lessC gl w (R.getD j [])):=wrap_id (by omega) (by omega)
      have w2:IntKind.i64.wrap (best - (o.length:Int))=best - (o.length:Int):=wrap_id (by omega) (by omega)
      by_cases hc:1+fT gl (R.drop (j+1)) (lessC gl w (R.getD j []))=best - (o.length:Int)
      · rw [if_pos hc]
        have ap:=app_ints (H:=[bNo 0 (rfK gl R 0),bI o]) (b:=1) (o:=o) (xs:=[(j:Int)]) rfl (by simp; omega) (by simp)
        rw [List.length_append,List.length_singleton] at ap
        have s:=rf_s_0 (gl.map encI) (R.map encR) (xs.map encI) ls R.length (R.length+1) [bNo 0 (rfK gl R 0),bI o] w best o.length j (y12:=Ud) (y13:=Ud) (y14:=Ud) (y17:=Ud) (y20:=Ud) (by omega) hz (gr hlt) cl (by rw [wi,Int.toNat_natCast]; exact hx) (by rw [wi,Int.toNat_natCast]; exact q1) q2 (ldvi _ _) (by rw [w1,w2]; exact hc) ap
        obtain ⟨o',w',y19,y20,e,r⟩:=ih (j+1) (lessC gl w (R.getD j [])) (o ++ [(j:Int)]) (by omega) hlb (by simp; omega)
        rw [List.length_append,List.length_singleton] at r
        rw [wi] at s
        refine ⟨o',w',y19,y20,?_,lop (s) (gc_eq _ rfl) (r)⟩
        rw [e,List.length_append,List.length_singleton,show best - ((o.length+1:Nat):Int)=best - o.length - 1 by omega,List.append_assoc]
        rfl
      · rw [if_neg hc]
        have s:=rf_s_1 (gl.map encI) (R.map encR) (xs.map encI) ls R.length (R.length+1) [bNo 0 (rfK gl R 0),bI o] w best o.length j (y12:=Ud) (y13:=Ud) (y14:=Ud) (y17:=Ud) (y20:=Ud) (by omega) hz (gr hlt) cl (by rw [wi,Int.toNat_natCast]; exact hx) (by rw [wi,Int.toNat_natCast]; exact q1) q2 (ldvi _ _) (by rw [w1,w2]; exact hc)
        obtain ⟨o',w',y19,y20,e,r⟩:=ih (j+1) w o (by omega) hw (by omega)
        rw [wi] at s
        exact ⟨o',w',y19,y20,e,lop (s) (gc_eq _ rfl) (r)⟩
    · rw [if_pos (by omega)]
      have s:=rf_s_2 (gl.map encI) (R.map encR) (xs.map encI) ls R.length (R.length+1) [bNo 0 (rfK gl R 0),bI o] w best o.length j (y12:=Ud) (y13:=Ud) (y14:=Ud) (y17:=Ud) (y20:=Ud) (by omega) (by omega)
      exact ⟨o,_,_,_,by simp,lpo (s)⟩
end
theorem res37:Try.f37.results.toList=[.tmp 8,.tmp 9]:=by kernel_rfl
def okF (gl:List Int) (R:List (List Int)) (xs:List Int) (ls:Int):Bool:=(newGroupT gl).2 && R.all (elB gl) && decide (R.length ≤ 900) && elB gl xs && decide (0 ≤ ls∧ls ≤ 1)
def first37:List HV → Option HV
  | [.imm .arg 1 la,.imm .arg 1 ra,.imm .arg 1 xa,.int .i64 ls]=>(match mapO decI la,mapO decR ra,mapO decI xa with
    | some gl,some R,some xs=>if okF gl R xs ls=true then some (firR (firstT gl R xs ls)) else none
    | _,_,_=>none)
  | _=>none
theorem first_inv {args:List HV} {res:HV} (h:first37 args=some res):∃ (gl:List Int) (R:List (List Int)) (xs:List Int) (ls:Int),args=[.imm .arg 1 (gl.map encI),.imm .arg 1 (R.map encR),.imm .arg 1 (xs.map encI),.int .i64 ls]∧okF gl R xs ls=true∧res=firR (firstT gl R xs ls):=by
  unfold first37 at h
  split at h
  · rename_i la ra xa ls
    split at h
    · rename_i gl R xs h1 h2 h3
      split at h
      · rename_i hk
        cases h
        exact ⟨gl,R,xs,ls,by rw [mapO_inv decI_inv h1,mapO_inv decR_inv h2,mapO_inv decI_inv h3],hk,rfl⟩
      · cases h
    · cases h
  · cases h
theorem toRes_lb {H:Heap} {b k:Nat} {cap:Option Nat} {o:List Int} (hb:H[b]?=some (bI o)) (hk:o.length=k) (x:Bool):toRes H false (.tuple [.sl b 0 k cap k 1,.bool x])=some (.tuple [.own 1 (o.map encI),.bool x]):=by
  have hr:=resCell_sl (H:=H) (no:=[b]) (b:=b) (k:=1) (m:=k) (cap:=cap) (els:=o.map encI) hb (by simpa using hk) (mapO_self (fun r=>frz_int 4 r) _)
  have ho:ownedAll H false (.tuple [.sl b 0 k cap k 1,.bool x])=[b]:=by simp [ownedAll,cellsOf,owned,hb]
  simp only [toRes,ho,List.nodup_cons,List.not_mem_nil,not_false_eq_true,List.nodup_nil,and_self,if_true,resVal,mapO,hr]
  rfl
theorem first_ok:PrimOk Tp 37 first37:=by
  refine primOk_pure (pol:=polTc) (fn:=Try.f37) (cd:=B37) follows_mixed soundTc (by kernel_rfl) (by kernel_rfl) (fnokTc 37 _ (by kernel_rfl)) (by kernel_rfl) ?_
  intro args res h
  obtain ⟨gl,R,xs,ls,rfl,hk,rfl⟩:=first_inv h
  simp only [okF,Bool.and_eq_true,decide_eq_true_eq,List.all_eq_true] at hk
  obtain ⟨⟨⟨⟨hg,hel⟩,hRl⟩,hxs⟩,hls⟩:=hk
  have hR:okR gl R:=⟨hg,hel,hRl⟩
  have hs:=size_bnd hg
  have hw:=code_bnd hg hxs
  have a:=rf_a_0 (gl.map encI) (R.map encR) (xs.map encI) ls
  have b:=rf_b_0 (gl.map encI) (R.map encR) (xs.map encI) ls (y10:=Ud) (y11:=Ud) (y12:=Ud) (y13:=Ud) (y14:=Ud) (y15:=Ud) (y16:=Ud) (y17:=Ud) (y18:=Ud) (y19:=Ud) (y20:=Ud)
  rw [List.length_map] at b
  have mk:=makeV_ok (P:=Tp) (H:=[]) (t:=35) (n:=((R.length+1:Nat):Int)) u35 info22f rfl rfl (by omega) (by omega) (by simp only [roomMax]; omega)
  rw [Int.toNat_natCast] at mk
  have c:=rf_c_0 (gl.map encI) (R.map encR) (xs.map encI) ls R.length (R.length+1) (y11:=Ud) (y12:=Ud) (y13:=Ud) (y14:=Ud) (y15:=Ud) (y16:=Ud) (y17:=Ud) (y18:=Ud) (y19:=Ud) (y20:=Ud) (by rw [wrap_succ (by omega)]; exact mk)
  have d:=rf_d_0 (gl.map encI) (R.map encR) (xs.map encI) ls R.length (R.length+1) [.arr 1 (List.replicate (R.length+1) (.imm .lit 0 [])) true 0] (y12:=Ud) (y13:=Ud) (y14:=Ud) (y15:=Ud) (y16:=Ud) (y17:=Ud) (y18:=Ud) (y19:=Ud) (y20:=Ud)
  obtain ⟨y13,y14,r1⟩:=rf_i (xs:=xs) (ls:=ls) hR (R.length+1) (Nat.le_refl _)
  have e0:([bNo (R.length+1) (rfK gl R (R.length+1))]:Heap)=[.arr 1 (List.replicate (R.length+1) (.imm .lit 0 [])) true 0]:=by
    rw [rfK,if_neg (by omega)]; simp [bNo]
  rw [e0,show ((R.length+1:Nat):Int) - 1=(R.length:Int) by omega] at r1
  have cc:=code_at (pol':=polTc) (by kernel_rfl) (l:=gl) (x:=xs) (v:=.imm .arg 1 (xs.map encI)) (H:=[bNo 0 (rfK gl R 0)]) (arg_li _ _) ⟨hg,hxs⟩
  have k1:=rf_k_0 (gl.map encI) (R.map encR) (xs.map encI) ls R.length (R.length+1) [bNo 0 (rfK gl R 0)] (y12:=.int .i64 (-1)) (y13:=y13) (y14:=y14) (y15:=Ud) (y16:=Ud) (y17:=Ud) (y18:=Ud) (y19:=Ud) (y20:=Ud) cc
  have k2:=rf_l_0 (gl.map encI) (R.map encR) (xs.map encI) ls R.length (R.length+1) [bNo 0 (rfK gl R 0)] (codeT gl xs) (y12:=.int .i64 (-1)) (y13:=y13) (y14:=y14) (y16:=Ud) (y17:=Ud) (y18:=Ud) (y19:=Ud) (y20:=Ud)
  have go:∀ bs0 b1:Int,fbT gl R xs ls=b1 → (0 ≤ b1∧b1 ≤ 1099511627776) →
      RT polTc 37 (sub [1,1,1,1,1,1,0] B37) (rfB gl R xs ls (.int .i64 (-1)) y13 y14 (codeT gl xs) 1099511627776 Ud Ud Ud Ud) [bNo 0 (rfK gl R 0)] .normal (rfB gl R xs ls (.int .i64 (-1)) y13 y14 (codeT gl xs) bs0 Ud Ud Ud Ud) [bNo 0 (rfK gl R 0)] →
      (∃ y17,RT polTc 37 (sub [1,1,1,1,1,1,1,0,1,0] B37) (rfB gl R xs ls Ud Ud Ud (codeT gl xs) bs0 (.int .i64 ((0:Nat):Int)) Ud Ud Ud) [bNo 0 (rfK gl R 0)] (.exit 4)
        (rfB gl R xs ls Ud Ud Ud (codeT gl xs) b1 y17 Ud Ud Ud) [bNo 0 (rfK gl R 0)]) →
      ∃ E H v,RT polTc 37 B37 (args0 [.imm .arg 1 (gl.map encI),.imm .arg 1 (R.map encR),.imm .arg 1 (xs.map encI),.int .i64 ls]) [] .ret E H∧resultsV Tp Try.f37 E H=some v∧toRes H false v=some (firR (firstT gl R xs ls)):=fun bs0 b1 hb1 hbb k3 ⟨y17,r2⟩=>by
    have k4:=rf_n_0 (gl.map encI) (R.map encR) (xs.map encI) ls R.length (R.length+1) [bNo 0 (rfK gl R 0)] (codeT gl xs) bs0 (y12:=.int .i64 (-1)) (y13:=y13) (y14:=y14) (y17:=Ud) (y18:=Ud) (y19:=Ud) (y20:=Ud)
    have r2':=lpi (e0:=(rfB gl R xs ls (.int .i64 (-1)) y13 y14 (codeT gl xs) bs0 (.int .i64 ((0:Nat):Int)) Ud Ud Ud)) r2 (b:=sub [1,1,1,1,1,1,1,0,1,0,0] B37)
    by_cases hf:1099511627776 ≤ b1
    · have k5:=rf_p_0 (gl.map encI) (R.map encR) (xs.map encI) ls R.length (R.length+1) [bNo 0 (rfK gl R 0)] (codeT gl xs) b1 (y17:=y17) (y12:=Ud) (y13:=Ud) (y14:=Ud) (y18:=Ud) (y19:=Ud) (y20:=Ud) hf
      have u:=sq (a) (sq (b) (sq (c) (sq (sq (d) (bke (c:=sub [1,1,1,0,1] B37) (lpi (e0:=(rfI gl R xs ls (.int .i64 (R.length:Int)) Ud Ud)) r1 (b:=sub [1,1,1,0,1,0,0] B37))) (c:=sub [1,1,1,0] B37)) (sq (k1) (sq (k2) (sq (k3) (sq (sq (k4) (bke (c:=sub [1,1,1,1,1,1,1,0,1] B37) (r2')) (c:=sub [1,1,1,1,1,1,1,0] B37)) (sqo (k5) (c:=sub [1,1,1,1,1,1,1,1] B37) (b:=sub [1,1,1,1,1,1,1,1,1] B37)) (c:=sub [1,1,1,1,1,1,1] B37)) (c:=sub [1,1,1,1,1,1] B37)) (c:=sub [1,1,1,1,1] B37)) (c:=sub [1,1,1,1] B37)) (c:=sub [1,1,1] B37)) (c:=sub [1,1] B37)) (c:=sub [1] B37)) (c:=B37)
      exact ⟨_,_,.tuple [.imm .lit 1 [],.bool false],u,by simp only [resultsV,res37]; rfl,by rw [firstT,hb1,if_pos hf]; rfl⟩
    · have k5:=rf_p_1 (gl.map encI) (R.map encR) (xs.map encI) ls R.length (R.length+1) [bNo 0 (rfK gl R 0)] (codeT gl xs) b1 (y17:=y17) (y12:=Ud) (y13:=Ud) (y14:=Ud) (y18:=Ud) (y19:=Ud) (y20:=Ud) hf
      have k6:=rf_q_0 (gl.map encI) (R.map encR) (xs.map encI) ls R.length (R.length+1) [bNo 0 (rfK gl R 0)] (codeT gl xs) b1 (y17:=y17) (y12:=Ud) (y13:=Ud) (y14:=Ud) (y18:=Ud) (y19:=Ud) (y20:=Ud) (H0:=[bNo 0 (rfK gl R 0),bI []]) rfl
      have k7:=rf_r_0 (gl.map encI) (R.map encR) (xs.map encI) ls R.length (R.length+1) [bNo 0 (rfK gl R 0),bI []] (codeT gl xs) b1 0 (y17:=y17) (y12:=Ud) (y13:=Ud) (y14:=Ud) (y19:=Ud) (y20:=Ud)
      obtain ⟨o',w',y19,y20,e,r3⟩:=rf_q (xs:=xs) (ls:=ls) hR hbb R.length 0 (codeT gl xs) [] (by omega) hw (by simp)
      have ep:firstT gl R xs ls=some o':=by
        rw [firstT,hb1,if_neg hf,e]; simp
      have k8:=rf_t_0 (gl.map encI) (R.map encR) (xs.map encI) ls R.length (R.length+1) [bNo 0 (rfK gl R 0),bI o'] w' b1 o'.length (y19:=y19) (y20:=y20) (y12:=Ud) (y13:=Ud) (y14:=Ud) (y17:=Ud)
      have u:=sq (a) (sq (b) (sq (c) (sq (sq (d) (bke (c:=sub [1,1,1,0,1] B37) (lpi (e0:=(rfI gl R xs ls (.int .i64 (R.length:Int)) Ud Ud)) r1 (b:=sub [1,1,1,0,1,0,0] B37))) (c:=sub [1,1,1,0] B37)) (sq (k1) (sq (k2) (sq (k3) (sq (sq (k4) (bke (c:=sub [1,1,1,1,1,1,1,0,1] B37) (r2')) (c:=sub [1,1,1,1,1,1,1,0] B37)) (sq (k5) (sq (k6) (sq (sq (k7) (bke (c:=sub [1,1,1,1,1,1,1,1,1,1,0,1] B37) (lpi (e0:=(rfB gl R xs ls Ud Ud Ud (codeT gl xs) b1 y17 (.sl 1 0 0 none 0 1) (.int .i64 ((0:Nat):Int)) Ud)) r3 (b:=sub [1,1,1,1,1,1,1,1,1,1,0,1,0,0] B37))) (c:=sub [1,1,1,1,1,1,1,1,1,1,0] B37)) (k8) (c:=sub [1,1,1,1,1,1,1,1,1,1] B37)) (c:=sub [1,1,1,1,1,1,1,1,1] B37)) (c:=sub [1,1,1,1,1,1,1,1] B37)) (c:=sub [1,1,1,1,1,1,1] B37)) (c:=sub [1,1,1,1,1,1] B37)) (c:=sub [1,1,1,1,1] B37)) (c:=sub [1,1,1,1] B37)) (c:=sub [1,1,1] B37)) (c:=sub [1,1] B37)) (c:=sub [1] B37)) (c:=B37)
      exact ⟨_,_,.tuple [.sl 1 0 o'.length none o'.length 1,.bool true],u,by simp only [resultsV,res37]; rfl,by rw [ep]; exact toRes_lb rfl rfl true⟩
  have fin:∃ E H v,RT polTc 37 B37 (args0 [.imm .arg 1 (gl.map encI),.imm .arg 1 (R.map encR),.imm .arg 1 (xs.map encI),.int .i64 ls]) [] .ret E H∧resultsV Tp Try.f37 E H=some v∧toRes H false v=some (firR (firstT gl R xs ls)):=by
    by_cases h0:ls=0
    · obtain ⟨q1,q2⟩:=row_ld hR [] (i:=0) (by omega) hw
      have k3:=rf_m_0 (gl.map encI) (R.map encR) (xs.map encI) ls R.length (R.length+1) [bNo 0 (rfK gl R 0)] (codeT gl xs) 1099511627776 (y12:=.int .i64 (-1)) (y13:=y13) (y14:=y14) (y17:=Ud) (y18:=Ud) (y19:=Ud) (y20:=Ud) h0 (ix35n (m:=R.length+1) (i:=0) (by omega)) q1 q2 (ldvi _ _)
      have hb:=fT_bnd gl R (codeT gl xs)
      rw [List.drop_zero] at k3
      refine go _ _ (by rw [fbT,if_pos h0]) hb k3 ?_
      by_cases hR0:0 < R.length
      · have s:=rf_o_1 (gl.map encI) (R.map encR) (xs.map encI) ls R.length (R.length+1) [bNo 0 (rfK gl R 0)] (codeT gl xs) (fT gl R (codeT gl xs)) 0 (y12:=Ud) (y13:=Ud) (y14:=Ud) (y18:=Ud) (y19:=Ud) (y20:=Ud) (by omega) (by omega)
        exact ⟨_,lpo (s)⟩
      · have s:=rf_o_2 (gl.map encI) (R.map encR) (xs.map encI) ls R.length (R.length+1) [bNo 0 (rfK gl R 0)] (codeT gl xs) (fT gl R (codeT gl xs)) 0 (y12:=Ud) (y13:=Ud) (y14:=Ud) (y18:=Ud) (y19:=Ud) (y20:=Ud) (by omega)
        exact ⟨_,lpo (s)⟩
    · have k3:=rf_m_1 (gl.map encI) (R.map encR) (xs.map encI) ls R.length (R.length+1) [bNo 0 (rfK gl R 0)] (codeT gl xs) 1099511627776 (y12:=.int .i64 (-1)) (y13:=y13) (y14:=y14) (y17:=Ud) (y18:=Ud) (y19:=Ud) (y20:=Ud) h0
      obtain ⟨y17,r⟩:=rf_bst (xs:=xs) (ls:=ls) hR hw (by omega) R.length 0 1099511627776 (by omega) (by omega)
      rw [List.drop_zero] at r
      exact go _ _ (by rw [fbT,if_neg h0]) (bst_bnd gl _ R _ (by omega) (by omega)) k3 ⟨y17,r⟩
  obtain ⟨E,H,v,u,hv,ht⟩:=fin
  exact ⟨_,_,_,v,u,by simp,hv,ht⟩
end Go.Proofs.Ytaibmipamkaljaa
end
section
open Go Go.HL
namespace Go.Proofs.Ytaibmipamkaljaa
open Go.Proofs.Try renaming prog → Tp
open Go.HL.HV renaming undef → Ud
def argR (H:Heap) (v:HV) (R:List (List Int)):Prop:=toArg H 6 v=some (.imm .arg 1 (R.map encR))
theorem argR_imm (H:Heap) (R:List (List Int)):argR H (.imm .arg 1 (R.map encR)) R:=arg_rw H R
theorem argI_imm (H:Heap) (l:List Int):argI H (.imm .arg 1 (l.map encI)) l:=arg_li H l
theorem argR_sl {H:Heap} {R:List (List Int)} {b m mx:Nat} (hm:R.length=m) (hb:H[b]?=some (.arr 1 (R.map encO) true mx)):argR H (.sl b 0 m none m 1) R:=arg_rs hm hb
theorem argI_sl {H:Heap} {l:List Int} {b m:Nat} (hm:l.length=m) (hb:H[b]?=some (bI l)):argI H (.sl b 0 m none m 1) l:=arg_sl hm hb
abbrev bR (R:List (List Int)):Blk:=.arr 1 (R.map encO) true 0
theorem list_at {pol':Pol} (hp:pol'.prim 14=some list14) {l:List Int} {v:HV} {H:Heap} (h1:argI H v l) :
    ∀ k,callN Tp pol' (k+1) 14 [v] H=some (.sl H.length 0 (l.take 110).length none (l.take 110).length 1,H ++ [bI (l.take 110)]):=fun k=>by
  have hd:mapO decI (l.map encI)=some l:=mapO_map decI_enc l
  unfold argI at h1
  rw [prim_call (pol:=pol') (g:=14) (F:=list14) hp (rs:=[.imm .arg 1 (l.map encI)]) (by simp only [mapO,h1]) (res:=.own 1 ((l.take 110).map encI)) (by simp only [list14,liF,hd]),recv_ints]
theorem table_at {pol':Pol} (hp:pol'.prim 33=some table33) {R:List (List Int)} {v:HV} {H:Heap} (h1:argR H v R) :
    ∀ k,callN Tp pol' (k+1) 33 [v] H=some (.sl H.length 0 (tabT R).length none (tabT R).length 1,H ++ [bR (tabT R)]):=fun k=>by
  have hd:mapO decR (R.map encR)=some R:=mapO_map decR_enc R
  unfold argR at h1
  rw [prim_call (pol:=pol') (g:=33) (F:=table33) hp (rs:=[.imm .arg 1 (R.map encR)]) (by simp only [mapO,h1]) (res:=.own 1 ((tabT R).map encO)) (by simp only [table33,rwF,hd]),recv_rows]
theorem group35_at {pol':Pol} (hp:pol'.prim 35=some group35) {l:List Int} {v:HV} {H:Heap} (h1:argI H v l) :
    ∀ k,callN Tp pol' (k+1) 35 [v] H=some (.bool (newGroupT l).2,H):=fun k=>by
  have hd:mapO decI (l.map encI)=some l:=mapO_map decI_enc l
  unfold argI at h1
  rw [prim_call (pol:=pol') (g:=35) (F:=group35) hp (rs:=[.imm .arg 1 (l.map encI)]) (by simp only [mapO,h1]) (res:=.bool (newGroupT l).2) (by simp only [group35,liF,hd])]
  rfl
theorem list36_at {pol':Pol} (hp:pol'.prim 36=some list36) {gl:List Int} {R:List (List Int)} {v1 v2:HV} {H:Heap} (h1:argI H v1 gl) (h2:argR H v2 R) (hl:gl.length ≤ 1000∧R.length ≤ 1000) :
    ∀ k,callN Tp pol' (k+1) 36 [v1,v2] H=some (.bool (listB gl R),H):=fun k=>by
  have hd:mapO decI (gl.map encI)=some gl:=mapO_map decI_enc gl
  have hd2:mapO decR (R.map encR)=some R:=mapO_map decR_enc R
  unfold argI at h1
  unfold argR at h2
  rw [prim_call (pol:=pol') (g:=36) (F:=list36) hp (rs:=[.imm .arg 1 (gl.map encI),.imm .arg 1 (R.map encR)]) (by simp only [mapO,h1,h2]) (res:=.bool (listB gl R)) (by simp only [list36,lrF,hd,hd2]; rw [if_pos hl])]
  rfl
theorem el38_at {pol':Pol} (hp:pol'.prim 38=some element38) {gl x:List Int} {v1 v2:HV} {H:Heap} (h1:argI H v1 gl) (h2:argI H v2 x) (hl:gl.length ≤ 1000) :
    ∀ k,callN Tp pol' (k+1) 38 [v1,v2] H=some (.bool (elB gl x),H):=fun k=>by
  have hd:mapO decI (gl.map encI)=some gl:=mapO_map decI_enc gl
  have hd2:mapO decI (x.map encI)=some x:=mapO_map decI_enc x
  unfold argI at h1 h2
  rw [prim_call (pol:=pol') (g:=38) (F:=element38) hp (rs:=[.imm .arg 1 (gl.map encI),.imm .arg 1 (x.map encI)]) (by simp only [mapO,h1,h2]) (res:=.bool (elB gl x)) (by simp only [element38,llF,hd,hd2]; rw [if_pos hl])]
  rfl
theorem zero28_at {pol':Pol} (hp:pol'.prim 28=some zero28) {l:List Int} {v:HV} {H:Heap} (h1:argI H v l) (hl:l.length ≤ 1000) :
    ∀ k,callN Tp pol' (k+1) 28 [v] H=some (.sl H.length 0 l.length none l.length 1,H ++ [bI (List.replicate l.length 0)]):=fun k=>by
  have hd:mapO decI (l.map encI)=some l:=mapO_map decI_enc l
  unfold argI at h1
  rw [prim_call (pol:=pol') (g:=28) (F:=zero28) hp (rs:=[.imm .arg 1 (l.map encI)]) (by simp only [mapO,h1]) (res:=.own 1 ((List.replicate l.length (0:Int)).map encI)) (by simp only [zero28,liF,hd]; rw [if_pos hl]),recv_ints,List.length_replicate]
def fst1 (r:Option (List Int)):List Int:=match r with | some p=>p | none=>[]
theorem firR_eq (r:Option (List Int)):firR r=.tuple [.own 1 ((fst1 r).map encI),.bool r.isSome]:=by cases r <;> rfl
theorem recv_lb (l:List Int) (x:Bool) (H:Heap):recv (.tuple [.own 1 (l.map encI),.bool x]) H=(.tuple [.sl H.length 0 l.length none l.length 1,.bool x],H ++ [bI l]):=by
  have h:recvCell (.own 1 (l.map encI)) H=(.sl H.length 0 l.length none l.length 1,H ++ [bI l]):=by
    simp only [recvCell,encI_any,List.length_map]; rfl
  simp only [recv,recvVals,recvVal,h]; rfl
theorem first_at {pol':Pol} (hp:pol'.prim 37=some first37) {gl x:List Int} {R:List (List Int)} {ls:Int} {v1 v2 v3:HV} {H:Heap} (h1:argI H v1 gl) (h2:argR H v2 R) (h3:argI H v3 x) (hk:okF gl R x ls=true) :
    ∀ k,callN Tp pol' (k+1) 37 [v1,v2,v3,.int .i64 ls] H=some (.tuple [.sl H.length 0 (fst1 (firstT gl R x ls)).length none (fst1 (firstT gl R x ls)).length 1,.bool (firstT gl R x ls).isSome],H ++ [bI (fst1 (firstT gl R x ls))]):=fun k=>by
  have hd:mapO decI (gl.map encI)=some gl:=mapO_map decI_enc gl
  have hd2:mapO decR (R.map encR)=some R:=mapO_map decR_enc R
  have hd3:mapO decI (x.map encI)=some x:=mapO_map decI_enc x
  have hN:toArg H 6 (.int .i64 ls)=some (.int .i64 ls):=rfl
  unfold argI at h1 h3
  unfold argR at h2
  rw [prim_call (pol:=pol') (g:=37) (F:=first37) hp (rs:=[.imm .arg 1 (gl.map encI),.imm .arg 1 (R.map encR),.imm .arg 1 (x.map encI),.int .i64 ls]) (by simp only [mapO,h1,h2,h3,hN]) (res:=firR (firstT gl R x ls)) (by simp only [first37,hd,hd2,hd3]; rw [if_pos hk]),firR_eq,recv_lb]
end Go.Proofs.Ytaibmipamkaljaa
end
section
open Go Go.HL
namespace Go.Proofs.Ytaibmipamkaljaa
theorem listB_iff {gl:List Int} {R:List (List Int)}:listB gl R=true ↔ (∀ x ∈ R,elB gl x=true)∧R.length ≤ 60:=by simp [listB,List.all_eq_true]
theorem elems_B {gl:List Int} (hg:(newGroupT gl).2=true) {R:List (List Int)} (h:listB gl R=true):elemsT (grG gl) R=some (els gl R):=by
  obtain ⟨h1,h2⟩:=listB_iff.1 h
  have e1:∀ x ∈ R,elementT (grG gl) x=(eE gl x,true):=fun x hx=>el_E hg (h1 x hx)
  unfold elemsT
  rw [if_pos ⟨h2,List.all_eq_true.2 fun x hx=>by rw [e1 x hx]⟩]
  congr 1
  exact List.map_congr_left fun x hx=>by rw [e1 x hx]
theorem elems_N {gl:List Int} (hg:(newGroupT gl).2=true) {R:List (List Int)} (h:listB gl R=false):elemsT (grG gl) R=none:=by
  unfold elemsT
  rw [if_neg]
  rintro ⟨h2,h1⟩
  have h3:∀ x ∈ R,elB gl x=true:=fun x hx=>by
    cases e:elB gl x with
    | true=>rfl
    | false=>have:=List.all_eq_true.1 h1 x hx; rw [el_no hg e] at this; cases this
  have:listB gl R=true:=listB_iff.2 ⟨h3,h2⟩
  rw [this] at h; cases h
theorem grp_len {gl:List Int} (hg:(newGroupT gl).2=true):1 ≤ gl.length∧gl.length ≤ 2:=by
  rcases grp_cases hg with ⟨a,rfl,_⟩ | ⟨a,b,rfl,_⟩ <;> simp
theorem zero_el {gl:List Int} (hg:(newGroupT gl).2=true):elB gl (List.replicate gl.length 0)=true∧eE gl (List.replicate gl.length 0)=(0,0):=by
  rcases grp_cases hg with ⟨a,rfl,h1,h2⟩ | ⟨a,b,rfl,h1,h2,h3,h4,h5,h6⟩
  · exact ⟨el_mk1 (by omega),rfl⟩
  · refine ⟨el_mk2 (by omega) (by omega),?_⟩
    have:=tE_two (a:=a) (b:=b) (u:=0) (v:=0) (by omega)
    exact this
theorem zeroT_first {gl:List Int} (hg:(newGroupT gl).2=true) {R:List (List Int)} (h:listB gl R=true):zeroT gl R=shP (firstT gl R (List.replicate gl.length 0) 1):=by
  obtain ⟨h1,h2⟩:=listB_iff.1 h
  obtain ⟨z1,z2⟩:=zero_el hg
  have:=first_sh hg h1 (by omega) z1 1 (by omega)
  rw [show ((1:Nat):Int)=1 by rfl] at this
  rw [this,z2]
  unfold zeroT
  rw [if_pos hg]
  have e:=elems_B hg h
  unfold grG at e
  rw [e]
  simp only [els,List.length_map,Nat.add_sub_cancel]
end Go.Proofs.Ytaibmipamkaljaa
end
section
open Go Go.HL
namespace Go.Proofs.Ytaibmipamkaljaa
def nan91:List HV → Option HV | [.int .i64 _]=>some (.bool false) | _=>none
def polNa:Pol:={ pol with prim:=fun g=>if g == 91 then some nan91 else none }
end Go.Proofs.Ytaibmipamkaljaa
end
section
open Go Go.HL
namespace Go.Proofs.Ytaibmipamkaljaa
set_option maxRecDepth 100000
open Go.Proofs.Try renaming prog → Tp
open Go.HL.HV renaming undef → Ud
noncomputable def B91:Code:=Try.f91.body.getD .skip
abbrev env91 (v0 v2:HV):Env:=[(0,v0),(2,v2)]
theorem nan_0 (x:Int)(g0:x=x):RT pol 91 (sub [] B91) [(0,.i x)] [] .ret (env91 (.i x) (.bool false)) [] :=
  RunsTo.hin 0 60 [⟨1,2,.bool false,[]⟩] fun kf hk=>⟨_,by kernel_rfl,(oB [] (congrArg not (decide_eq_true g0)) .nil)⟩
end Go.Proofs.Ytaibmipamkaljaa
end
section
open Go Go.HL
namespace Go.Proofs.Ytaibmipamkaljaa
open Go.Proofs.Try renaming prog → Tp
open Go.HL.HV renaming undef → Ud
theorem res91:Try.f91.results.toList=[.tmp 2]:=by kernel_rfl
theorem nan_ok:PrimOk Tp 91 nan91:=by
  refine primOk_pure (pol:=pol) (fn:=Try.f91) (cd:=B91) follows_mixed sound (by kernel_rfl) (by kernel_rfl) (fnok pol.prim _ _ (by kernel_rfl)) (by kernel_rfl) ?_
  intro args res h
  unfold nan91 at h
  split at h
  · rename_i x
    cases h
    exact ⟨_,_,_,.bool false,nan_0 x rfl,by simp,by simp only [resultsV,res91]; rfl,rfl⟩
  · cases h
theorem soundNa (n:Nat):CallSound Tp (callN Tp polNa n):=sound_prim _ (fun g f h=>by
  split at h
  · rename_i hg; cases h; rw [eq_of_beq hg]; exact nan_ok
  · cases h) n
theorem qnan (x:Int) (H:Heap):∀ kf,callN Tp polNa (kf+1) 91 [.int .i64 x] H=some (.bool false,H):=fun kf=>by
  rw [prim_call (pol:=polNa) (g:=91) (F:=nan91) (by kernel_rfl) (rs:=[.int .i64 x]) rfl (res:=.bool false) rfl]; rfl
end Go.Proofs.Ytaibmipamkaljaa
end
section
open Go Go.HL
namespace Go.Proofs.Ytaibmipamkaljaa
def cmpI (x y:Int):Int:=if x < y then -1 else if y < x then 1 else 0
def compare71:List HV → Option HV | [.int .i64 x,.int .i64 y]=>some (.int .i64 (cmpI x y)) | _=>none
def polCp:Pol:={ pol with prim:=fun g=>if g == 71 then some compare71 else none }
end Go.Proofs.Ytaibmipamkaljaa
end
section
open Go Go.HL
namespace Go.Proofs.Ytaibmipamkaljaa
set_option maxRecDepth 100000
open Go.Proofs.Try renaming prog → Tp
open Go.HL.HV renaming undef → Ud
noncomputable def B71:Code:=Try.f71.body.getD .skip
abbrev env71 (v0 v1 v4 v5 v6:HV):Env:=[(0,v0),(1,v1),(4,v4),(5,v5),(6,v6)]
theorem cpr_0 (x y:Int)(g0:∀ kf,callN Tp polNa (kf+1) 91 [.i x] []=some (.bool false,[])) (g1:∀ kf,callN Tp polNa (kf+1) 91 [.i y] []=some (.bool false,[])) (g2:x < y):RT polNa 71 (sub [] B71) [(0,.i x),(1,.i y)] [] .ret (env71 (.i x) (.i y) (.i (-1)) (.bool false) (.bool false)) [] :=
  RunsTo.hin 0 60 [⟨1,1,.bool false,[]⟩,⟨2,1,.bool false,[]⟩,⟨9,2,.bool true,[]⟩] fun kf hk=>⟨_,by kernel_rfl,(oC (g0 kf) (oC (g1 kf) (oB [] (decide_eq_true g2) .nil)))⟩
theorem cpr_1 (x y:Int)(g0:∀ kf,callN Tp polNa (kf+1) 91 [.i x] []=some (.bool false,[])) (g1:∀ kf,callN Tp polNa (kf+1) 91 [.i y] []=some (.bool false,[])) (g2:¬ (x < y)) (g3:y < x):RT polNa 71 (sub [] B71) [(0,.i x),(1,.i y)] [] .ret (env71 (.i x) (.i y) (.i 1) (.bool false) (.bool false)) [] :=
  RunsTo.hin 0 60 [⟨1,1,.bool false,[]⟩,⟨2,1,.bool false,[]⟩,⟨9,2,.bool false,[]⟩,⟨11,2,.bool true,[]⟩] fun kf hk=>⟨_,by kernel_rfl,(oC (g0 kf) (oC (g1 kf) (oB [] (decide_eq_false g2) (oB [] (decide_eq_true g3) .nil))))⟩
theorem cpr_2 (x y:Int)(g0:∀ kf,callN Tp polNa (kf+1) 91 [.i x] []=some (.bool false,[])) (g1:∀ kf,callN Tp polNa (kf+1) 91 [.i y] []=some (.bool false,[])) (g2:¬ (x < y)) (g3:¬ (y < x)):RT polNa 71 (sub [] B71) [(0,.i x),(1,.i y)] [] .ret (env71 (.i x) (.i y) (.i 0) (.bool false) (.bool false)) [] :=
  RunsTo.hin 0 60 [⟨1,1,.bool false,[]⟩,⟨2,1,.bool false,[]⟩,⟨9,2,.bool false,[]⟩,⟨11,2,.bool false,[]⟩] fun kf hk=>⟨_,by kernel_rfl,(oC (g0 kf) (oC (g1 kf) (oB [] (decide_eq_false g2) (oB [] (decide_eq_false g3) .nil))))⟩
noncomputable def B64:Code:=Try.f64.body.getD .skip
abbrev env64 (v0 v1 v4 v5 v6 v7 v8 v9 v10 v11:HV):Env:=[(0,v0),(1,v1),(4,v4),(5,v5),(6,v6),(7,v7),(8,v8),(9,v9),(10,v10),(11,v11)]
theorem cl_a_0 (a x:Int) (c0:Int) (g0:∀ kf,callN Tp polCp (kf+1) 71 [.i a,.i x] []=some (.i c0,[])) (g1:¬ (c0=0)):RT polCp 64 (sub [] B64) [(0,.a [.i a]),(1,.a [.i x])] [] .ret (env64 (.a [.i a]) (.a [.i x]) (.i c0) (.i 0) (.i a) (.i x) (.i c0) (.a [.i a]) (.i 1) (.i 0)) [] :=
  RunsTo.hin 0 60 [⟨7,2,.i c0,[]⟩,⟨8,1,.bool true,[]⟩] fun kf hk=>⟨_,by kernel_rfl,(oC (g0 kf) (oB [] (congrArg not (decide_eq_false g1)) .nil))⟩
theorem cl_a_1 (a x:Int) (c0:Int) (g0:∀ kf,callN Tp polCp (kf+1) 71 [.i a,.i x] []=some (.i c0,[])) (g1:c0=0):RT polCp 64 (sub [] B64) [(0,.a [.i a]),(1,.a [.i x])] [] .ret (env64 (.a [.i a]) (.a [.i x]) (.i 0) Ud Ud Ud Ud (.a [.i a]) (.i 1) (.i 1)) [] :=
  RunsTo.hin 0 60 [⟨7,2,.i c0,[]⟩,⟨8,1,.bool false,[]⟩] fun kf hk=>⟨_,by kernel_rfl,(oC (g0 kf) (oB [] (congrArg not (decide_eq_true g1)) .nil))⟩
theorem cl_b_0 (a b x y:Int) (c0:Int) (g0:∀ kf,callN Tp polCp (kf+1) 71 [.i a,.i x] []=some (.i c0,[])) (g1:¬ (c0=0)):RT polCp 64 (sub [] B64) [(0,.a [.i a,.i b]),(1,.a [.i x,.i y])] [] .ret (env64 (.a [.i a,.i b]) (.a [.i x,.i y]) (.i c0) (.i 0) (.i a) (.i x) (.i c0) (.a [.i a,.i b]) (.i 2) (.i 0)) [] :=
  RunsTo.hin 0 60 [⟨7,2,.i c0,[]⟩,⟨8,1,.bool true,[]⟩] fun kf hk=>⟨_,by kernel_rfl,(oC (g0 kf) (oB [] (congrArg not (decide_eq_false g1)) .nil))⟩
theorem cl_b_1 (a b x y:Int) (c0:Int) (c1:Int) (g0:∀ kf,callN Tp polCp (kf+1) 71 [.i a,.i x] []=some (.i c0,[])) (g1:c0=0) (g2:∀ kf,callN Tp polCp (kf+1) 71 [.i b,.i y] []=some (.i c1,[])) (g3:¬ (c1=0)):RT polCp 64 (sub [] B64) [(0,.a [.i a,.i b]),(1,.a [.i x,.i y])] [] .ret (env64 (.a [.i a,.i b]) (.a [.i x,.i y]) (.i c1) (.i 1) (.i b) (.i y) (.i c1) (.a [.i a,.i b]) (.i 2) (.i 1)) [] :=
  RunsTo.hin 0 60 [⟨7,2,.i c0,[]⟩,⟨8,1,.bool false,[]⟩,⟨7,2,.i c1,[]⟩,⟨8,1,.bool true,[]⟩] fun kf hk=>⟨_,by kernel_rfl,(oC (g0 kf) (oB [] (congrArg not (decide_eq_true g1)) (oC (g2 kf) (oB [] (congrArg not (decide_eq_false g3)) .nil))))⟩
theorem cl_b_2 (a b x y:Int) (c0:Int) (c1:Int) (g0:∀ kf,callN Tp polCp (kf+1) 71 [.i a,.i x] []=some (.i c0,[])) (g1:c0=0) (g2:∀ kf,callN Tp polCp (kf+1) 71 [.i b,.i y] []=some (.i c1,[])) (g3:c1=0):RT polCp 64 (sub [] B64) [(0,.a [.i a,.i b]),(1,.a [.i x,.i y])] [] .ret (env64 (.a [.i a,.i b]) (.a [.i x,.i y]) (.i 0) Ud Ud Ud Ud (.a [.i a,.i b]) (.i 2) (.i 2)) [] :=
  RunsTo.hin 0 60 [⟨7,2,.i c0,[]⟩,⟨8,1,.bool false,[]⟩,⟨7,2,.i c1,[]⟩,⟨8,1,.bool false,[]⟩] fun kf hk=>⟨_,by kernel_rfl,(oC (g0 kf) (oB [] (congrArg not (decide_eq_true g1)) (oC (g2 kf) (oB [] (congrArg not (decide_eq_true g3)) .nil))))⟩
end Go.Proofs.Ytaibmipamkaljaa
end
section
open Go Go.HL
namespace Go.Proofs.Ytaibmipamkaljaa
open Go.Proofs.Try renaming prog → Tp
open Go.HL.HV renaming undef → Ud
theorem li_a (m0 m1 x0 x1:Int):callN Tp pol 60 62 [.agg [.int .i64 m0,.int .i64 m1,.int .i64 1],.agg [.int .i64 x0,.int .i64 x1]] []=some (.sl 0 0 1 none 1 1,[.arr 1 [.int .i64 x0] true 0]):=by kernel_rfl
theorem li_b (m0 m1 x0 x1:Int):callN Tp pol 60 62 [.agg [.int .i64 m0,.int .i64 m1,.int .i64 2],.agg [.int .i64 x0,.int .i64 x1]] []=some (.sl 0 0 2 none 2 1,[.arr 1 [.int .i64 x0,.int .i64 x1] true 0]):=by kernel_rfl
end Go.Proofs.Ytaibmipamkaljaa
end
section
open Go Go.HL
namespace Go.Proofs.Ytaibmipamkaljaa
open Go.Proofs.Try renaming prog → Tp
open Go.HL.HV renaming undef → Ud
theorem res71:Try.f71.results.toList=[.tmp 4]:=by kernel_rfl
theorem res64:Try.f64.results.toList=[.tmp 4]:=by kernel_rfl
theorem compare_ok:PrimOk Tp 71 compare71:=by
  refine primOk_pure (pol:=polNa) (fn:=Try.f71) (cd:=B71) follows_mixed soundNa (by kernel_rfl) (by kernel_rfl) (fnok polNa.prim _ _ (by kernel_rfl)) (by kernel_rfl) ?_
  intro args res h
  unfold compare71 at h
  split at h
  · rename_i x y
    cases h
    unfold cmpI
    by_cases c1:x < y
    · rw [if_pos c1]
      exact ⟨_,_,_,.int .i64 (-1),cpr_0 x y (qnan x []) (qnan y []) c1,by simp,by simp only [resultsV,res71]; rfl,rfl⟩
    · rw [if_neg c1]
      by_cases c2:y < x
      · rw [if_pos c2]
        exact ⟨_,_,_,.int .i64 1,cpr_1 x y (qnan x []) (qnan y []) c1 c2,by simp,by simp only [resultsV,res71]; rfl,rfl⟩
      · rw [if_neg c2]
        exact ⟨_,_,_,.int .i64 0,cpr_2 x y (qnan x []) (qnan y []) c1 c2,by simp,by simp only [resultsV,res71]; rfl,rfl⟩
  · cases h
theorem soundCp (n:Nat):CallSound Tp (callN Tp polCp n):=sound_prim _ (fun g f h=>by
  split at h
  · rename_i hg; cases h; rw [eq_of_beq hg]; exact compare_ok
  · cases h) n
theorem qcmp (x y:Int) (H:Heap):∀ kf,callN Tp polCp (kf+1) 71 [.int .i64 x,.int .i64 y] H=some (.int .i64 (cmpI x y),H):=fun kf=>by
  rw [prim_call (pol:=polCp) (g:=71) (F:=compare71) (by kernel_rfl) (rs:=[.int .i64 x,.int .i64 y]) rfl (res:=.int .i64 (cmpI x y)) rfl]; rfl
def cmpL:List Int → List Int → Option Int
  | [a],[x]=>some (cmpI a x)
  | [a,b],[x,y]=>some (if cmpI a x=0 then cmpI b y else cmpI a x)
  | _,_=>none
def compare64:List HV → Option HV
  | [.imm .arg 1 la,.imm .arg 1 lb]=>(match mapO decI la,mapO decI lb with | some a,some b=>(cmpL a b).map fun c=>.int .i64 c | _,_=>none)
  | _=>none
theorem compare64_ok:PrimOk Tp 64 compare64:=by
  refine primOk_pure (pol:=polCp) (fn:=Try.f64) (cd:=B64) follows_mixed soundCp (by kernel_rfl) (by kernel_rfl) (fnok polCp.prim _ _ (by kernel_rfl)) (by kernel_rfl) ?_
  intro args res h
  unfold compare64 at h
  split at h
  · split at h
    · rename_i a b ha hb
      rw [mapO_inv decI_inv ha,mapO_inv decI_inv hb]
      match a,b,h with
      | [a],[x],h =>
        cases h
        by_cases c:cmpI a x=0
        · exact ⟨_,_,_,.int .i64 0,cl_a_1 a x _ (qcmp a x []) c,by simp,by simp only [resultsV,res64]; rfl,by rw [c]; rfl⟩
        · exact ⟨_,_,_,.int .i64 (cmpI a x),cl_a_0 a x _ (qcmp a x []) c,by simp,by simp only [resultsV,res64]; rfl,rfl⟩
      | [a,b],[x,y],h =>
        cases h
        by_cases c:cmpI a x=0
        · rw [if_pos c]
          by_cases d:cmpI b y=0
          · exact ⟨_,_,_,.int .i64 0,cl_b_2 a b x y _ _ (qcmp a x []) c (qcmp b y []) d,by simp,by simp only [resultsV,res64]; rfl,by rw [d]; rfl⟩
          · exact ⟨_,_,_,.int .i64 (cmpI b y),cl_b_1 a b x y _ _ (qcmp a x []) c (qcmp b y []) d,by simp,by simp only [resultsV,res64]; rfl,rfl⟩
        · rw [if_neg c]
          exact ⟨_,_,_,.int .i64 (cmpI a x),cl_b_0 a b x y _ (qcmp a x []) c,by simp,by simp only [resultsV,res64]; rfl,rfl⟩
    · cases h
  · cases h
def lstT (g:Gr) (x:El):List Int:=if g.2.2=1 then [x.1] else [x.1,x.2]
def list62:List HV → Option HV
  | [a,b]=>(match decG a,decX b with | some g,some x=>if g.2.2=1 ∨ g.2.2=2 then some (.own 1 ((lstT g x).map encI)) else none | _,_=>none)
  | _=>none
theorem list62_ok:PrimOk Tp 62 list62:=by
  refine primOk_of (pol:=pol) sound (by kernel_rfl) fun args res h=>?_
  unfold list62 at h
  split at h
  · rename_i a b
    split at h
    · rename_i g x hg hx
      split at h
      · rename_i hs
        cases h
        rw [decG_inv _ _ hg,decX_inv _ _ hx]
        obtain ⟨m0,m1,sz⟩:=g
        obtain ⟨x0,x1⟩:=x
        rcases hs with hs | hs
        · have hs:sz=1:=hs
          subst hs
          exact ⟨60,_,_,false,li_a m0 m1 x0 x1,res_li (o:=[x0]) rfl rfl⟩
        · have hs:sz=2:=hs
          subst hs
          exact ⟨60,_,_,false,li_b m0 m1 x0 x1,res_li (o:=[x0,x1]) rfl rfl⟩
      · cases h
    · cases h
  · cases h
end Go.Proofs.Ytaibmipamkaljaa
end
section
namespace Go.HL.So
set_option linter.unusedSectionVars false
variable {α:Type} [Inhabited α]
abbrev at_ (l:List α) (i:Nat):α:=l.getD i default
def swp (l:List α) (i j:Nat):List α:=(l.set i (at_ l j)).set j (at_ l i)
theorem swp_len (l:List α) (i j:Nat):(swp l i j).length=l.length:=by simp [swp]
theorem set_at (l:List α) (i k:Nat) (v:α) (hi:i < l.length):at_ (l.set i v) k=if i=k then v else at_ l k:=by
  simp only [at_,List.getD,List.getElem?_set,hi]
  split
  · rename_i e; subst e; simp
  · rfl
theorem swp_at {l:List α} {i j:Nat} (hi:i < l.length) (hj:j < l.length) (k:Nat):at_ (swp l i j) k=if k=j then at_ l i else if k=i then at_ l j else at_ l k:=by
  unfold swp
  rw [set_at (l.set i (at_ l j)) j k (at_ l i) (by simpa using hj),set_at l i k (at_ l j) hi]
  by_cases e:j=k
  · subst e; simp
  · have e':¬ k=j:=fun h=>e h.symm
    rw [if_neg e,if_neg e']
    by_cases e2:i=k
    · subst e2; simp
    · have e2':¬ k=i:=fun h=>e2 h.symm
      rw [if_neg e2,if_neg e2']
theorem swp_perm {l:List α} {i j:Nat} (hi:i < l.length) (hj:j < l.length):(swp l i j).Perm l:=by
  have h:=Array.swap_perm (xs:=l.toArray) (i:=i) (j:=j) (by simpa using hi) (by simpa using hj)
  have h2:=h.toList
  rw [Array.toList_swap] at h2
  simpa [swp,at_,List.getD,List.getElem?_eq_getElem hi,List.getElem?_eq_getElem hj] using h2
inductive Sw (a b:Nat) (l:List α):List α → Prop
  | refl:Sw a b l l
  | step {l':List α} {i j:Nat}:Sw a b l l' → a ≤ i → i < b → a ≤ j → j < b → Sw a b l (swp l' i j)
theorem Sw.len {a b:Nat} {l l':List α} (h:Sw a b l l'):l'.length=l.length:=by
  induction h with
  | refl=>rfl
  | step h1 _ _ _ _ ih=>rw [swp_len,ih]
theorem Sw.trans {a b:Nat} {l l' l'':List α} (h:Sw a b l l') (h':Sw a b l' l''):Sw a b l l'':=by
  induction h' with
  | refl=>exact h
  | step _ h1 h2 h3 h4 ih=>exact ih.step h1 h2 h3 h4
theorem Sw.one {a b i j:Nat} {l:List α} (h1:a ≤ i) (h2:i < b) (h3:a ≤ j) (h4:j < b):Sw a b l (swp l i j):=Sw.refl.step h1 h2 h3 h4
theorem Sw.mono {a b a' b':Nat} {l l':List α} (h:Sw a b l l') (ha:a' ≤ a) (hb:b ≤ b'):Sw a' b' l l':=by
  induction h with
  | refl=>exact .refl
  | step _ h1 h2 h3 h4 ih=>exact ih.step (by omega) (by omega) (by omega) (by omega)
theorem Sw.perm {a b:Nat} {l l':List α} (h:Sw a b l l') (hb:b ≤ l.length):l'.Perm l:=by
  induction h with
  | refl=>exact List.Perm.refl _
  | step h1 h2 h3 h4 h5 ih=>exact (swp_perm (by rw [h1.len]; omega) (by rw [h1.len]; omega)).trans ih
theorem Sw.out {a b:Nat} {l l':List α} (h:Sw a b l l') (hb:b ≤ l.length) {k:Nat} (hk:k < a ∨ b ≤ k):at_ l' k=at_ l k:=by
  induction h with
  | refl=>rfl
  | step h1 h2 h3 h4 h5 ih=>rw [swp_at (by rw [h1.len]; omega) (by rw [h1.len]; omega),if_neg (by omega),if_neg (by omega),ih]
theorem Sw.all {a b:Nat} {l l':List α} (h:Sw a b l l') (hb:b ≤ l.length) {Q:α → Prop} {lo hi:Nat} (hlo:lo ≤ a) (hhi:b ≤ hi) (hQ:∀ i,lo ≤ i → i < hi → Q (at_ l i)):∀ i,lo ≤ i → i < hi → Q (at_ l' i):=by
  induction h with
  | refl=>exact hQ
  | step h1 h2 h3 h4 h5 ih =>
    intro k hk1 hk2
    rw [swp_at (by rw [h1.len]; omega) (by rw [h1.len]; omega)]
    split
    · exact ih _ (by omega) (by omega)
    · split
      · exact ih _ (by omega) (by omega)
      · exact ih _ hk1 hk2
theorem Sw.mem {a b:Nat} {l l':List α} (h:Sw a b l l') (hb:b ≤ l.length) {Q:α → Prop} (hQ:∀ x ∈ l,Q x):∀ x ∈ l',Q x:=fun x hx=>hQ x ((h.perm hb).mem_iff.1 hx)
structure Lin (lt:α → α → Prop):Prop where
  tr:∀ x y z,¬ lt y x → ¬ lt z y → ¬ lt z x
  asy:∀ x y,lt x y → ¬ lt y x
def Sorted (lt:α → α → Prop) (a b:Nat) (l:List α):Prop:=∀ i j,a ≤ i → i < j → j < b → ¬ lt (at_ l j) (at_ l i)
section
variable {lt:α → α → Prop} (hL:Lin lt)
include hL
theorem Lin.rf (x:α):¬ lt x x:=fun h=>hL.asy x x h h
def Sink (lt:α → α → Prop) (a i j:Nat) (l:List α):Prop:=∀ p q,a ≤ p → p < q → q < i → q ≠ j → ¬ lt (at_ l q) (at_ l p)
omit hL in
theorem sink_start {a i:Nat} {l:List α} (h:Sorted lt a i l):Sink lt a (i+1) i l:=fun p q h1 h2 h3 h4=>h p q h1 h2 (by omega)
theorem sink_step {a i j:Nat} {l:List α} (hi:i ≤ l.length) (hj:j < i) (ha:a < j) (h:Sink lt a i j l) (hc:lt (at_ l j) (at_ l (j - 1))):Sink lt a i (j - 1) (swp l j (j - 1)):=by
  intro p q h1 h2 h3 h4
  rw [swp_at (by omega) (by omega),swp_at (by omega) (by omega)]
  have hne:¬ q=j - 1:=h4
  rw [if_neg hne]
  by_cases eq:q=j
  · rw [if_pos eq]
    by_cases ep:p=j - 1
    · rw [if_pos ep]; exact hL.asy _ _ hc
    · rw [if_neg ep,if_neg (by omega)]
      exact h p (j - 1) h1 (by omega) (by omega) (by omega)
  · rw [if_neg eq]
    by_cases ep:p=j - 1
    · rw [if_pos ep]; exact h j q (by omega) (by omega) h3 eq
    · rw [if_neg ep]
      by_cases ep2:p=j
      · rw [if_pos ep2]; exact h (j - 1) q (by omega) (by omega) h3 eq
      · rw [if_neg ep2]; exact h p q h1 h2 h3 eq
theorem sink_end {a i j:Nat} {l:List α} (h:Sink lt a i j l) (hc:j ≤ a ∨ ¬ lt (at_ l j) (at_ l (j - 1))):Sorted lt a i l:=by
  intro p q h1 h2 h3
  by_cases e:q=j
  · subst e
    rcases hc with hc | hc
    · omega
    · by_cases ep:p=q - 1
      · subst ep; exact hc
      · exact hL.tr _ _ _ (h p (q - 1) h1 (by omega) (by omega) (by omega)) hc
  · exact h p q h1 h2 h3 e
def Hp (lt:α → α → Prop) (fi lo hi:Nat) (l:List α):Prop:=∀ k c,lo ≤ k → (c=2 * k+1 ∨ c=2 * k+2) → c < hi → ¬ lt (at_ l (fi+k)) (at_ l (fi+c))
def HpX (lt:α → α → Prop) (fi lo hi r:Nat) (l:List α):Prop :=
  (∀ k c,lo ≤ k → k ≠ r → (c=2 * k+1 ∨ c=2 * k+2) → c < hi → ¬ lt (at_ l (fi+k)) (at_ l (fi+c))) ∧
  (∀ k c,lo ≤ k → (r=2 * k+1 ∨ r=2 * k+2) → (c=2 * r+1 ∨ c=2 * r+2) → c < hi → ¬ lt (at_ l (fi+k)) (at_ l (fi+c)))
omit hL in
theorem hpx_start {fi lo hi:Nat} {l:List α} (h:Hp lt fi (lo+1) hi l):HpX lt fi lo hi lo l :=
  ⟨fun k c h1 h2 h3 h4=>h k c (by omega) h3 h4,fun k c h1 h2=>by omega⟩
theorem hpx_end {fi lo hi r:Nat} {l:List α} (h:HpX lt fi lo hi r l) (hr:∀ c,(c=2 * r+1 ∨ c=2 * r+2) → c < hi → ¬ lt (at_ l (fi+r)) (at_ l (fi+c))):Hp lt fi lo hi l:=by
  intro k c h1 h2 h3
  by_cases e:k=r
  · subst e; exact hr c h2 h3
  · exact h.1 k c h1 e h2 h3
theorem hpx_step {fi lo hi r c:Nat} {l:List α} (hb:fi+hi ≤ l.length) (h:HpX lt fi lo hi r l) (hr:lo ≤ r) (hc:c=2 * r+1 ∨ c=2 * r+2) (hch:c < hi) (hm:∀ c',(c'=2 * r+1 ∨ c'=2 * r+2) → c' < hi → ¬ lt (at_ l (fi+c)) (at_ l (fi+c'))) (hlt:lt (at_ l (fi+r)) (at_ l (fi+c))) :
    HpX lt fi lo hi c (swp l (fi+r) (fi+c)):=by
  have hsw:∀ k,at_ (swp l (fi+r) (fi+c)) (fi+k)=if k=c then at_ l (fi+r) else if k=r then at_ l (fi+c) else at_ l (fi+k):=fun k=>by
    rw [swp_at (by omega) (by omega)]
    by_cases e:k=c
    · subst e; simp
    · rw [if_neg (by omega),if_neg e]
      by_cases e2:k=r
      · subst e2; simp
      · rw [if_neg (by omega),if_neg e2]
  refine ⟨fun k c' h1 h2 h3 h4=>?_,fun k c' h1 h2 h3 h4=>?_⟩
  · rw [hsw,hsw,if_neg h2]
    by_cases ek:k=r
    · rw [if_pos ek]
      subst ek
      by_cases ec:c'=c
      · rw [if_pos ec]; exact hL.asy _ _ hlt
      · rw [if_neg ec,if_neg (by omega)]; exact hm c' h3 h4
    · rw [if_neg ek,if_neg (by omega)]
      by_cases ec:c'=r
      · rw [if_pos ec]
        exact h.2 k c h1 (by omega) hc hch
      · rw [if_neg ec]; exact h.1 k c' h1 ek h3 h4
  · have hk:k=r:=by omega
    subst hk
    rw [hsw,hsw,if_neg (by omega),if_pos rfl,if_neg (by omega),if_neg (by omega)]
    exact h.1 c c' (by omega) (by omega) h3 h4
theorem hp_root {fi hi:Nat} {l:List α} (h:Hp lt fi 0 hi l):∀ (m k:Nat),k ≤ m → k < hi → ¬ lt (at_ l fi) (at_ l (fi+k)):=by
  intro m
  induction m with
  | zero =>
    intro k hk _
    have:k=0:=by omega
    subst this
    exact hL.rf _
  | succ m ih =>
    intro k hk hlt
    by_cases e:k=0
    · subst e; exact hL.rf _
    · have h1:=ih ((k - 1) / 2) (by omega) (by omega)
      have h2:=h ((k - 1) / 2) k (Nat.zero_le _) (by omega) hlt
      exact fun h3=>by
        -- l[fi] < l[fi+k] <= l[parent] <= l[fi]
        exact hL.tr _ _ _ h2 h1 h3
def HsInv (lt:α → α → Prop) (fi hi m:Nat) (l:List α):Prop:=Hp lt fi 0 m l∧(∀ p q,m ≤ p → p < q → q < hi → ¬ lt (at_ l (fi+q)) (at_ l (fi+p)))∧∀ p q,p < m → m ≤ q → q < hi → ¬ lt (at_ l (fi+q)) (at_ l (fi+p))
theorem hs_swap {fi hi m:Nat} {l:List α} (hb:fi+hi ≤ l.length) (hm:m+1 ≤ hi) (h:HsInv lt fi hi (m+1) l) :
    Hp lt fi 1 m (swp l fi (fi+m))∧(∀ p q,m ≤ p → p < q → q < hi → ¬ lt (at_ (swp l fi (fi+m)) (fi+q)) (at_ (swp l fi (fi+m)) (fi+p)))∧∀ p q,p < m → m ≤ q → q < hi → ¬ lt (at_ (swp l fi (fi+m)) (fi+q)) (at_ (swp l fi (fi+m)) (fi+p)):=by
  obtain ⟨h1,h2,h3⟩:=h
  have hsw:∀ k,at_ (swp l fi (fi+m)) (fi+k)=if k=m then at_ l fi else if k=0 then at_ l (fi+m) else at_ l (fi+k):=fun k=>by
    rw [swp_at (by omega) (by omega)]
    by_cases e:k=m
    · subst e; simp
    · rw [if_neg (by omega),if_neg e]
      by_cases e2:k=0
      · subst e2; simp
      · rw [if_neg (by omega),if_neg e2]
  refine ⟨fun k c q1 q2 q3=>?_,fun p q q1 q2 q3=>?_,fun p q q1 q2 q3=>?_⟩
  · rw [hsw,hsw,if_neg (by omega),if_neg (by omega),if_neg (by omega),if_neg (by omega)]
    exact h1 k c (by omega) q2 (by omega)
  · rw [hsw q,if_neg (by omega),if_neg (by omega),hsw]
    by_cases e:p=m
    · rw [if_pos e]
      have:=h3 0 q (by omega) (by omega) q3
      simpa using this
    · rw [if_neg e,if_neg (by omega)]; exact h2 p q (by omega) q2 q3
  · rw [hsw p,if_neg (by omega),hsw]
    have key:∀ x,(∃ k,k < m+1∧x=at_ l (fi+k)) → ¬ lt (at_ l fi) x:=by
      rintro x ⟨k,hk,rfl⟩
      exact hp_root hL h1 k k (Nat.le_refl _) hk
    have hx:∃ k,k < m+1∧(if p=0 then at_ l (fi+m) else at_ l (fi+p))=at_ l (fi+k):=by
      by_cases e:p=0
      · exact ⟨m,by omega,by rw [if_pos e]⟩
      · exact ⟨p,by omega,by rw [if_neg e]⟩
    by_cases e:q=m
    · rw [if_pos e]; exact key _ hx
    · rw [if_neg e,if_neg (by omega)]
      obtain ⟨k,hk,e2⟩:=hx
      rw [e2]
      exact h3 k q hk (by omega) q3
end
end Go.HL.So
end
section
open Go Go.HL
namespace Go.Proofs.Ytaibmipamkaljaa
open Go.Proofs.Try renaming prog → Tp
open Go.HL.HV renaming undef → Ud
noncomputable def tabS:HV:=match sub [1,1,1,1,0] (Try.f82.body.getD .skip) with
  | .region _ ops _=>(match ops[3]? with | some o=>(match o.op with | .index _ x _=>opVal [] x | _=>Ud) | none=>Ud)
  | _=>Ud
def bl:Nat → Nat → Nat
  | 0,_=>0
  | k+1,y=>if y=0 then 0 else 1+bl k (y / 2)
noncomputable def tabOk:Bool:=(List.range 256).all fun y=>(match elemV Tp 9 tabS (.int .u8 (y:Int)) with | some (.int .u8 z)=>decide (z=(bl 8 y:Int)) | _=>false) && decide (y < 2 ^ bl 8 y) && (decide (y=0) || decide (2 ^ bl 8 y ≤ 2 * y)) && decide (bl 8 y ≤ 8)
theorem tabOk_true:tabOk=true:=by kernel_rfl
def lenN (x:Nat):Nat:=if x < 256 then bl 8 x else 8+bl 8 (x / 256)
theorem tab_at {y:Nat} (hy:y < 256):elemV Tp 9 tabS (.int .u8 (y:Int))=some (.int .u8 (bl 8 y:Int))∧y < 2 ^ bl 8 y∧(0 < y → 2 ^ bl 8 y ≤ 2 * y)∧bl 8 y ≤ 8:=by
  have h:=List.all_eq_true.1 tabOk_true y (List.mem_range.2 hy)
  simp only [Bool.and_eq_true,Bool.or_eq_true,decide_eq_true_eq] at h
  obtain ⟨⟨⟨h1,h2⟩,h3⟩,h4⟩:=h
  refine ⟨?_,h2,fun h0=>h3.resolve_left (by omega),h4⟩
  split at h1
  · rename_i z hz
    rw [hz,of_decide_eq_true h1]
  · cases h1
theorem lenN_ok {x:Nat} (hx:x < 65536):(0 < x → x < 2 ^ lenN x∧2 ^ lenN x ≤ 2 * x)∧lenN x ≤ 16:=by
  unfold lenN
  split
  · rename_i c
    obtain ⟨_,h2,h3,h4⟩:=tab_at c
    exact ⟨fun h=>⟨h2,h3 h⟩,by omega⟩
  · rename_i c
    obtain ⟨_,h2,h3,h4⟩:=tab_at (y:=x / 256) (by omega)
    have h5:=h3 (by omega)
    rw [Nat.pow_add]
    generalize 2 ^ bl 8 (x / 256)=p at h2 h5
    exact ⟨fun h=>by omega,by omega⟩
def len82:List HV → Option HV
  | [.int .u64 x]=>if 0 ≤ x∧x < 65536 then some (.int .i64 (lenN x.toNat:Int)) else none
  | _=>none
def next93:List HV → Option HV
  | [.int .i64 x]=>if 0 ≤ x∧x < 65536 then some (.int .u64 ((2 ^ lenN x.toNat:Nat):Int)) else none
  | _=>none
def polLb:Pol:={ pol with prim:=fun g=>if g == 82 then some len82 else none }
def polLc:Pol:={ pol with prim:=fun g=>if g == 68 then some len82 else none }
end Go.Proofs.Ytaibmipamkaljaa
end
section
open Go Go.HL
namespace Go.Proofs.Ytaibmipamkaljaa
set_option maxRecDepth 100000
open Go.Proofs.Try renaming prog → Tp
open Go.HL.HV renaming undef → Ud
noncomputable def B82:Code:=Try.f82.body.getD .skip
abbrev env82 (v0 v2:HV):Env:=[(0,v0),(2,v2)]
theorem l82_6 (x:Int) (h0:Int) (z0:Int) (g0:¬ (4294967296 ≤ x)) (g1:¬ (65536 ≤ x)) (g2:256 ≤ x) (g3:binV Tp .shr 108 (.int .u64 x) (.int .u64 8)=some (.int .u64 h0)) (g4:elemV Tp 9 tabS (.int .u8 (IntKind.u8.wrap h0))=some (.int .u8 z0)):RT pol 82 (sub [] B82) [(0,.int .u64 x)] [] .ret (env82 (.int .u64 h0) (.i (IntKind.i64.wrap (8+IntKind.i64.wrap z0)))) [] :=
  RunsTo.hin 0 60 [⟨1,1,.bool false,[]⟩,⟨4,1,.bool false,[]⟩,⟨7,1,.bool true,[]⟩,⟨8,1,.int .u64 h0,[]⟩,⟨10,3,.int .u8 z0,[]⟩] fun kf hk=>⟨_,by kernel_rfl,(oB [] (decide_eq_false g0) (oB [] (decide_eq_false g1) (oB [] (decide_eq_true g2) (oP [] g3 (oP [] g4 .nil)))))⟩
theorem l82_7 (x:Int) (z0:Int) (g0:¬ (4294967296 ≤ x)) (g1:¬ (65536 ≤ x)) (g2:¬ (256 ≤ x)) (g3:elemV Tp 9 tabS (.int .u8 (IntKind.u8.wrap x))=some (.int .u8 z0)):RT pol 82 (sub [] B82) [(0,.int .u64 x)] [] .ret (env82 (.int .u64 x) (.i (IntKind.i64.wrap (0+IntKind.i64.wrap z0)))) [] :=
  RunsTo.hin 0 60 [⟨1,1,.bool false,[]⟩,⟨4,1,.bool false,[]⟩,⟨7,1,.bool false,[]⟩,⟨10,3,.int .u8 z0,[]⟩] fun kf hk=>⟨_,by kernel_rfl,(oB [] (decide_eq_false g0) (oB [] (decide_eq_false g1) (oB [] (decide_eq_false g2) (oP [] g3 .nil))))⟩
noncomputable def B68:Code:=Try.f68.body.getD .skip
abbrev env68 (v0 v2:HV):Env:=[(0,v0),(2,v2)]
theorem l68_0 (x:Int) (c0:Int) (g0:∀ kf,callN Tp polLb (kf+1) 82 [.int .u64 x] []=some (.i c0,[])):RT polLb 68 (sub [] B68) [(0,.int .u64 x)] [] .ret (env68 (.int .u64 x) (.i c0)) [] :=
  RunsTo.hin 0 60 [⟨2,1,.i c0,[]⟩] fun kf hk=>⟨_,by kernel_rfl,(oC (g0 kf) .nil)⟩
noncomputable def B93:Code:=Try.f93.body.getD .skip
abbrev env93 (v0 v2:HV):Env:=[(0,v0),(2,v2)]
theorem l93_0 (x:Int) (c0:Int) (h0:Int) (g0:∀ kf,callN Tp polLc (kf+1) 68 [.int .u64 (IntKind.u64.wrap x)] []=some (.i c0,[])) (g1:binV Tp .shl 85 (.int .u64 1) (.i c0)=some (.int .u64 h0)):RT polLc 93 (sub [] B93) [(0,.i x)] [] .ret (env93 (.i x) (.int .u64 h0)) [] :=
  RunsTo.hin 0 60 [⟨1,2,.i c0,[]⟩,⟨1,3,.int .u64 h0,[]⟩] fun kf hk=>⟨_,by kernel_rfl,(oC (g0 kf) (oP [] g1 .nil))⟩
end Go.Proofs.Ytaibmipamkaljaa
end
section
open Go Go.HL
namespace Go.Proofs.Ytaibmipamkaljaa
open Go.Proofs.Try renaming prog → Tp
open Go.HL.HV renaming undef → Ud
theorem res82:Try.f82.results.toList=[.tmp 2]:=by kernel_rfl
theorem res68:Try.f68.results.toList=[.tmp 2]:=by kernel_rfl
theorem res93:Try.f93.results.toList=[.tmp 2]:=by kernel_rfl
theorem u8w {n:Nat} (h:n < 256):IntKind.u8.wrap (n:Int)=(n:Int):=by
  have:IntKind.u8.wrap (n:Int)=(n:Int) % 256:=by simp [IntKind.wrap,IntKind.signed,IntKind.bits]
  rw [this]; omega
theorem len82_ok:PrimOk Tp 82 len82:=by
  refine primOk_pure (pol:=pol) (fn:=Try.f82) (cd:=B82) follows_mixed sound (by kernel_rfl) (by kernel_rfl) (fnok pol.prim _ _ (by kernel_rfl)) (by kernel_rfl) ?_
  intro args res h
  unfold len82 at h
  split at h
  · rename_i x
    split at h
    · rename_i hx
      cases h
      obtain ⟨n,rfl⟩:∃ n:Nat,x=(n:Int):=⟨x.toNat,by omega⟩
      rw [Int.toNat_natCast]
      unfold lenN
      split
      · rename_i c
        obtain ⟨h1,_,_,h4⟩:=tab_at c
        have t:=l82_7 (n:Int) (bl 8 n:Int) (by omega) (by omega) (by omega) (by rw [u8w c]; exact h1)
        rw [wrap_id (n:=(bl 8 n:Int)) (by omega) (by omega),wrap_id (by omega) (by omega),Int.zero_add] at t
        exact ⟨_,_,_,.int .i64 (bl 8 n:Int),t,by simp,by simp only [resultsV,res82]; rfl,rfl⟩
      · rename_i c
        obtain ⟨h1,_,_,h4⟩:=tab_at (y:=n / 256) (by omega)
        have hs:binV Tp .shr 108 (.int .u64 (n:Int)) (.int .u64 8)=some (.int .u64 ((n / 256:Nat):Int)):=by
          have e:binV Tp .shr 108 (.int .u64 (n:Int)) (.int .u64 8)=some (.int .u64 ((n:Int).fdiv (2 ^ min (8:Int).toNat 64))):=rfl
          rw [e]
          have:((n:Int).fdiv (2 ^ min (8:Int).toNat 64))=((n / 256:Nat):Int):=by
            rw [show ((2:Int) ^ min (8:Int).toNat 64)=((256:Nat):Int) by decide,Int.fdiv_eq_ediv_of_nonneg _ (Int.natCast_nonneg _)]
            rfl
          rw [this]
        have t:=l82_6 (n:Int) _ (bl 8 (n / 256):Int) (by omega) (by omega) (by omega) hs (by rw [u8w (by omega)]; exact h1)
        rw [wrap_id (n:=(bl 8 (n / 256):Int)) (by omega) (by omega),wrap_id (by omega) (by omega),show (8:Int)+(bl 8 (n / 256):Int)=((8+bl 8 (n / 256):Nat):Int) by omega] at t
        exact ⟨_,_,_,.int .i64 ((8+bl 8 (n / 256):Nat):Int),t,by simp,by simp only [resultsV,res82]; rfl,rfl⟩
    · cases h
  · cases h
theorem soundLb (n:Nat):CallSound Tp (callN Tp polLb n):=sound_prim _ (fun g f h=>by
  split at h
  · rename_i hg; cases h; rw [eq_of_beq hg]; exact len82_ok
  · cases h) n
theorem len68_ok:PrimOk Tp 68 len82:=by
  refine primOk_pure (pol:=polLb) (fn:=Try.f68) (cd:=B68) follows_mixed soundLb (by kernel_rfl) (by kernel_rfl) (fnok polLb.prim _ _ (by kernel_rfl)) (by kernel_rfl) ?_
  intro args res h
  have h':=h
  unfold len82 at h
  split at h
  · rename_i x
    split at h
    · rename_i hx
      cases h
      have t:=l68_0 x _ (fun kf=>by
        rw [prim_call (pol:=polLb) (g:=82) (F:=len82) (by kernel_rfl) (rs:=[.int .u64 x]) rfl h']; rfl)
      exact ⟨_,_,_,.int .i64 (lenN x.toNat:Int),t,by simp,by simp only [resultsV,res68]; rfl,rfl⟩
    · cases h
  · cases h
theorem soundLc (n:Nat):CallSound Tp (callN Tp polLc n):=sound_prim _ (fun g f h=>by
  split at h
  · rename_i hg; cases h; rw [eq_of_beq hg]; exact len68_ok
  · cases h) n
theorem next_ok:PrimOk Tp 93 next93:=by
  refine primOk_pure (pol:=polLc) (fn:=Try.f93) (cd:=B93) follows_mixed soundLc (by kernel_rfl) (by kernel_rfl) (fnok polLc.prim _ _ (by kernel_rfl)) (by kernel_rfl) ?_
  intro args res h
  unfold next93 at h
  split at h
  · rename_i x
    split at h
    · rename_i hx
      cases h
      obtain ⟨n,rfl⟩:∃ n:Nat,x=(n:Int):=⟨x.toNat,by omega⟩
      rw [Int.toNat_natCast]
      have hl:=(lenN_ok (x:=n) (by omega)).2
      have hu:IntKind.u64.wrap (n:Int)=(n:Int):=by rw [wrapU64]; omega
      have hs:binV Tp .shl 85 (.int .u64 1) (.int .i64 (lenN n:Int))=some (.int .u64 ((2 ^ lenN n:Nat):Int)):=by
        have e:binV Tp .shl 85 (.int .u64 1) (.int .i64 (lenN n:Int))=if (lenN n:Int) < 0 then none else some (.int .u64 (IntKind.u64.wrap (1 * 2 ^ min (lenN n:Int).toNat 64))):=rfl
        rw [e,if_neg (by omega),Int.toNat_natCast,show min (lenN n) 64=lenN n by omega,Int.one_mul,show ((2:Int) ^ lenN n)=((2 ^ lenN n:Nat):Int) by push_cast; rfl]
        have h2:2 ^ lenN n ≤ 2 ^ 16:=Nat.pow_le_pow_right (by omega) hl
        have h3:2 ^ lenN n ≤ 65536:=h2
        generalize 2 ^ lenN n=p at h3
        rw [wrapU64,show (p:Int) % 18446744073709551616=p by omega]
      have t:=l93_0 (n:Int) (lenN n:Int) _ (fun kf=>by
        rw [hu,prim_call (pol:=polLc) (g:=68) (F:=len82) (by kernel_rfl) (rs:=[.int .u64 (n:Int)]) rfl (res:=.int .i64 (lenN n:Int)) (by simp only [len82]; rw [if_pos (by omega),Int.toNat_natCast])]; rfl) hs
      exact ⟨_,_,_,.int .u64 ((2 ^ lenN n:Nat):Int),t,by simp,by simp only [resultsV,res93]; rfl,rfl⟩
    · cases h
  · cases h
end Go.Proofs.Ytaibmipamkaljaa
end
section
open Go Go.HL Go.HL.So
namespace Go.Proofs.Ytaibmipamkaljaa
open Go.Proofs.Try renaming prog → Tp
open Go.HL.HV renaming undef → Ud
def prSl:FuncId → Option (List HV → Option HV):=fun g=>if g == 64 then some compare64 else if g == 68 then some len82 else if g == 93 then some next93 else if g == 55 then some newGroup55 else if g == 56 then some elements56 else if g == 59 then some add59 else if g == 62 then some list62 else none
def polSl:Pol:={ pol with prim:=prSl }
theorem soundSl (n:Nat):CallSound Tp (callN Tp polSl n):=sound_prim prSl (fun g f h=>by
  unfold prSl at h
  split at h
  · rename_i hg; cases h; rw [eq_of_beq hg]; exact compare64_ok
  split at h
  · rename_i hg; cases h; rw [eq_of_beq hg]; exact len68_ok
  split at h
  · rename_i hg; cases h; rw [eq_of_beq hg]; exact next_ok
  split at h
  · rename_i hg; cases h; rw [eq_of_beq hg]; exact newGroup_ok
  split at h
  · rename_i hg; cases h; rw [eq_of_beq hg]; exact elements_ok
  split at h
  · rename_i hg; cases h; rw [eq_of_beq hg]; exact add_ok
  split at h
  · rename_i hg; cases h; rw [eq_of_beq hg]; exact list62_ok
  · cases h) n
theorem RunsTo.block_other {P:Program} {pol:Pol} {f:FuncId} {b c:Code} {e E:Env} {H H':Heap} {x:X} {K:List Nat} {i:Nat} (h:RunsTo P pol f b e H x K E H') (hx:x ≠ .exit i) (hc:c=.block i b):RunsTo P pol f c e H x K E H':=by
  have:=RunsTo.block hc h
  rwa [if_neg hx] at this
theorem RunsTo.skip {P:Program} {pol:Pol} {f:FuncId} {c:Code} {e E:Env} {H:Heap} {K:List Nat} (hE:restr K e=E) (hc:c=.skip):RunsTo P pol f c e H .normal K E H:=by
  subst hc
  refine ⟨1,fun n k hn _=>⟨e,?_,hE⟩⟩
  obtain ⟨n,rfl⟩:∃ m,n=m+1:=⟨n - 1,by omega⟩
  rfl
theorem mxs_le {m:Nat}:∀ {H:Heap},mxs H ≤ m ↔ ∀ B ∈ H,B.mx ≤ m
  | []=>by simp [mxs]
  | B :: H=>by
    have:=mxs_le (m:=m) (H:=H)
    simp only [mxs,List.mem_cons,forall_eq_or_imp,← this]
    omega
abbrev ClL (g:FuncId) (args:List HV) (H:Heap) (r:HV) (H':Heap):Prop:=CallsTo (P:=Tp) (pol:=polSl) g args H r H'
end Go.Proofs.Ytaibmipamkaljaa
end
section
open Go Go.HL
namespace Go.Proofs.Ytaibmipamkaljaa
set_option maxRecDepth 100000
open Go.Proofs.Try renaming prog → Tp
open Go.HL.HV renaming undef → Ud
noncomputable def B83:Code:=Try.f83.body.getD .skip
abbrev env83 (v0 v1 v2 v3 v8 v9:HV):Env:=[(0,v0),(1,v1),(2,v2),(3,v3),(8,v8),(9,v9)]
theorem is_a_0 (N:Nat) (db n:Nat) (cap:Option Nat) (H:Heap) (x:Nat) (a:Nat) (b:Nat):RT polSl 83 (sub [0] B83) [(0,.c db n cap),(1,.i (a:Int)),(2,.i (b:Int)),(3,.func 64 [] [])] H .normal (env83 (.c db n cap) (.i (a:Int)) (.i (b:Int)) (.func 64 [] []) (.i (IntKind.i64.wrap ((a:Int)+1))) Ud) H :=
  RunsTo.hin N 60 [] fun kf hk=>⟨_,by kernel_rfl,.nil⟩
theorem is_b_0 (N:Nat) (db n:Nat) (cap:Option Nat) (H:Heap) (x:Nat) (a:Nat) (b:Nat) (i:Nat) {y9:HV}(g0:(i:Int) < (b:Int)):RT polSl 83 (sub [1,0,0,0] B83) (env83 (.c db n cap) (.i (a:Int)) (.i (b:Int)) (.func 64 [] []) (.i (i:Int)) y9) H .normal (env83 (.c db n cap) (.i (a:Int)) (.i (b:Int)) (.func 64 [] []) (.i (i:Int)) y9) H :=
  RunsTo.hin N 60 [⟨1,2,.bool true,H⟩] fun kf hk=>⟨_,by kernel_rfl,(oB H (decide_eq_true g0) .nil)⟩
theorem is_b_1 (N:Nat) (db n:Nat) (cap:Option Nat) (H:Heap) (x:Nat) (a:Nat) (b:Nat) (i:Nat) {y9:HV}(g0:¬ ((i:Int) < (b:Int))):RT polSl 83 (sub [1,0,0,0] B83) (env83 (.c db n cap) (.i (a:Int)) (.i (b:Int)) (.func 64 [] []) (.i (i:Int)) y9) H (.exit 0) (env83 (.c db n cap) (.i (a:Int)) (.i (b:Int)) (.func 64 [] []) (.i (i:Int)) y9) H :=
  RunsTo.hin N 60 [⟨1,2,.bool false,H⟩] fun kf hk=>⟨_,by kernel_rfl,(oB H (decide_eq_false g0) .nil)⟩
theorem is_c_0 (N:Nat) (db n:Nat) (cap:Option Nat) (H:Heap) (x:Nat) (a:Nat) (b:Nat) (i:Nat) {y9:HV}:RT polSl 83 (sub [1,0,0,1,0,0,0] B83) (env83 (.c db n cap) (.i (a:Int)) (.i (b:Int)) (.func 64 [] []) (.i (i:Int)) y9) H .normal (env83 (.c db n cap) (.i (a:Int)) (.i (b:Int)) (.func 64 [] []) (.i (i:Int)) (.i (i:Int))) H :=
  RunsTo.hin N 60 [] fun kf hk=>⟨_,by kernel_rfl,.nil⟩
theorem is_d_0 (N:Nat) (db n:Nat) (cap:Option Nat) (H:Heap) (x:Nat) (a:Nat) (b:Nat) (i:Nat) (j:Nat) {a0:HV} {v0:HV} {a1:HV} {v1:HV} {c0:Int} {H0:Heap} {a2:HV} {v2:HV} {a3:HV} {v3:HV} {a4:HV} {H1:Heap} {a5:HV} {H2:Heap} (g0:(a:Int) < (j:Int)) (g1:idxV Tp 35 (.c db n cap) (.i (j:Int))=some (a0)) (g2:loadV Tp H 22 (a0)=some (v0)) (g3:idxV Tp 35 (.c db n cap) (.i (IntKind.i64.wrap ((j:Int) - 1)))=some (a1)) (g4:loadV Tp H 22 (a1)=some (v1)) (g5:∀ kf,N ≤ kf → callN Tp polSl (kf+1) 64 [v0,v1] H=some (.i c0,H0)) (g6:c0 < 0) (g7:idxV Tp 35 (.c db n cap) (.i (IntKind.i64.wrap ((j:Int) - 1)))=some (a2)) (g8:loadV Tp H0 22 (a2)=some (v2)) (g9:idxV Tp 35 (.c db n cap) (.i (j:Int))=some (a3)) (g10:loadV Tp H0 22 (a3)=some (v3)) (g11:idxV Tp 35 (.c db n cap) (.i (j:Int))=some (a4)) (g12:storeV Tp H0 22 (a4) (v2)=some H1) (g13:idxV Tp 35 (.c db n cap) (.i (IntKind.i64.wrap ((j:Int) - 1)))=some (a5)) (g14:storeV Tp H1 22 (a5) (v3)=some H2):RT polSl 83 (sub [1,0,0,1,0,0,1,0,0] B83) (env83 (.c db n cap) (.i (a:Int)) (.i (b:Int)) (.func 64 [] []) (.i (i:Int)) (.i (j:Int))) H .normal (env83 (.c db n cap) (.i (a:Int)) (.i (b:Int)) (.func 64 [] []) (.i (i:Int)) (.i (IntKind.i64.wrap ((j:Int) - 1)))) H2 :=
  RunsTo.hin N 60 [⟨4,2,.bool true,H⟩,⟨4,7,a0,H⟩,⟨4,8,v0,H⟩,⟨4,12,a1,H⟩,⟨4,13,v1,H⟩,⟨4,14,.i c0,H0⟩,⟨4,15,.bool true,H0⟩,⟨6,8,a2,H0⟩,⟨6,9,v2,H0⟩,⟨6,12,a3,H0⟩,⟨6,13,v3,H0⟩,⟨6,14,a4,H0⟩,⟨6,15,.tuple [],H1⟩,⟨6,16,a5,H1⟩,⟨6,17,.tuple [],H2⟩] fun kf hk=>⟨_,by kernel_rfl,(oB H (decide_eq_true g0) (oP H g1 (oP H g2 (oP H g3 (oP H g4 (oC (g5 kf (by omega)) (oB H0 (decide_eq_true g6) (oP H0 g7 (oP H0 g8 (oP H0 g9 (oP H0 g10 (oP H0 g11 (oS g12 (oP H1 g13 (oS g14 .nil)))))))))))))))⟩
theorem is_d_1 (N:Nat) (db n:Nat) (cap:Option Nat) (H:Heap) (x:Nat) (a:Nat) (b:Nat) (i:Nat) (j:Nat) {a0:HV} {v0:HV} {a1:HV} {v1:HV} {c0:Int} {H0:Heap} (g0:(a:Int) < (j:Int)) (g1:idxV Tp 35 (.c db n cap) (.i (j:Int))=some (a0)) (g2:loadV Tp H 22 (a0)=some (v0)) (g3:idxV Tp 35 (.c db n cap) (.i (IntKind.i64.wrap ((j:Int) - 1)))=some (a1)) (g4:loadV Tp H 22 (a1)=some (v1)) (g5:∀ kf,N ≤ kf → callN Tp polSl (kf+1) 64 [v0,v1] H=some (.i c0,H0)) (g6:¬ (c0 < 0)):RT polSl 83 (sub [1,0,0,1,0,0,1,0,0] B83) (env83 (.c db n cap) (.i (a:Int)) (.i (b:Int)) (.func 64 [] []) (.i (i:Int)) (.i (j:Int))) H (.exit 2) (env83 (.c db n cap) (.i (a:Int)) (.i (b:Int)) (.func 64 [] []) (.i (i:Int)) (.i (j:Int))) H0 :=
  RunsTo.hin N 60 [⟨4,2,.bool true,H⟩,⟨4,7,a0,H⟩,⟨4,8,v0,H⟩,⟨4,12,a1,H⟩,⟨4,13,v1,H⟩,⟨4,14,.i c0,H0⟩,⟨4,15,.bool false,H0⟩] fun kf hk=>⟨_,by kernel_rfl,(oB H (decide_eq_true g0) (oP H g1 (oP H g2 (oP H g3 (oP H g4 (oC (g5 kf (by omega)) (oB H0 (decide_eq_false g6) .nil)))))))⟩
theorem is_d_2 (N:Nat) (db n:Nat) (cap:Option Nat) (H:Heap) (x:Nat) (a:Nat) (b:Nat) (i:Nat) (j:Nat)(g0:¬ ((a:Int) < (j:Int))):RT polSl 83 (sub [1,0,0,1,0,0,1,0,0] B83) (env83 (.c db n cap) (.i (a:Int)) (.i (b:Int)) (.func 64 [] []) (.i (i:Int)) (.i (j:Int))) H (.exit 2) (env83 (.c db n cap) (.i (a:Int)) (.i (b:Int)) (.func 64 [] []) (.i (i:Int)) (.i (j:Int))) H :=
  RunsTo.hin N 60 [⟨4,2,.bool false,H⟩] fun kf hk=>⟨_,by kernel_rfl,(oB H (decide_eq_false g0) .nil)⟩
theorem is_e_0 (N:Nat) (db n:Nat) (cap:Option Nat) (H:Heap) (x:Nat) (a:Nat) (b:Nat) (i:Nat) {y9:HV}:RT polSl 83 (sub [1,0,0,1,1] B83) (env83 (.c db n cap) (.i (a:Int)) (.i (b:Int)) (.func 64 [] []) (.i (i:Int)) y9) H .normal (env83 (.c db n cap) (.i (a:Int)) (.i (b:Int)) (.func 64 [] []) (.i (IntKind.i64.wrap ((i:Int)+1))) y9) H :=
  RunsTo.hin N 60 [] fun kf hk=>⟨_,by kernel_rfl,.nil⟩
noncomputable def B87:Code:=Try.f87.body.getD .skip
abbrev env87 (v0 v1 v2 v8 v9:HV):Env:=[(0,v0),(1,v1),(2,v2),(8,v8),(9,v9)]
theorem rvs_a_0 (N:Nat) (db n:Nat) (cap:Option Nat) (H:Heap) (x:Nat) (a:Nat) (b:Nat):RT polSl 87 (sub [0] B87) [(0,.c db n cap),(1,.i (a:Int)),(2,.i (b:Int)),(3,.func 64 [] [])] H .normal (env87 (.c db n cap) (.i (a:Int)) (.i (b:Int)) (.i (a:Int)) Ud) H :=
  RunsTo.hin N 60 [] fun kf hk=>⟨_,by kernel_rfl,.nil⟩
theorem rvs_b_0 (N:Nat) (db n:Nat) (cap:Option Nat) (H:Heap) (x:Nat) (a:Nat) (b:Nat) (i:Nat) {y9:HV}:RT polSl 87 (sub [1,0] B87) (env87 (.c db n cap) (.i (a:Int)) (.i (b:Int)) (.i (i:Int)) y9) H .normal (env87 (.c db n cap) (.i (a:Int)) (.i (b:Int)) (.i (i:Int)) (.i (IntKind.i64.wrap ((b:Int) - 1)))) H :=
  RunsTo.hin N 60 [] fun kf hk=>⟨_,by kernel_rfl,.nil⟩
theorem rvs_c_0 (N:Nat) (db n:Nat) (cap:Option Nat) (H:Heap) (x:Nat) (a:Nat) (b:Nat) (i:Nat) (j:Nat) {a0:HV} {v0:HV} {a1:HV} {v1:HV} {a2:HV} {H0:Heap} {a3:HV} {H1:Heap} (g0:(i:Int) < (j:Int)) (g1:idxV Tp 35 (.c db n cap) (.i (j:Int))=some (a0)) (g2:loadV Tp H 22 (a0)=some (v0)) (g3:idxV Tp 35 (.c db n cap) (.i (i:Int))=some (a1)) (g4:loadV Tp H 22 (a1)=some (v1)) (g5:idxV Tp 35 (.c db n cap) (.i (i:Int))=some (a2)) (g6:storeV Tp H 22 (a2) (v0)=some H0) (g7:idxV Tp 35 (.c db n cap) (.i (j:Int))=some (a3)) (g8:storeV Tp H0 22 (a3) (v1)=some H1):RT polSl 87 (sub [1,1,0,0] B87) (env87 (.c db n cap) (.i (a:Int)) (.i (b:Int)) (.i (i:Int)) (.i (j:Int))) H .normal (env87 (.c db n cap) (.i (a:Int)) (.i (b:Int)) (.i (IntKind.i64.wrap ((i:Int)+1))) (.i (IntKind.i64.wrap ((j:Int) - 1)))) H1 :=
  RunsTo.hin N 60 [⟨2,2,.bool true,H⟩,⟨3,6,a0,H⟩,⟨3,7,v0,H⟩,⟨3,10,a1,H⟩,⟨3,11,v1,H⟩,⟨3,12,a2,H⟩,⟨3,13,.tuple [],H0⟩,⟨3,14,a3,H0⟩,⟨3,15,.tuple [],H1⟩] fun kf hk=>⟨_,by kernel_rfl,(oB H (decide_eq_true g0) (oP H g1 (oP H g2 (oP H g3 (oP H g4 (oP H g5 (oS g6 (oP H0 g7 (oS g8 .nil)))))))))⟩
theorem rvs_c_1 (N:Nat) (db n:Nat) (cap:Option Nat) (H:Heap) (x:Nat) (a:Nat) (b:Nat) (i:Nat) (j:Nat)(g0:¬ ((i:Int) < (j:Int))):RT polSl 87 (sub [1,1,0,0] B87) (env87 (.c db n cap) (.i (a:Int)) (.i (b:Int)) (.i (i:Int)) (.i (j:Int))) H (.exit 0) (env87 (.c db n cap) (.i (a:Int)) (.i (b:Int)) (.i (i:Int)) (.i (j:Int))) H :=
  RunsTo.hin N 60 [⟨2,2,.bool false,H⟩] fun kf hk=>⟨_,by kernel_rfl,(oB H (decide_eq_false g0) .nil)⟩
noncomputable def B97:Code:=Try.f97.body.getD .skip
abbrev env97 (v0 v1 v2 v3 v4 v10 v11:HV):Env:=[(0,v0),(1,v1),(2,v2),(3,v3),(4,v4),(10,v10),(11,v11)]
theorem sf_a_0 (N:Nat) (db n:Nat) (cap:Option Nat) (H:Heap) (x:Nat) (lo:Nat) (hi:Nat) (fi:Nat):RT polSl 97 (sub [0] B97) [(0,.c db n cap),(1,.i (lo:Int)),(2,.i (hi:Int)),(3,.i (fi:Int)),(4,.func 64 [] [])] H .normal (env97 (.c db n cap) (.i (lo:Int)) (.i (hi:Int)) (.i (fi:Int)) (.func 64 [] []) (.i (lo:Int)) Ud) H :=
  RunsTo.hin N 60 [] fun kf hk=>⟨_,by kernel_rfl,.nil⟩
theorem sf_b_0 (N:Nat) (db n:Nat) (cap:Option Nat) (H:Heap) (x:Nat) (lo:Nat) (hi:Nat) (fi:Nat) (r:Nat) {y11:HV}(g0:(hi:Int) ≤ IntKind.i64.wrap (IntKind.i64.wrap (2 * (r:Int))+1)):RT polSl 97 (sub [1,0,0] B97) (env97 (.c db n cap) (.i (lo:Int)) (.i (hi:Int)) (.i (fi:Int)) (.func 64 [] []) (.i (r:Int)) y11) H (.exit 0) (env97 (.c db n cap) (.i (lo:Int)) (.i (hi:Int)) (.i (fi:Int)) (.func 64 [] []) (.i (r:Int)) (.i (IntKind.i64.wrap (IntKind.i64.wrap (2 * (r:Int))+1)))) H :=
  RunsTo.hin N 60 [⟨2,2,.bool true,H⟩] fun kf hk=>⟨_,by kernel_rfl,(oB H (decide_eq_true g0) .nil)⟩
theorem sf_b_1 (N:Nat) (db n:Nat) (cap:Option Nat) (H:Heap) (x:Nat) (lo:Nat) (hi:Nat) (fi:Nat) (r:Nat) {y11:HV} {a0:HV} {v0:HV} {a1:HV} {v1:HV} {c0:Int} {H0:Heap} {a2:HV} {v2:HV} {a3:HV} {v3:HV} {c1:Int} {H1:Heap} {a4:HV} {v4:HV} {a5:HV} {v5:HV} {a6:HV} {H2:Heap} {a7:HV} {H3:Heap} (g0:¬ ((hi:Int) ≤ IntKind.i64.wrap (IntKind.i64.wrap (2 * (r:Int))+1))) (g1:IntKind.i64.wrap (IntKind.i64.wrap (IntKind.i64.wrap (2 * (r:Int))+1)+1) < (hi:Int)) (g2:idxV Tp 35 (.c db n cap) (.i (IntKind.i64.wrap ((fi:Int)+IntKind.i64.wrap (IntKind.i64.wrap (2 * (r:Int))+1))))=some (a0)) (g3:loadV Tp H 22 (a0)=some (v0)) (g4:idxV Tp 35 (.c db n cap) (.i (IntKind.i64.wrap (IntKind.i64.wrap ((fi:Int)+IntKind.i64.wrap (IntKind.i64.wrap (2 * (r:Int))+1))+1)))=some (a1)) (g5:loadV Tp H 22 (a1)=some (v1)) (g6:∀ kf,N ≤ kf → callN Tp polSl (kf+1) 64 [v0,v1] H=some (.i c0,H0)) (g7:c0 < 0) (g8:idxV Tp 35 (.c db n cap) (.i (IntKind.i64.wrap ((fi:Int)+(r:Int))))=some (a2)) (g9:loadV Tp H0 22 (a2)=some (v2)) (g10:idxV Tp 35 (.c db n cap) (.i (IntKind.i64.wrap ((fi:Int)+IntKind.i64.wrap (IntKind.i64.wrap (IntKind.i64.wrap (2 * (r:Int))+1)+1))))=some (a3)) (g11:loadV Tp H0 22 (a3)=some (v3)) (g12:∀ kf,N ≤ kf → callN Tp polSl (kf+1) 64 [v2,v3] H0=some (.i c1,H1)) (g13:c1 < 0) (g14:idxV Tp 35 (.c db n cap) (.i (IntKind.i64.wrap ((fi:Int)+IntKind.i64.wrap (IntKind.i64.wrap (IntKind.i64.wrap (2 * (r:Int))+1)+1))))=some (a4)) (g15:loadV Tp H1 22 (a4)=some (v4)) (g16:idxV Tp 35 (.c db n cap) (.i (IntKind.i64.wrap ((fi:Int)+(r:Int))))=some (a5)) (g17:loadV Tp H1 22 (a5)=some (v5)) (g18:idxV Tp 35 (.c db n cap) (.i (IntKind.i64.wrap ((fi:Int)+(r:Int))))=some (a6)) (g19:storeV Tp H1 22 (a6) (v4)=some H2) (g20:idxV Tp 35 (.c db n cap) (.i (IntKind.i64.wrap ((fi:Int)+IntKind.i64.wrap (IntKind.i64.wrap (IntKind.i64.wrap (2 * (r:Int))+1)+1))))=some (a7)) (g21:storeV Tp H2 22 (a7) (v5)=some H3):RT polSl 97 (sub [1,0,0] B97) (env97 (.c db n cap) (.i (lo:Int)) (.i (hi:Int)) (.i (fi:Int)) (.func 64 [] []) (.i (r:Int)) y11) H .normal (env97 (.c db n cap) (.i (lo:Int)) (.i (hi:Int)) (.i (fi:Int)) (.func 64 [] []) (.i (IntKind.i64.wrap (IntKind.i64.wrap (IntKind.i64.wrap (2 * (r:Int))+1)+1))) (.i (IntKind.i64.wrap (IntKind.i64.wrap (IntKind.i64.wrap (2 * (r:Int))+1)+1)))) H3 :=
  RunsTo.hin N 60 [⟨2,2,.bool false,H⟩,⟨3,3,.bool true,H⟩,⟨3,10,a0,H⟩,⟨3,11,v0,H⟩,⟨3,17,a1,H⟩,⟨3,18,v1,H⟩,⟨3,19,.i c0,H0⟩,⟨3,20,.bool true,H0⟩,⟨5,5,a2,H0⟩,⟨5,6,v2,H0⟩,⟨5,11,a3,H0⟩,⟨5,12,v3,H0⟩,⟨5,13,.i c1,H1⟩,⟨5,14,.bool true,H1⟩,⟨6,12,a4,H1⟩,⟨6,13,v4,H1⟩,⟨6,18,a5,H1⟩,⟨6,19,v5,H1⟩,⟨6,20,a6,H1⟩,⟨6,21,.tuple [],H2⟩,⟨6,22,a7,H2⟩,⟨6,23,.tuple [],H3⟩] fun kf hk=>⟨_,by kernel_rfl,(oB H (decide_eq_false g0) (oB H (decide_eq_true g1) (oP H g2 (oP H g3 (oP H g4 (oP H g5 (oC (g6 kf (by omega)) (oB H0 (decide_eq_true g7) (oP H0 g8 (oP H0 g9 (oP H0 g10 (oP H0 g11 (oC (g12 kf (by omega)) (oB H1 (decide_eq_true g13) (oP H1 g14 (oP H1 g15 (oP H1 g16 (oP H1 g17 (oP H1 g18 (oS g19 (oP H2 g20 (oS g21 .nil))))))))))))))))))))))⟩
theorem sf_b_2 (N:Nat) (db n:Nat) (cap:Option Nat) (H:Heap) (x:Nat) (lo:Nat) (hi:Nat) (fi:Nat) (r:Nat) {y11:HV} {a0:HV} {v0:HV} {a1:HV} {v1:HV} {c0:Int} {H0:Heap} {a2:HV} {v2:HV} {a3:HV} {v3:HV} {c1:Int} {H1:Heap} (g0:¬ ((hi:Int) ≤ IntKind.i64.wrap (IntKind.i64.wrap (2 * (r:Int))+1))) (g1:IntKind.i64.wrap (IntKind.i64.wrap (IntKind.i64.wrap (2 * (r:Int))+1)+1) < (hi:Int)) (g2:idxV Tp 35 (.c db n cap) (.i (IntKind.i64.wrap ((fi:Int)+IntKind.i64.wrap (IntKind.i64.wrap (2 * (r:Int))+1))))=some (a0)) (g3:loadV Tp H 22 (a0)=some (v0)) (g4:idxV Tp 35 (.c db n cap) (.i (IntKind.i64.wrap (IntKind.i64.wrap ((fi:Int)+IntKind.i64.wrap (IntKind.i64.wrap (2 * (r:Int))+1))+1)))=some (a1)) (g5:loadV Tp H 22 (a1)=some (v1)) (g6:∀ kf,N ≤ kf → callN Tp polSl (kf+1) 64 [v0,v1] H=some (.i c0,H0)) (g7:c0 < 0) (g8:idxV Tp 35 (.c db n cap) (.i (IntKind.i64.wrap ((fi:Int)+(r:Int))))=some (a2)) (g9:loadV Tp H0 22 (a2)=some (v2)) (g10:idxV Tp 35 (.c db n cap) (.i (IntKind.i64.wrap ((fi:Int)+IntKind.i64.wrap (IntKind.i64.wrap (IntKind.i64.wrap (2 * (r:Int))+1)+1))))=some (a3)) (g11:loadV Tp H0 22 (a3)=some (v3)) (g12:∀ kf,N ≤ kf → callN Tp polSl (kf+1) 64 [v2,v3] H0=some (.i c1,H1)) (g13:¬ (c1 < 0)):RT polSl 97 (sub [1,0,0] B97) (env97 (.c db n cap) (.i (lo:Int)) (.i (hi:Int)) (.i (fi:Int)) (.func 64 [] []) (.i (r:Int)) y11) H .ret (env97 (.c db n cap) (.i (lo:Int)) (.i (hi:Int)) (.i (fi:Int)) (.func 64 [] []) (.i (r:Int)) (.i (IntKind.i64.wrap (IntKind.i64.wrap (IntKind.i64.wrap (2 * (r:Int))+1)+1)))) H1 :=
  RunsTo.hin N 60 [⟨2,2,.bool false,H⟩,⟨3,3,.bool true,H⟩,⟨3,10,a0,H⟩,⟨3,11,v0,H⟩,⟨3,17,a1,H⟩,⟨3,18,v1,H⟩,⟨3,19,.i c0,H0⟩,⟨3,20,.bool true,H0⟩,⟨5,5,a2,H0⟩,⟨5,6,v2,H0⟩,⟨5,11,a3,H0⟩,⟨5,12,v3,H0⟩,⟨5,13,.i c1,H1⟩,⟨5,14,.bool false,H1⟩] fun kf hk=>⟨_,by kernel_rfl,(oB H (decide_eq_false g0) (oB H (decide_eq_true g1) (oP H g2 (oP H g3 (oP H g4 (oP H g5 (oC (g6 kf (by omega)) (oB H0 (decide_eq_true g7) (oP H0 g8 (oP H0 g9 (oP H0 g10 (oP H0 g11 (oC (g12 kf (by omega)) (oB H1 (decide_eq_false g13) .nil))))))))))))))⟩
theorem sf_b_3 (N:Nat) (db n:Nat) (cap:Option Nat) (H:Heap) (x:Nat) (lo:Nat) (hi:Nat) (fi:Nat) (r:Nat) {y11:HV} {a0:HV} {v0:HV} {a1:HV} {v1:HV} {c0:Int} {H0:Heap} {a2:HV} {v2:HV} {a3:HV} {v3:HV} {c1:Int} {H1:Heap} {a4:HV} {v4:HV} {a5:HV} {v5:HV} {a6:HV} {H2:Heap} {a7:HV} {H3:Heap} (g0:¬ ((hi:Int) ≤ IntKind.i64.wrap (IntKind.i64.wrap (2 * (r:Int))+1))) (g1:IntKind.i64.wrap (IntKind.i64.wrap (IntKind.i64.wrap (2 * (r:Int))+1)+1) < (hi:Int)) (g2:idxV Tp 35 (.c db n cap) (.i (IntKind.i64.wrap ((fi:Int)+IntKind.i64.wrap (IntKind.i64.wrap (2 * (r:Int))+1))))=some (a0)) (g3:loadV Tp H 22 (a0)=some (v0)) (g4:idxV Tp 35 (.c db n cap) (.i (IntKind.i64.wrap (IntKind.i64.wrap ((fi:Int)+IntKind.i64.wrap (IntKind.i64.wrap (2 * (r:Int))+1))+1)))=some (a1)) (g5:loadV Tp H 22 (a1)=some (v1)) (g6:∀ kf,N ≤ kf → callN Tp polSl (kf+1) 64 [v0,v1] H=some (.i c0,H0)) (g7:¬ (c0 < 0)) (g8:idxV Tp 35 (.c db n cap) (.i (IntKind.i64.wrap ((fi:Int)+(r:Int))))=some (a2)) (g9:loadV Tp H0 22 (a2)=some (v2)) (g10:idxV Tp 35 (.c db n cap) (.i (IntKind.i64.wrap ((fi:Int)+IntKind.i64.wrap (IntKind.i64.wrap (2 * (r:Int))+1))))=some (a3)) (g11:loadV Tp H0 22 (a3)=some (v3)) (g12:∀ kf,N ≤ kf → callN Tp polSl (kf+1) 64 [v2,v3] H0=some (.i c1,H1)) (g13:c1 < 0) (g14:idxV Tp 35 (.c db n cap) (.i (IntKind.i64.wrap ((fi:Int)+IntKind.i64.wrap (IntKind.i64.wrap (2 * (r:Int))+1))))=some (a4)) (g15:loadV Tp H1 22 (a4)=some (v4)) (g16:idxV Tp 35 (.c db n cap) (.i (IntKind.i64.wrap ((fi:Int)+(r:Int))))=some (a5)) (g17:loadV Tp H1 22 (a5)=some (v5)) (g18:idxV Tp 35 (.c db n cap) (.i (IntKind.i64.wrap ((fi:Int)+(r:Int))))=some (a6)) (g19:storeV Tp H1 22 (a6) (v4)=some H2) (g20:idxV Tp 35 (.c db n cap) (.i (IntKind.i64.wrap ((fi:Int)+IntKind.i64.wrap (IntKind.i64.wrap (2 * (r:Int))+1))))=some (a7)) (g21:storeV Tp H2 22 (a7) (v5)=some H3):RT polSl 97 (sub [1,0,0] B97) (env97 (.c db n cap) (.i (lo:Int)) (.i (hi:Int)) (.i (fi:Int)) (.func 64 [] []) (.i (r:Int)) y11) H .normal (env97 (.c db n cap) (.i (lo:Int)) (.i (hi:Int)) (.i (fi:Int)) (.func 64 [] []) (.i (IntKind.i64.wrap (IntKind.i64.wrap (2 * (r:Int))+1))) (.i (IntKind.i64.wrap (IntKind.i64.wrap (2 * (r:Int))+1)))) H3 :=
  RunsTo.hin N 60 [⟨2,2,.bool false,H⟩,⟨3,3,.bool true,H⟩,⟨3,10,a0,H⟩,⟨3,11,v0,H⟩,⟨3,17,a1,H⟩,⟨3,18,v1,H⟩,⟨3,19,.i c0,H0⟩,⟨3,20,.bool false,H0⟩,⟨5,5,a2,H0⟩,⟨5,6,v2,H0⟩,⟨5,11,a3,H0⟩,⟨5,12,v3,H0⟩,⟨5,13,.i c1,H1⟩,⟨5,14,.bool true,H1⟩,⟨6,12,a4,H1⟩,⟨6,13,v4,H1⟩,⟨6,18,a5,H1⟩,⟨6,19,v5,H1⟩,⟨6,20,a6,H1⟩,⟨6,21,.tuple [],H2⟩,⟨6,22,a7,H2⟩,⟨6,23,.tuple [],H3⟩] fun kf hk=>⟨_,by kernel_rfl,(oB H (decide_eq_false g0) (oB H (decide_eq_true g1) (oP H g2 (oP H g3 (oP H g4 (oP H g5 (oC (g6 kf (by omega)) (oB H0 (decide_eq_false g7) (oP H0 g8 (oP H0 g9 (oP H0 g10 (oP H0 g11 (oC (g12 kf (by omega)) (oB H1 (decide_eq_true g13) (oP H1 g14 (oP H1 g15 (oP H1 g16 (oP H1 g17 (oP H1 g18 (oS g19 (oP H2 g20 (oS g21 .nil))))))))))))))))))))))⟩
theorem sf_b_4 (N:Nat) (db n:Nat) (cap:Option Nat) (H:Heap) (x:Nat) (lo:Nat) (hi:Nat) (fi:Nat) (r:Nat) {y11:HV} {a0:HV} {v0:HV} {a1:HV} {v1:HV} {c0:Int} {H0:Heap} {a2:HV} {v2:HV} {a3:HV} {v3:HV} {c1:Int} {H1:Heap} (g0:¬ ((hi:Int) ≤ IntKind.i64.wrap (IntKind.i64.wrap (2 * (r:Int))+1))) (g1:IntKind.i64.wrap (IntKind.i64.wrap (IntKind.i64.wrap (2 * (r:Int))+1)+1) < (hi:Int)) (g2:idxV Tp 35 (.c db n cap) (.i (IntKind.i64.wrap ((fi:Int)+IntKind.i64.wrap (IntKind.i64.wrap (2 * (r:Int))+1))))=some (a0)) (g3:loadV Tp H 22 (a0)=some (v0)) (g4:idxV Tp 35 (.c db n cap) (.i (IntKind.i64.wrap (IntKind.i64.wrap ((fi:Int)+IntKind.i64.wrap (IntKind.i64.wrap (2 * (r:Int))+1))+1)))=some (a1)) (g5:loadV Tp H 22 (a1)=some (v1)) (g6:∀ kf,N ≤ kf → callN Tp polSl (kf+1) 64 [v0,v1] H=some (.i c0,H0)) (g7:¬ (c0 < 0)) (g8:idxV Tp 35 (.c db n cap) (.i (IntKind.i64.wrap ((fi:Int)+(r:Int))))=some (a2)) (g9:loadV Tp H0 22 (a2)=some (v2)) (g10:idxV Tp 35 (.c db n cap) (.i (IntKind.i64.wrap ((fi:Int)+IntKind.i64.wrap (IntKind.i64.wrap (2 * (r:Int))+1))))=some (a3)) (g11:loadV Tp H0 22 (a3)=some (v3)) (g12:∀ kf,N ≤ kf → callN Tp polSl (kf+1) 64 [v2,v3] H0=some (.i c1,H1)) (g13:¬ (c1 < 0)):RT polSl 97 (sub [1,0,0] B97) (env97 (.c db n cap) (.i (lo:Int)) (.i (hi:Int)) (.i (fi:Int)) (.func 64 [] []) (.i (r:Int)) y11) H .ret (env97 (.c db n cap) (.i (lo:Int)) (.i (hi:Int)) (.i (fi:Int)) (.func 64 [] []) (.i (r:Int)) (.i (IntKind.i64.wrap (IntKind.i64.wrap (2 * (r:Int))+1)))) H1 :=
  RunsTo.hin N 60 [⟨2,2,.bool false,H⟩,⟨3,3,.bool true,H⟩,⟨3,10,a0,H⟩,⟨3,11,v0,H⟩,⟨3,17,a1,H⟩,⟨3,18,v1,H⟩,⟨3,19,.i c0,H0⟩,⟨3,20,.bool false,H0⟩,⟨5,5,a2,H0⟩,⟨5,6,v2,H0⟩,⟨5,11,a3,H0⟩,⟨5,12,v3,H0⟩,⟨5,13,.i c1,H1⟩,⟨5,14,.bool false,H1⟩] fun kf hk=>⟨_,by kernel_rfl,(oB H (decide_eq_false g0) (oB H (decide_eq_true g1) (oP H g2 (oP H g3 (oP H g4 (oP H g5 (oC (g6 kf (by omega)) (oB H0 (decide_eq_false g7) (oP H0 g8 (oP H0 g9 (oP H0 g10 (oP H0 g11 (oC (g12 kf (by omega)) (oB H1 (decide_eq_false g13) .nil))))))))))))))⟩
theorem sf_b_5 (N:Nat) (db n:Nat) (cap:Option Nat) (H:Heap) (x:Nat) (lo:Nat) (hi:Nat) (fi:Nat) (r:Nat) {y11:HV} {a0:HV} {v0:HV} {a1:HV} {v1:HV} {c0:Int} {H0:Heap} {a2:HV} {v2:HV} {a3:HV} {v3:HV} {a4:HV} {H1:Heap} {a5:HV} {H2:Heap} (g0:¬ ((hi:Int) ≤ IntKind.i64.wrap (IntKind.i64.wrap (2 * (r:Int))+1))) (g1:¬ (IntKind.i64.wrap (IntKind.i64.wrap (IntKind.i64.wrap (2 * (r:Int))+1)+1) < (hi:Int))) (g2:idxV Tp 35 (.c db n cap) (.i (IntKind.i64.wrap ((fi:Int)+(r:Int))))=some (a0)) (g3:loadV Tp H 22 (a0)=some (v0)) (g4:idxV Tp 35 (.c db n cap) (.i (IntKind.i64.wrap ((fi:Int)+IntKind.i64.wrap (IntKind.i64.wrap (2 * (r:Int))+1))))=some (a1)) (g5:loadV Tp H 22 (a1)=some (v1)) (g6:∀ kf,N ≤ kf → callN Tp polSl (kf+1) 64 [v0,v1] H=some (.i c0,H0)) (g7:c0 < 0) (g8:idxV Tp 35 (.c db n cap) (.i (IntKind.i64.wrap ((fi:Int)+IntKind.i64.wrap (IntKind.i64.wrap (2 * (r:Int))+1))))=some (a2)) (g9:loadV Tp H0 22 (a2)=some (v2)) (g10:idxV Tp 35 (.c db n cap) (.i (IntKind.i64.wrap ((fi:Int)+(r:Int))))=some (a3)) (g11:loadV Tp H0 22 (a3)=some (v3)) (g12:idxV Tp 35 (.c db n cap) (.i (IntKind.i64.wrap ((fi:Int)+(r:Int))))=some (a4)) (g13:storeV Tp H0 22 (a4) (v2)=some H1) (g14:idxV Tp 35 (.c db n cap) (.i (IntKind.i64.wrap ((fi:Int)+IntKind.i64.wrap (IntKind.i64.wrap (2 * (r:Int))+1))))=some (a5)) (g15:storeV Tp H1 22 (a5) (v3)=some H2):RT polSl 97 (sub [1,0,0] B97) (env97 (.c db n cap) (.i (lo:Int)) (.i (hi:Int)) (.i (fi:Int)) (.func 64 [] []) (.i (r:Int)) y11) H .normal (env97 (.c db n cap) (.i (lo:Int)) (.i (hi:Int)) (.i (fi:Int)) (.func 64 [] []) (.i (IntKind.i64.wrap (IntKind.i64.wrap (2 * (r:Int))+1))) (.i (IntKind.i64.wrap (IntKind.i64.wrap (2 * (r:Int))+1)))) H2 :=
  RunsTo.hin N 60 [⟨2,2,.bool false,H⟩,⟨3,3,.bool false,H⟩,⟨5,5,a0,H⟩,⟨5,6,v0,H⟩,⟨5,11,a1,H⟩,⟨5,12,v1,H⟩,⟨5,13,.i c0,H0⟩,⟨5,14,.bool true,H0⟩,⟨6,12,a2,H0⟩,⟨6,13,v2,H0⟩,⟨6,18,a3,H0⟩,⟨6,19,v3,H0⟩,⟨6,20,a4,H0⟩,⟨6,21,.tuple [],H1⟩,⟨6,22,a5,H1⟩,⟨6,23,.tuple [],H2⟩] fun kf hk=>⟨_,by kernel_rfl,(oB H (decide_eq_false g0) (oB H (decide_eq_false g1) (oP H g2 (oP H g3 (oP H g4 (oP H g5 (oC (g6 kf (by omega)) (oB H0 (decide_eq_true g7) (oP H0 g8 (oP H0 g9 (oP H0 g10 (oP H0 g11 (oP H0 g12 (oS g13 (oP H1 g14 (oS g15 .nil))))))))))))))))⟩
theorem sf_b_6 (N:Nat) (db n:Nat) (cap:Option Nat) (H:Heap) (x:Nat) (lo:Nat) (hi:Nat) (fi:Nat) (r:Nat) {y11:HV} {a0:HV} {v0:HV} {a1:HV} {v1:HV} {c0:Int} {H0:Heap} (g0:¬ ((hi:Int) ≤ IntKind.i64.wrap (IntKind.i64.wrap (2 * (r:Int))+1))) (g1:¬ (IntKind.i64.wrap (IntKind.i64.wrap (IntKind.i64.wrap (2 * (r:Int))+1)+1) < (hi:Int))) (g2:idxV Tp 35 (.c db n cap) (.i (IntKind.i64.wrap ((fi:Int)+(r:Int))))=some (a0)) (g3:loadV Tp H 22 (a0)=some (v0)) (g4:idxV Tp 35 (.c db n cap) (.i (IntKind.i64.wrap ((fi:Int)+IntKind.i64.wrap (IntKind.i64.wrap (2 * (r:Int))+1))))=some (a1)) (g5:loadV Tp H 22 (a1)=some (v1)) (g6:∀ kf,N ≤ kf → callN Tp polSl (kf+1) 64 [v0,v1] H=some (.i c0,H0)) (g7:¬ (c0 < 0)):RT polSl 97 (sub [1,0,0] B97) (env97 (.c db n cap) (.i (lo:Int)) (.i (hi:Int)) (.i (fi:Int)) (.func 64 [] []) (.i (r:Int)) y11) H .ret (env97 (.c db n cap) (.i (lo:Int)) (.i (hi:Int)) (.i (fi:Int)) (.func 64 [] []) (.i (r:Int)) (.i (IntKind.i64.wrap (IntKind.i64.wrap (2 * (r:Int))+1)))) H0 :=
  RunsTo.hin N 60 [⟨2,2,.bool false,H⟩,⟨3,3,.bool false,H⟩,⟨5,5,a0,H⟩,⟨5,6,v0,H⟩,⟨5,11,a1,H⟩,⟨5,12,v1,H⟩,⟨5,13,.i c0,H0⟩,⟨5,14,.bool false,H0⟩] fun kf hk=>⟨_,by kernel_rfl,(oB H (decide_eq_false g0) (oB H (decide_eq_false g1) (oP H g2 (oP H g3 (oP H g4 (oP H g5 (oC (g6 kf (by omega)) (oB H0 (decide_eq_false g7) .nil))))))))⟩
noncomputable def B84:Code:=Try.f84.body.getD .skip
abbrev env84 (v0 v1 v2 v3 v8 v9 v10 v11 v12:HV):Env:=[(0,v0),(1,v1),(2,v2),(3,v3),(8,v8),(9,v9),(10,v10),(11,v11),(12,v12)]
theorem hs_a_0 (N:Nat) (db n:Nat) (cap:Option Nat) (H:Heap) (x:Nat) (a:Nat) (b:Nat):RT polSl 84 (sub [0] B84) [(0,.c db n cap),(1,.i (a:Int)),(2,.i (b:Int)),(3,.func 64 [] [])] H .normal (env84 (.c db n cap) (.i (a:Int)) (.i (b:Int)) (.func 64 [] []) (.i (a:Int)) Ud Ud Ud Ud) H :=
  RunsTo.hin N 60 [] fun kf hk=>⟨_,by kernel_rfl,.nil⟩
theorem hs_b_0 (N:Nat) (db n:Nat) (cap:Option Nat) (H:Heap) (x:Nat) (a:Nat) (b:Nat) (fi:Nat) {y9 y10 y11 y12:HV}:RT polSl 84 (sub [1,0] B84) (env84 (.c db n cap) (.i (a:Int)) (.i (b:Int)) (.func 64 [] []) (.i (fi:Int)) y9 y10 y11 y12) H .normal (env84 (.c db n cap) (.i (a:Int)) (.i (b:Int)) (.func 64 [] []) (.i (fi:Int)) (.i 0) y10 y11 y12) H :=
  RunsTo.hin N 60 [] fun kf hk=>⟨_,by kernel_rfl,.nil⟩
theorem hs_c_0 (N:Nat) (db n:Nat) (cap:Option Nat) (H:Heap) (x:Nat) (a:Nat) (b:Nat) (fi:Nat) {y10 y11 y12:HV}:RT polSl 84 (sub [1,1,0] B84) (env84 (.c db n cap) (.i (a:Int)) (.i (b:Int)) (.func 64 [] []) (.i (fi:Int)) (.i 0) y10 y11 y12) H .normal (env84 (.c db n cap) (.i (a:Int)) (.i (b:Int)) (.func 64 [] []) (.i (fi:Int)) (.i 0) (.i (IntKind.i64.wrap ((b:Int) - (a:Int)))) y11 y12) H :=
  RunsTo.hin N 60 [] fun kf hk=>⟨_,by kernel_rfl,.nil⟩
theorem hs_d_0 (N:Nat) (db n:Nat) (cap:Option Nat) (H:Heap) (x:Nat) (a:Nat) (b:Nat) (fi:Nat) (hi:Nat) {y11 y12:HV}:RT polSl 84 (sub [1,1,1,0,0] B84) (env84 (.c db n cap) (.i (a:Int)) (.i (b:Int)) (.func 64 [] []) (.i (fi:Int)) (.i 0) (.i (hi:Int)) y11 y12) H .normal (env84 (.c db n cap) (.i (a:Int)) (.i (b:Int)) (.func 64 [] []) (.i (fi:Int)) (.i 0) (.i (hi:Int)) (.i (IntKind.i64.wrap ((IntKind.i64.wrap ((hi:Int) - 1):Int).tdiv 2))) y12) H :=
  RunsTo.hin N 60 [] fun kf hk=>⟨_,by kernel_rfl,.nil⟩
theorem hs_e_0 (N:Nat) (db n:Nat) (cap:Option Nat) (H:Heap) (x:Nat) (a:Nat) (b:Nat) (fi:Nat) (hi:Nat) (x:Int) {y12:HV} {H0:Heap} (g0:0 ≤ x) (g1:∀ kf,N ≤ kf → callN Tp polSl (kf+1) 97 [.c db n cap,.i x,.i (hi:Int),.i (fi:Int),.func 64 [] []] H=some (.tuple [],H0)):RT polSl 84 (sub [1,1,1,0,1,0,0] B84) (env84 (.c db n cap) (.i (a:Int)) (.i (b:Int)) (.func 64 [] []) (.i (fi:Int)) (.i 0) (.i (hi:Int)) (.i x) y12) H .normal (env84 (.c db n cap) (.i (a:Int)) (.i (b:Int)) (.func 64 [] []) (.i (fi:Int)) (.i 0) (.i (hi:Int)) (.i (IntKind.i64.wrap (x - 1))) y12) H0 :=
  RunsTo.hin N 60 [⟨4,1,.bool true,H⟩,⟨6,5,.tuple [],H0⟩] fun kf hk=>⟨_,by kernel_rfl,(oB H (decide_eq_true g0) (oC (g1 kf (by omega)) .nil))⟩
theorem hs_e_1 (N:Nat) (db n:Nat) (cap:Option Nat) (H:Heap) (x:Nat) (a:Nat) (b:Nat) (fi:Nat) (hi:Nat) (x:Int) {y12:HV}(g0:¬ (0 ≤ x)):RT polSl 84 (sub [1,1,1,0,1,0,0] B84) (env84 (.c db n cap) (.i (a:Int)) (.i (b:Int)) (.func 64 [] []) (.i (fi:Int)) (.i 0) (.i (hi:Int)) (.i x) y12) H (.exit 0) (env84 (.c db n cap) (.i (a:Int)) (.i (b:Int)) (.func 64 [] []) (.i (fi:Int)) (.i 0) (.i (hi:Int)) (.i x) y12) H :=
  RunsTo.hin N 60 [⟨4,1,.bool false,H⟩] fun kf hk=>⟨_,by kernel_rfl,(oB H (decide_eq_false g0) .nil)⟩
theorem hs_f_0 (N:Nat) (db n:Nat) (cap:Option Nat) (H:Heap) (x:Nat) (a:Nat) (b:Nat) (fi:Nat) (hi:Nat) {y11 y12:HV}:RT polSl 84 (sub [1,1,1,1,0] B84) (env84 (.c db n cap) (.i (a:Int)) (.i (b:Int)) (.func 64 [] []) (.i (fi:Int)) (.i 0) (.i (hi:Int)) y11 y12) H .normal (env84 (.c db n cap) (.i (a:Int)) (.i (b:Int)) (.func 64 [] []) (.i (fi:Int)) (.i 0) (.i (hi:Int)) y11 (.i (IntKind.i64.wrap ((hi:Int) - 1)))) H :=
  RunsTo.hin N 60 [] fun kf hk=>⟨_,by kernel_rfl,.nil⟩
theorem hs_g_0 (N:Nat) (db n:Nat) (cap:Option Nat) (H:Heap) (x:Nat) (a:Nat) (b:Nat) (fi:Nat) (x:Int) {y10 y11:HV} {a0:HV} {v0:HV} {a1:HV} {v1:HV} {a2:HV} {H0:Heap} {a3:HV} {H1:Heap} {H2:Heap} (g0:0 ≤ x) (g1:idxV Tp 35 (.c db n cap) (.i (IntKind.i64.wrap ((fi:Int)+x)))=some (a0)) (g2:loadV Tp H 22 (a0)=some (v0)) (g3:idxV Tp 35 (.c db n cap) (.i (fi:Int))=some (a1)) (g4:loadV Tp H 22 (a1)=some (v1)) (g5:idxV Tp 35 (.c db n cap) (.i (fi:Int))=some (a2)) (g6:storeV Tp H 22 (a2) (v0)=some H0) (g7:idxV Tp 35 (.c db n cap) (.i (IntKind.i64.wrap ((fi:Int)+x)))=some (a3)) (g8:storeV Tp H0 22 (a3) (v1)=some H1) (g9:∀ kf,N ≤ kf → callN Tp polSl (kf+1) 97 [.c db n cap,.i 0,.i x,.i (fi:Int),.func 64 [] []] H1=some (.tuple [],H2)):RT polSl 84 (sub [1,1,1,1,1,0,0] B84) (env84 (.c db n cap) (.i (a:Int)) (.i (b:Int)) (.func 64 [] []) (.i (fi:Int)) (.i 0) y10 y11 (.i x)) H .normal (env84 (.c db n cap) (.i (a:Int)) (.i (b:Int)) (.func 64 [] []) (.i (fi:Int)) (.i 0) y10 y11 (.i (IntKind.i64.wrap (x - 1)))) H2 :=
  RunsTo.hin N 60 [⟨8,1,.bool true,H⟩,⟨10,10,a0,H⟩,⟨10,11,v0,H⟩,⟨10,14,a1,H⟩,⟨10,15,v1,H⟩,⟨10,16,a2,H⟩,⟨10,17,.tuple [],H0⟩,⟨10,18,a3,H0⟩,⟨10,19,.tuple [],H1⟩,⟨11,5,.tuple [],H2⟩] fun kf hk=>⟨_,by kernel_rfl,(oB H (decide_eq_true g0) (oP H g1 (oP H g2 (oP H g3 (oP H g4 (oP H g5 (oS g6 (oP H0 g7 (oS g8 (oC (g9 kf (by omega)) .nil))))))))))⟩
theorem hs_g_1 (N:Nat) (db n:Nat) (cap:Option Nat) (H:Heap) (x:Nat) (a:Nat) (b:Nat) (fi:Nat) (x:Int) {y10 y11:HV}(g0:¬ (0 ≤ x)):RT polSl 84 (sub [1,1,1,1,1,0,0] B84) (env84 (.c db n cap) (.i (a:Int)) (.i (b:Int)) (.func 64 [] []) (.i (fi:Int)) (.i 0) y10 y11 (.i x)) H (.exit 2) (env84 (.c db n cap) (.i (a:Int)) (.i (b:Int)) (.func 64 [] []) (.i (fi:Int)) (.i 0) y10 y11 (.i x)) H :=
  RunsTo.hin N 60 [⟨8,1,.bool false,H⟩] fun kf hk=>⟨_,by kernel_rfl,(oB H (decide_eq_false g0) .nil)⟩
end Go.Proofs.Ytaibmipamkaljaa
end
