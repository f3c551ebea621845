/- A part of the proof. -/
import Derived.Test.YtaibmipamkaljaaSzC
set_option linter.unusedVariables false
set_option linter.unusedSimpArgs false
set_option linter.unnecessarySimpa false
section
open Go Go.HL Go.HL.So
namespace Go.Proofs.Ytaibmipamkaljaa
open Go.Proofs.Try renaming prog → Tp
open Go.HL.HV renaming undef → Ud
theorem res39:Try.f39.results.toList=[.tmp 4,.tmp 5]:=by kernel_rfl
def sumsL (gl:List Int) (F:List El):List (List Int):=((List.range (sizeT gl).toNat).filter fun (c:Nat)=>decide (tE gl (c:Int) ∈ F)).map fun (c:Nat)=>decT gl (c:Int)
theorem strict_extR {α:Type} {lt:α → α → Prop} (asy:∀ x y,lt x y → ¬ lt y x):∀ {l m:List α},l.Pairwise lt → m.Pairwise lt → (∀ x,x ∈ l ↔ x ∈ m) → l=m
  | [],[],_,_,_=>rfl
  | [],y :: m,_,_,h=>absurd ((h y).2 (by simp)) (by simp)
  | x :: l,[],_,_,h=>absurd ((h x).1 (by simp)) (by simp)
  | x :: l,y :: m,hl,hm,h=>by
    obtain ⟨l1,l2⟩:=List.pairwise_cons.1 hl
    obtain ⟨m1,m2⟩:=List.pairwise_cons.1 hm
    have e:x=y:=by
      rcases List.mem_cons.1 ((h x).1 (by simp)) with e | e
      · exact e
      · have a1:=m1 x e
        rcases List.mem_cons.1 ((h y).2 (by simp)) with e2 | e2
        · exact e2.symm
        · exact absurd (l1 y e2) (asy _ _ a1)
    subst e
    rw [strict_extR asy l2 m2 fun z=>?_]
    constructor
    · intro hz
      rcases List.mem_cons.1 ((h z).1 (List.mem_cons_of_mem _ hz)) with e | e
      · subst e; exact absurd (l1 z hz) (asy _ _ (l1 z hz))
      · exact e
    · intro hz
      rcases List.mem_cons.1 ((h z).2 (List.mem_cons_of_mem _ hz)) with e | e
      · subst e; exact absurd (m1 z hz) (asy _ _ (m1 z hz))
      · exact e
theorem ltL_tot {s:Nat} (hs:s=1 ∨ s=2) {a b:List Int} (ha:a.length=s) (hb:b.length=s) (hn:a ≠ b) (h:¬ ltL b a):ltL a b:=by
  unfold ltL at *
  rcases hs with rfl | rfl
  · match a,b,ha,hb with
    | [x],[y],_,_ =>
      have:x ≠ y:=fun e=>hn (by rw [e])
      simp only [List.getD_cons_zero] at h ⊢
      omega
  · match a,b,ha,hb with
    | [x,x'],[y,y'],_,_ =>
      have e1:([x,x']:List Int).getD 1 0=x':=rfl
      have e2:([y,y']:List Int).getD 1 0=y':=rfl
      simp only [List.getD_cons_zero,e1,e2] at h ⊢
      have:¬ (x=y∧x'=y'):=fun e=>hn (by rw [e.1,e.2])
      omega
section
variable {gl:List Int} (hg:(newGroupT gl).2=true)
include hg
theorem grp_s:gl.length=1 ∨ gl.length=2:=by
  have:=grp_len hg; omega
theorem lst_tE {c:Int}:lstT (grG gl) (tE gl c)=decT gl c:=by
  rcases grp_cases hg with ⟨a,rfl,h1,h2⟩ | ⟨a,b,rfl,h1,h2,h3,h4,h5,h6⟩
  · simp only [grG,new_one h1 h2]; rfl
  · simp only [grG,new_two h1 h2 h3 h4 h5 h6]; rfl
theorem lst_len (y:El):(lstT (grG gl) y).length=gl.length:=by
  rcases grp_cases hg with ⟨a,rfl,h1,h2⟩ | ⟨a,b,rfl,h1,h2,h3,h4,h5,h6⟩
  · simp only [grG,new_one h1 h2]; rfl
  · simp only [grG,new_two h1 h2 h3 h4 h5 h6]; rfl
theorem el_code {y:El} (hy:elOk (grG gl) y):∃ c:Int,(0 ≤ c∧c < sizeT gl)∧tE gl c=y:=by
  rcases grp_cases hg with ⟨a,rfl,h1,h2⟩ | ⟨a,b,rfl,h1,h2,h3,h4,h5,h6⟩
  · simp only [grG,new_one h1 h2] at hy
    obtain ⟨⟨y1,y2⟩,y3,y4⟩:=hy
    simp only at y1 y2 y3 y4
    refine ⟨y.1,⟨y1,y2⟩,?_⟩
    show (y.1,(0:Int))=y
    exact Prod.ext rfl (by show (0:Int)=y.2; omega)
  · simp only [grG,new_two h1 h2 h3 h4 h5 h6] at hy
    obtain ⟨hy1,hy2⟩:=hy
    have cb:=cod_b h1 h3 h5 hy1 hy2
    refine ⟨y.1 * b+y.2,⟨by omega,cb.2.1⟩,tE_two hy2⟩
theorem lst_inj {x y:El} (hx:elOk (grG gl) x) (hy:elOk (grG gl) y) (h:lstT (grG gl) x=lstT (grG gl) y):x=y:=by
  rcases grp_cases hg with ⟨a,rfl,h1,h2⟩ | ⟨a,b,rfl,h1,h2,h3,h4,h5,h6⟩
  · simp only [grG,new_one h1 h2] at hx hy h
    obtain ⟨_,x3,x4⟩:=hx
    obtain ⟨_,y3,y4⟩:=hy
    simp only at x3 x4 y3 y4
    simp only [lstT,if_true,List.cons.injEq,and_true] at h
    exact Prod.ext h (by omega)
  · simp only [grG,new_two h1 h2 h3 h4 h5 h6] at h
    simp only [lstT,show ¬ (2:Int)=1 by omega,if_false,List.cons.injEq,and_true] at h
    exact Prod.ext h.1 h.2
theorem decT_lt {c d:Int} (h0:0 ≤ c) (h:c < d):ltL (decT gl c) (decT gl d):=by
  rcases grp_cases hg with ⟨a,rfl,h1,h2⟩ | ⟨a,b,rfl,h1,h2,h3,h4,h5,h6⟩
  · exact .inl h
  · have e1:=Int.mul_ediv_add_emod c b
    have e2:=Int.mul_ediv_add_emod d b
    have f1:=Int.emod_nonneg c (show b ≠ 0 by omega)
    have f2:=Int.emod_lt_of_pos c (show 0 < b by omega)
    have f3:=Int.emod_nonneg d (show b ≠ 0 by omega)
    have f4:=Int.emod_lt_of_pos d (show 0 < b by omega)
    have hle:c / b ≤ d / b:=Int.ediv_le_ediv (by omega) (by omega)
    show c / b < d / b ∨ (c / b=d / b∧c % b < d % b)
    by_cases e:c / b=d / b
    · refine .inr ⟨e,?_⟩
      rw [e] at e1; omega
    · exact .inl (by omega)
theorem sums_sorted {F:List El} (hF:∀ y ∈ F,elOk (grG gl) y) (hnd:F.Nodup) {l:List (List Int)} (hl:l.Perm (F.map (lstT (grG gl)))) (hs:Sorted ltL 0 l.length l):l=sumsL gl F:=by
  have hlen:∀ x ∈ l,x.length=gl.length:=fun x hx=>by
    obtain ⟨y,_,rfl⟩:=List.mem_map.1 (hl.mem_iff.1 hx)
    exact lst_len hg y
  have hnl:l.Nodup:=hl.nodup_iff.2 (by
    clear hl hs hlen
    induction F with
    | nil=>simp
    | cons y F ih =>
      obtain ⟨n1,n2⟩:=List.nodup_cons.1 hnd
      rw [List.map_cons,List.nodup_cons]
      refine ⟨fun h=>?_,ih (fun z hz=>hF z (by simp [hz])) n2⟩
      obtain ⟨z,hz,e⟩:=List.mem_map.1 h
      rw [lst_inj hg (hF z (by simp [hz])) (hF y (by simp)) e] at hz
      exact n1 hz)
  have e:∀ k,(hk:k < l.length) → at_ l k=l[k]:=fun k hk=>by simp [at_,List.getD,List.getElem?_eq_getElem hk]
  have h1:l.Pairwise ltL:=by
    rw [List.pairwise_iff_getElem]
    intro i j hi hj hij
    have:=hs i j (Nat.zero_le _) hij hj
    rw [e i hi,e j hj] at this
    exact ltL_tot (grp_s hg) (hlen _ (List.getElem_mem hi)) (hlen _ (List.getElem_mem hj)) (List.pairwise_iff_getElem.1 hnl i j hi hj hij) this
  have h2:(sumsL gl F).Pairwise ltL:=by
    rw [sumsL,List.pairwise_map]
    exact (List.Pairwise.filter _ List.pairwise_lt_range).imp fun {a b} h=>decT_lt hg (by omega) (by omega)
  refine strict_extR (fun x y h=>ltL_lin.asy x y h) h1 h2 fun x=>?_
  rw [hl.mem_iff]
  simp only [sumsL,List.mem_map,List.mem_filter,List.mem_range,decide_eq_true_eq]
  constructor
  · rintro ⟨y,hy,rfl⟩
    obtain ⟨c,⟨c0,c1⟩,rfl⟩:=el_code hg (hF y hy)
    exact ⟨c.toNat,⟨by omega,by rw [Int.toNat_of_nonneg c0]; exact hy⟩,by rw [Int.toNat_of_nonneg c0,lst_tE hg]⟩
  · rintro ⟨c,⟨_,h⟩,rfl⟩
    exact ⟨_,h,lst_tE hg⟩
end
def sumsT (gl:List Int) (R:List (List Int)):List (List Int) × Int :=
  if (newGroupT gl).2=true then (match elemsT (newGroupT gl).1 R with
    | some els=>(sumsL gl (sumS (newGroupT gl).1 els),0)
    | none=>([],2)) else ([],2)
section
variable {gl:List Int} {R:List (List Int)} {g:Gr} {l:List El}
theorem nodup_lt:∀ (n:Nat) (S:List Nat),S.Nodup → (∀ q ∈ S,q < n) → S.length ≤ n
  | 0,[],_,_=>Nat.le_refl _
  | 0,q :: S,_,h=>absurd (h q (by simp)) (Nat.not_lt_zero _)
  | n+1,S,hn,h=>by
    have h1:=nodup_lt n (S.erase n) (hn.erase n) (fun q hq=>by
      have a:=h q (List.mem_of_mem_erase hq)
      have b:q ≠ n:=fun e=>by
        rw [e,hn.mem_erase_iff] at hq
        exact hq.1 rfl
      omega)
    rw [List.length_erase] at h1
    split at h1 <;> omega
noncomputable def D20:Code:=sub [1,1,1,1,1,1,1,1,0,0] B39
noncomputable def D21:Code:=sub [1,1,1,1,1,1,1,1,0,1,0,0,0] B39
noncomputable def D22:Code:=sub [1,1,1,1,1,1,1,1,0,1,0,0,1,1,0,0] B39
abbrev suY (gl:List Int) (R:List (List Int)) (n:Nat) (v9 v15 v32 v33 v34 v57:HV):Env:=(env39 (.imm .arg 1 (gl.map encI)) (.imm .arg 1 (R.map encR)) (.imm .lit 1 []) (.int .i64 0) (.ptr 0 0 0 1) Ud Ud v9 Ud Ud Ud (.sl 2 0 n none n 1) v15 v32 v33 v34 Ud v57)
def ksF:List Nat:=[0,1,4,5,6,14,57]
abbrev suF (gl:List Int) (R:List (List Int)) (n:Nat):Env:=[(0,.imm .arg 1 (gl.map encI)),(1,.imm .arg 1 (R.map encR)),(4,.imm .lit 1 []),(5,.int .i64 0),(6,.ptr 0 0 0 1),(14,.sl 2 0 n none n 1),(57,.ptr 3 0 0 0)]
theorem box_in22 (e:Env) (H:Heap) (x:El):evOps Tp polSl 39 22 (regOps D22) [] (callN Tp polSl 1) ((regOps D22).toList.drop 1) (e.put (some 60) (.tuple [encX x,.bool true])) H=some ([(15,.ptr H.length 0 0 1),(61,encX x),(60,.tuple [encX x,.bool true])] ++ e,H ++ [.arr 2 [encX x] true 0]) :=
  evOpsH_ok Tp polSl ((regOps D22).toList.drop 1) 1 _ _ [⟨22,3,.tuple [],H ++ [.arr 2 [encX x] true 0]⟩] (hs':=[])
    (ob:=[(storeV Tp (H ++ [.arr 2 [.agg [.int .i64 0,.int .i64 0]] true 0]) 64 (.ptr H.length 0 0 1) (encX x)).map (fun H=>(HV.tuple [],H))=some (.tuple [],H ++ [.arr 2 [encX x] true 0])]) (by kernel_rfl) (Obls.cons (hintSt (st_box2 H x)) Obls.nil)
theorem pre_in20 {H:Heap} {n:Nat} (m9 v32 v33 v34:HV) :
    evOps Tp polSl 39 20 (regOps D20) [] (callN Tp polSl 1) ((regOps D20).toList.take 1) (suY gl R n m9 Ud v32 v33 v34 Ud) H=some ((56,m9) :: suY gl R n m9 Ud v32 v33 v34 Ud,H) :=
  evOpsH_ok Tp polSl ((regOps D20).toList.take 1) 0 _ _ [] (hs':=[]) (ob:=[]) (by kernel_rfl) Obls.nil
def mD (k:Nat):Nat:=if k=0 then 0 else 4+2 * k
theorem mxs_add:∀ (A B:Heap),mxs (A ++ B)=max (mxs A) (mxs B)
  | [],B=>by simp [mxs]
  | x :: A,B=>by simp only [List.cons_append,mxs,mxs_add A B]; omega
theorem dHp_mx {s m:Nat} {Bk:Blk} (hB:Bk.mx=0) (ys:List El) (T:Heap):mxs (dHp g l s m Bk ys T)=max m (mxs T):=by
  show max 0 (max 0 (max m (max Bk.mx (mxs (pairB g ys ++ T)))))=_
  rw [hB,mxs_add,pairB_mx]; omega
theorem su_lastD (hs:g.2.2=1 ∨ g.2.2=2) {F:List El} (hF:F.length ≤ 900) {s:Nat} (hy:∀ y,(lstT g y).length=s) (v32 v33 v34:HV) :
    Trip Tp Try.f39.ntmps (sub [1,1,1,1,1,1,1,1,0] B39) (suY gl R 0 (encS F) Ud v32 v33 v34 Ud) [bG g,bX l,bO []]
      (fun X e H=>X=.normal∧∃ ys Bk,ys.Perm F∧Bk.mx=0∧restr (polSl.keys 39) e=suY gl R ys.length Ud Ud Ud Ud Ud (.ptr 3 0 0 0)∧H=dHp g l s (mD ys.length) Bk ys []):=by
  have hc:sub [1,1,1,1,1,1,1,1,0] B39=.seq (.region 20 (regOps D20) false) (.block 4 (.loop (.seq (.region 21 (regOps D21) false) (.seq (.cond (.tmp 59) .skip (.exit 4)) (.block 5 (.seq (.region 22 (regOps D22) false) (sub [1,1,1,1,1,1,1,1,0,1,0,0,1,1,0,1] B39))))))):=by kernel_rfl
  rw [hc]
  refine Trip.range (pol:=polSl) (f:=39) (k:=1) (it:=57) (tm:=56) (tn:=58) (tb:=59) (te:=60) (T:=87) (kt:=64) (et:=4) (oR:=opAt (regOps D20) 1) (oN:=opAt (regOps D21) 0) (oX:=opAt (regOps D21) 1) (oE:=opAt (regOps D22) 0) (pre:=(regOps D20).toList.take 1) (os:=(regOps D22).toList.drop 1)
    (g:=.own) (kl:=F.map encX) (vl:=F.map fun _=>.bool true) (asgA:=[]) (asg2:=[]) ksF
    (I:=fun S Bk e H=>e=suF gl R S.length∧H=dHp g l s (mD S.length) Bk (S.map fun j=>F.getD j (0,0)) []∧Bk.mx=0∧∀ q ∈ S,q < F.length)
    soundSl (by kernel_rfl) (by kernel_rfl) (by kernel_rfl) (by kernel_rfl) (by kernel_rfl) (by kernel_rfl) (by kernel_rfl) (by kernel_rfl) (by kernel_rfl) (by kernel_rfl) (by kernel_rfl) (by kernel_rfl) (by kernel_rfl) (by kernel_rfl) (by kernel_rfl) (by kernel_rfl) (by decide)
    (by kernel_rfl) (by kernel_rfl) (by kernel_rfl) (pre_in20 (encS F) _ _ _) rfl ?_ ?_ ?_ ?_
  · intro Bk hB hS
    exact ⟨rfl,rfl,hB,by simp⟩
  · rintro S Bk e H' ⟨rfl,rfl,_,_⟩
    exact ⟨rfl,rfl⟩
  · rintro S Bk e H' j kv vv ⟨rfl,rfl,hB,hS⟩ hj hjS hnd hkv hvv B' hB' hS'
    rw [List.length_map] at hj
    have hw:F[j]=F.getD j (0,0):=by simp [List.getD,List.getElem?_eq_getElem hj]
    have ekv:kv=encX (F.getD j (0,0)):=by
      rw [List.getElem?_map,List.getElem?_eq_getElem hj] at hkv
      rw [← hw]; exact (Option.some.inj hkv).symm
    have evv:vv=.bool true:=by
      rw [List.getElem?_map,List.getElem?_eq_getElem hj] at hvv
      exact (Option.some.inj hvv).symm
    subst ekv; subst evv
    have hSl:=nodup_lt F.length S hnd hS
    generalize hww:F.getD j (0,0)=y at *
    have eset:(dHp g l s (mD S.length) Bk (S.map fun j=>F.getD j (0,0)) []).set ([bG g,bX l,bO []]:Heap).length B'=dHp g l s (mD S.length) B' (S.map fun j=>F.getD j (0,0)) []:=rfl
    rw [eset]
    generalize hys:(S.map fun j=>F.getD j (0,0))=ys at *
    have eyl:ys.length=S.length:=by rw [← hys,List.length_map]
    have elen:(dHp g l s (mD S.length) B' ys []).length=4+2 * ys.length:=by rw [dHp_len]; rfl
    have hb:=box_in22 (((suF gl R S.length).put (some 58) (.tuple [.bool true,Ud,Ud])).put (some 59) (.bool true)) (dHp g l s (mD S.length) B' ys []) y
    have eapp:dHp g l s (mD S.length) B' ys [] ++ [.arr 2 [encX y] true 0]=dHp g l s (mD S.length) B' ys [bx1 y]:=by simp [dHp]
    rw [elen,eapp] at hb
    refine ⟨_,_,hb,?_⟩
    have hround:=su_addD (gl:=gl) (R:=R) (l:=l) (g:=g) hs (s:=s) (m:=mD S.length) (ys:=ys) (y:=y) (Bk:=B') (by omega) (hy y)
    rw [eyl] at hround ⊢
    refine Trip.restrict (polSl.keys 39) ?_
    have hrun:=Trip.run (nt:=Try.f39.ntmps) follows_mixed soundSl (by kernel_rfl) hround
    refine Trip.mono hrun ?_
    rintro X e2 H2 ⟨rfl,rfl,rfl⟩
    refine ⟨rfl,ksF,4,by simp [ksF,HL.restr,bndE,bnd,bndL,Env.get],?_⟩
    refine ⟨by rw [List.length_append,List.length_singleton]; rfl,?_,hB',?_⟩
    · have e6:max (mD S.length) (6+2 * S.length)=mD (S.length+1):=by unfold mD; split <;> simp <;> omega
      have e7:(bG g :: bX l :: Blk.arr 1 (rowRefs s (S.length+1)) true (max (mD S.length) (6+2 * S.length)) :: B' :: (pairB g ys ++ [bx1 y,bI (lstT g y),.arr 1 [.sl (5+2 * S.length) 0 s none s 1] true (6+2 * S.length)]):Heap)=dHp g l s (mD (S.length+1)) B' (ys ++ [y]) [.arr 1 [.sl (5+2 * S.length) 0 s none s 1] true (6+2 * S.length)]:=by
        rw [e6]; simp only [dHp,pairB_app,List.length_append,List.length_singleton,eyl,List.append_assoc,List.cons_append,List.nil_append]
      rw [e7,List.length_append,List.length_singleton,List.map_append,hys,List.map_singleton,hww]
      have e8:mxs (dHp g l s (mD (S.length+1)) B' (ys ++ [y]) [.arr 1 [.sl (5+2 * S.length) 0 s none s 1] true (6+2 * S.length)])=6+2 * S.length:=by
        rw [dHp_mx hB']
        show max (mD (S.length+1)) (max (6+2 * S.length) 0)=_
        unfold mD; simp; omega
      unfold gc
      rw [e8,dHp_len,eyl]
      have e9:(dHp g l s (mD (S.length+1)) B' (ys ++ [y]) []).length=6+2 * S.length:=by rw [dHp_len]; simp [eyl]; omega
      have e10:dHp g l s (mD (S.length+1)) B' (ys ++ [y]) [.arr 1 [.sl (5+2 * S.length) 0 s none s 1] true (6+2 * S.length)]=dHp g l s (mD (S.length+1)) B' (ys ++ [y]) [] ++ [.arr 1 [.sl (5+2 * S.length) 0 s none s 1] true (6+2 * S.length)]:=by simp [dHp]
      rw [e10,show max (4+2 * S.length+([]:Heap).length) (max 4 (6+2 * S.length))=(dHp g l s (mD (S.length+1)) B' (ys ++ [y]) []).length by rw [e9]; simp; omega]
      exact List.take_left
    · intro q hq
      rcases List.mem_append.1 hq with h | h
      · exact hS q h
      · rw [List.mem_singleton] at h; omega
  · rintro S Bk e H' ⟨rfl,rfl,hB,hS⟩ hall hlt hnd
    refine ⟨rfl,S.map fun j=>F.getD j (0,0),Bk,?_,hB,?_,?_⟩
    · have hp:S.Perm (List.range F.length):=by
        rw [List.perm_ext_iff_of_nodup hnd List.nodup_range]
        intro j
        rw [List.mem_range]
        exact ⟨fun h=>by simpa using hlt j h,fun h=>hall j (by simpa using h)⟩
      have e1:(List.range F.length).map (fun j=>F.getD j (0,0))=F:=by
        apply List.ext_getElem
        · simp
        · intro i h1 h2
          simp at h1
          simp [List.getD,List.getElem?_eq_getElem h1]
      conv=>rhs; rw [← e1]
      exact hp.map _
    · rw [List.length_map]; rfl
    · rw [List.length_map]
end
end Go.Proofs.Ytaibmipamkaljaa
end
section
open Go Go.HL Go.HL.So
namespace Go.Proofs.Ytaibmipamkaljaa
open Go.Proofs.Try renaming prog → Tp
open Go.HL.HV renaming undef → Ud
section
variable {gl:List Int} (hg:(newGroupT gl).2=true)
include hg
theorem code_dec {c:Int} (hc:0 ≤ c∧c < sizeT gl):codeT gl (decT gl c)=c∧elB gl (decT gl c)=true:=by
  rcases grp_cases hg with ⟨a,rfl,h1,h2⟩ | ⟨a,b,rfl,h1,h2,h3,h4,h5,h6⟩
  · exact ⟨rfl,el_mk1 hc⟩
  · have c1:c < a * b:=hc.2
    have e1:=Int.mul_ediv_add_emod c b
    refine ⟨?_,el_mk2 ⟨Int.ediv_nonneg hc.1 (by omega),Int.ediv_lt_of_lt_mul (by omega) c1⟩ ⟨Int.emod_nonneg _ (by omega),Int.emod_lt_of_pos _ (by omega)⟩⟩
    show c / b * b+c % b=c
    rw [Int.mul_comm]; exact e1
theorem lst_el {y:El} (hy:elOk (grG gl) y):elB gl (lstT (grG gl) y)=true∧eE gl (lstT (grG gl) y)=y:=by
  obtain ⟨c,hc,rfl⟩:=el_code hg hy
  obtain ⟨d1,d2⟩:=code_dec hg hc
  rw [lst_tE hg]
  exact ⟨d2,by rw [eE,d1]⟩
theorem els_few {F:List El} (hF:∀ y ∈ F,elOk (grG gl) y) (hn:F.Nodup):F.length ≤ 144:=by
  have hs:=size_bnd hg
  have key:∀ (F:List El),(∀ y ∈ F,elOk (grG gl) y) → F.Nodup → (F.map fun y=>(codeT gl (lstT (grG gl) y)).toNat).Nodup:=by
    intro F
    induction F with
    | nil=>intro _ _; simp
    | cons y F ih =>
      intro hF hn
      obtain ⟨n1,n2⟩:=List.nodup_cons.1 hn
      rw [List.map_cons,List.nodup_cons]
      refine ⟨fun h=>?_,ih (fun z hz=>hF z (by simp [hz])) n2⟩
      obtain ⟨z,hz,e⟩:=List.mem_map.1 h
      obtain ⟨a1,a2⟩:=lst_el hg (hF z (by simp [hz]))
      obtain ⟨b1,b2⟩:=lst_el hg (hF y (by simp))
      have c1:=code_bnd hg a1
      have c2:=code_bnd hg b1
      have e':codeT gl (lstT (grG gl) z)=codeT gl (lstT (grG gl) y):=by omega
      rw [eE,e'] at a2
      rw [eE] at b2
      rw [a2] at b2
      rw [b2] at hz
      exact n1 hz
  have h:=nodup_lt (sizeT gl).toNat _ (key F hF hn) (fun q hq=>by
    obtain ⟨y,hy,rfl⟩:=List.mem_map.1 hq
    have:=code_bnd hg (lst_el hg (hF y hy)).1
    omega)
  rw [List.length_map] at h
  omega
end
def rowsD (R:List (List Int)):List HV:=R.map fun r=>.own 1 (r.map encI)
theorem view_full {H:Heap} {b k n mx:Nat} {w:Bool} {els:List HV} (hb:H[b]?=some (.arr k els w mx)) (hm:els.length=n):view H b 0 n n k=some els:=by
  simp only [view,hb]
  rw [if_pos ⟨hm.symm,by omega,trivial⟩]
  simp [← hm]
theorem toRes_deep {H:Heap} {db n s m:Nat} {row:Nat → List Int} {l':List Nat} (hb:H[db]?=some (.arr 1 (l'.map fun b=>.sl b 0 s none s 1) true m)) (hl:l'.length=n) (hnd:l'.Nodup)
    (hr:∀ b ∈ l',b ≠ db∧(row b).length=s∧H[b]?=some (bI (row b))) (x:Int) :
    toRes H true (.tuple [.sl db 0 n none n 1,.int .i64 x])=some (.tuple [.own 1 (rowsD (l'.map row)),.int .i64 x]):=by
  have hv:=view_full hb (by simpa using hl)
  have o1:(l'.map fun b=>HV.sl b 0 s none s 1).flatMap (owned1 H)=l':=by
    have:∀ L:List Nat,(∀ b ∈ L,H[b]?=some (bI (row b))) → (L.map fun b=>HV.sl b 0 s none s 1).flatMap (owned1 H)=L:=by
      intro L
      induction L with
      | nil=>intro _; rfl
      | cons b L ih =>
        intro h
        rw [List.map_cons,List.flatMap_cons,ih (fun c hc=>h c (by simp [hc]))]
        simp only [owned1,h b (by simp)]
        rfl
    exact this l' fun b hb=>(hr b hb).2.2
  have ho:ownedAll H true (.tuple [.sl db 0 n none n 1,.int .i64 x])=db :: l':=by
    simp only [ownedAll,List.flatMap_cons,List.flatMap_nil,cellsOf,owned,hb,if_true,hv,o1,List.append_nil]
  have hn2:(db :: l').Nodup:=List.nodup_cons.2 ⟨fun h=>(hr db h).1 rfl,hnd⟩
  have hm:mapO (resElem H (db :: l') true) (l'.map fun b=>HV.sl b 0 s none s 1)=some (rowsD (l'.map row)):=by
    have:∀ L:List Nat,(∀ b ∈ L,(row b).length=s∧H[b]?=some (bI (row b))) → mapO (resElem H (db :: l') true) (L.map fun b=>HV.sl b 0 s none s 1)=some (rowsD (L.map row)):=by
      intro L
      induction L with
      | nil=>intro _; rfl
      | cons b L ih =>
        intro h
        obtain ⟨h1,h2⟩:=h b (by simp)
        have h3:=view_full h2 (n:=s) (by simpa using h1)
        have h4:resElem H (db :: l') true (.sl b 0 s none s 1)=some (.own 1 ((row b).map encI)):=by
          simp only [resElem,if_true,h2,h3]
          rw [if_pos (ints_res _)]
        simp only [List.map_cons,mapO,h4,ih (fun c hc=>h c (by simp [hc])),rowsD]
    exact this l' fun b hb=>(hr b hb).2
  simp only [toRes,ho,hn2,if_true,mapO,resVal,resCell,hb,hv,hm]
  rfl
def sums39d:List HV → Option HV
  | [.imm .arg 1 la,.imm .arg 1 rw]=>(match mapO decI la,mapO decR rw with | some l,some R=>if R.length ≤ 1000 then some (.tuple [.own 1 (rowsD (sumsT l R).1),.int .i64 (sumsT l R).2]) else none | _,_=>none)
  | _=>none
theorem sumsd_inv {args:List HV} {res:HV} (h:sums39d args=some res):∃ (l:List Int) (R:List (List Int)),args=[.imm .arg 1 (l.map encI),.imm .arg 1 (R.map encR)]∧R.length ≤ 1000∧res=.tuple [.own 1 (rowsD (sumsT l R).1),.int .i64 (sumsT l R).2]:=by
  unfold sums39d at h
  split at h
  · split at h
    · rename_i l R hl hR
      split at h
      · rename_i hk
        cases h
        exact ⟨l,R,by rw [mapO_inv decI_inv hl,mapO_inv decR_inv hR],hk,rfl⟩
      · cases h
    · cases h
  · cases h
theorem sumsD_ok:PrimOk Tp 39 sums39d:=by
  refine primOk_trip (fn:=Try.f39) (cd:=B39) (deep:=true) (by kernel_rfl) (by kernel_rfl) ?_
  intro args res h
  obtain ⟨gl,R,rfl,hR,rfl⟩:=sumsd_inv h
  clear h
  have a:=su_a_0 (gl.map encI) (R.map encR)
  have h5:=newGroup_at (pol':=polSl) (by kernel_rfl) gl []
  cases c:(newGroupT gl).2 with
  | false =>
    rw [c] at h5
    have b:=su_b_1 (gl.map encI) (R.map encR) (y6:=Ud) (y7:=Ud) (y8:=Ud) (y9:=Ud) (y11:=Ud) (y12:=Ud) (y13:=Ud) (y14:=Ud) (y15:=Ud) (y32:=Ud) (y33:=Ud) (y34:=Ud) (y42:=Ud) (y57:=Ud) h5
    have s:=su_cf_0 (gl.map encI) (R.map encR) (newGroupT gl).1.1 (newGroupT gl).1.2.1 (newGroupT gl).1.2.2 (y8:=Ud) (y9:=Ud) (y11:=Ud) (y12:=Ud) (y13:=Ud) (y14:=Ud) (y15:=Ud) (y32:=Ud) (y33:=Ud) (y34:=Ud) (y42:=Ud) (y57:=Ud)
    have u:=sq (a) (sq (b) (sqo (s) (c:=sub [1,1] B39) (b:=sub [1,1,1] B39)) (c:=sub [1] B39)) (c:=B39)
    refine (Trip.run follows_mixed soundSl (by kernel_rfl) u).mono ?_
    rintro X e H ⟨rfl,rfl,rfl⟩
    exact ⟨by simp,.tuple [.imm .lit 1 [],.int .i64 2],by simp only [resultsV,res39]; rfl,by rw [sumsT,c]; rfl⟩
  | true =>
    obtain ⟨hgo,hr⟩:=newGroup_gr c
    rw [c] at h5
    have b:=su_b_0 (gl.map encI) (R.map encR) (y6:=Ud) (y7:=Ud) (y8:=Ud) (y9:=Ud) (y11:=Ud) (y12:=Ud) (y13:=Ud) (y14:=Ud) (y15:=Ud) (y32:=Ud) (y33:=Ud) (y34:=Ud) (y42:=Ud) (y57:=Ud) h5
    have ct:=su_ct_0 (gl.map encI) (R.map encR) (newGroupT gl).1.1 (newGroupT gl).1.2.1 (newGroupT gl).1.2.2 (y8:=Ud) (y9:=Ud) (y11:=Ud) (y12:=Ud) (y13:=Ud) (y14:=Ud) (y15:=Ud) (y32:=Ud) (y33:=Ud) (y34:=Ud) (y42:=Ud) (y57:=Ud)
    have h6:=elements_at (pol':=polSl) (by kernel_rfl) hgo hr hR [bGr (newGroupT gl).1]
    cases he:elemsT (newGroupT gl).1 R with
    | none =>
      rw [he] at h6
      have d:=su_d_1 (gl.map encI) (R.map encR) (newGroupT gl).1.1 (newGroupT gl).1.2.1 (newGroupT gl).1.2.2 (y8:=Ud) (y9:=Ud) (y11:=Ud) (y12:=Ud) (y13:=Ud) (y14:=Ud) (y15:=Ud) (y32:=Ud) (y33:=Ud) (y34:=Ud) (y42:=Ud) (y57:=Ud) h6
      have s:=su_ef_0 (gl.map encI) (R.map encR) (newGroupT gl).1.1 (newGroupT gl).1.2.1 (newGroupT gl).1.2.2 0 [] (y9:=Ud) (y11:=Ud) (y12:=Ud) (y13:=Ud) (y14:=Ud) (y15:=Ud) (y32:=Ud) (y33:=Ud) (y34:=Ud) (y42:=Ud) (y57:=Ud)
      have u:=sq (a) (sq (b) (sq (ct) (sq (d) (sqo (s) (c:=sub [1,1,1,1] B39) (b:=sub [1,1,1,1,1] B39)) (c:=sub [1,1,1] B39)) (c:=sub [1,1] B39)) (c:=sub [1] B39)) (c:=B39)
      refine (Trip.run follows_mixed soundSl (by kernel_rfl) u).mono ?_
      rintro X e H ⟨rfl,rfl,rfl⟩
      exact ⟨by simp,.tuple [.imm .lit 1 [],.int .i64 2],by simp only [resultsV,res39]; rfl,by rw [sumsT,c,if_pos rfl,he]; rfl⟩
    | some l =>
      rw [he] at h6
      obtain ⟨k1,k2,k3⟩:=elems_el hgo he
      rw [allEl_iff] at k1
      have d:=su_d_0 (gl.map encI) (R.map encR) (newGroupT gl).1.1 (newGroupT gl).1.2.1 (newGroupT gl).1.2.2 (y8:=Ud) (y9:=Ud) (y11:=Ud) (y12:=Ud) (y13:=Ud) (y14:=Ud) (y15:=Ud) (y32:=Ud) (y33:=Ud) (y34:=Ud) (y42:=Ud) (y57:=Ud) h6
      have et:=su_et_0 (gl.map encI) (R.map encR) (newGroupT gl).1.1 (newGroupT gl).1.2.1 (newGroupT gl).1.2.2 l.length (l.map encX) (y9:=Ud) (y11:=Ud) (y12:=Ud) (y13:=Ud) (y14:=Ud) (y15:=Ud) (y32:=Ud) (y33:=Ud) (y34:=Ud) (y42:=Ud) (y57:=Ud)
      have eG:grG gl=(newGroupT gl).1:=rfl
      have hFo:=sumS_ok hgo l k1
      have hFn:=sumS_nodup (newGroupT gl).1 l
      have hFl:=els_few c hFo hFn
      have hT:sumsT gl R=(sumsL gl (sumS (newGroupT gl).1 l),0):=by rw [sumsT,c,if_pos rfl,he]
      rw [hT]
      have f:=su_f_0 (gl.map encI) (R.map encR) [bG (newGroupT gl).1,bX l] l.length (y7:=.bool true) (y9:=Ud) (y11:=Ud) (y12:=Ud) (y13:=Ud) (y14:=Ud) (y15:=Ud) (y32:=Ud) (y33:=Ud) (y34:=Ud) (y42:=Ud) (y57:=Ud) (H0:=[bG (newGroupT gl).1,bX l,.map [] [] 0]) rfl
      refine Trip.seqR (cd:=B39) (ca:=sub [0] B39) (cb:=sub [1] B39) a follows_mixed soundSl (by kernel_rfl) (by kernel_rfl) ?_
      refine Trip.seqR (cd:=sub [1] B39) (ca:=sub [1,0] B39) (cb:=sub [1,1] B39) b follows_mixed soundSl (by kernel_rfl) (by kernel_rfl) ?_
      refine Trip.seqR (cd:=sub [1,1] B39) (ca:=sub [1,1,0] B39) (cb:=sub [1,1,1] B39) ct follows_mixed soundSl (by kernel_rfl) (by kernel_rfl) ?_
      refine Trip.seqR (cd:=sub [1,1,1] B39) (ca:=sub [1,1,1,0] B39) (cb:=sub [1,1,1,1] B39) d follows_mixed soundSl (by kernel_rfl) (by kernel_rfl) ?_
      refine Trip.seqR (cd:=sub [1,1,1,1] B39) (ca:=sub [1,1,1,1,0] B39) (cb:=sub [1,1,1,1,1] B39) et follows_mixed soundSl (by kernel_rfl) (by kernel_rfl) ?_
      have hc:sub [1,1,1,1,1] B39=.seq (sub [1,1,1,1,1,0] B39) (.seq (.seq (sub [1,1,1,1,1,1,0,0] B39) (.block 0 (.loop (sub [1,1,1,1,1,1,0,1,0,0] B39)))) (.seq (sub [1,1,1,1,1,1,1,0] B39) (.seq (sub [1,1,1,1,1,1,1,1,0] B39) (sub [1,1,1,1,1,1,1,1,1] B39)))):=by kernel_rfl
      rw [hc]
      generalize hgg:(newGroupT gl).1=g at *
      have hc2:Trip Tp Try.f39.ntmps (sub [1,1,1,1,1,0] B39) ((env39 (.imm .arg 1 (gl.map encI)) (.imm .arg 1 (R.map encR)) (.imm .lit 1 []) (.int .i64 0) (.ptr 0 0 0 1) (.bool true) (.sl 1 0 l.length none l.length 2) Ud Ud Ud Ud Ud Ud Ud Ud Ud Ud Ud)) [bG g,bX l] (fun x e H=>x=.normal∧e=(env39 (.imm .arg 1 (gl.map encI)) (.imm .arg 1 (R.map encR)) (.imm .lit 1 []) (.int .i64 0) (.ptr 0 0 0 1) (.bool true) (.sl 1 0 l.length none l.length 2) (encS []) Ud Ud Ud Ud Ud Ud Ud Ud Ud Ud)∧H=[bG g,bX l]):=by
        refine Trip.conv (Trip.run follows_mixed soundSl (by kernel_rfl) f) ?_
        rintro x e H ⟨rfl,rfl,rfl⟩
        refine ⟨_,_,Conv.sealM (P:=Tp) (n:=2) (H0:=[bG g,bX l]) (ks:=[]) (vs:=[]) (ks':=[]) (vs':=[]) (mx:=0) (mb:=2) rfl (Nat.le_refl _) (fun v hv=>by simp at hv) (.refl _) rfl rfl ?_ ?_,rfl,rfl,?_⟩
        · intro q hq
          simp only [List.mem_cons,List.not_mem_nil,or_false] at hq
          rcases hq with rfl | rfl | rfl | rfl | rfl | rfl | rfl | rfl | rfl | rfl | rfl | rfl | rfl | rfl | rfl | rfl | rfl | rfl <;> first | exact .inl rfl | exact .inr (by simp [bnd,bndL])
        · intro b x hx
          match b,hx with
          | 0,hx=>cases hx; intro v hv; rw [List.mem_singleton] at hv; subst hv; exact .inr (by simp [encG,bnd,bndL])
          | 1,hx =>
            cases hx
            intro v hv
            obtain ⟨z,_,rfl⟩:=List.mem_map.1 hv
            exact .inr (by simp [encX,bnd,bndL])
          | b+2,hx=>simp at hx
        · have hX:(l.map encX).map (sealV 2 (.imap .own [] []))=l.map encX:=by rw [List.map_map]; rfl
          have hb:bndL (l.map encX)=0:=encX_bnd l
          simp only [List.map_cons,List.map_nil,sealB,bX,hX,hb]
          rfl
      refine Trip.seq hc2 ?_ (fun x e1 H1 hx q=>absurd q.1 hx)
      rintro e1 H1 ⟨_,rfl,rfl⟩
      have gg:=su_g_0 (gl.map encI) (R.map encR) [bG g,bX l] l.length (encS []) (y7:=.bool true) (y11:=Ud) (y12:=Ud) (y13:=Ud) (y14:=Ud) (y15:=Ud) (y32:=Ud) (y33:=Ud) (y34:=Ud) (y42:=Ud) (y57:=Ud)
      refine Trip.seq (Q1:=fun x e H=>x=.normal∧restr ksO e=suJ gl R l.length l.length (encS (sumS g l))∧H=[bG g,bX l]) ?_ ?_ (fun x e1 H1 hx q=>absurd q.1 hx)
      · refine Trip.seqR gg follows_mixed soundSl (by kernel_rfl) rfl ?_
        refine Trip.block ?_
        refine Trip.restrict ksO ?_
        refine Trip.loop (I:=fun k e H=>k ≤ l.length∧e=suJ gl R l.length (l.length - k) (encS (sumS g (l.take (l.length - k))))∧H=[bG g,bX l]) ?_ (n:=l.length) ⟨Nat.le_refl _,by rw [Nat.sub_self]; rfl,rfl⟩
        rintro k e H ⟨hk,rfl,rfl⟩
        cases k with
        | zero =>
          rw [Nat.sub_zero]
          have s1:=su_h_1 (gl.map encI) (R.map encR) [bG g,bX l] (encS (sumS g (l.take l.length))) l.length l.length (y7:=Ud) (y8:=Ud) (y11:=Ud) (y12:=Ud) (y13:=Ud) (y14:=Ud) (y15:=Ud) (y42:=Ud) (y57:=Ud) (by omega)
          have s2:=su_hf_0 (gl.map encI) (R.map encR) [bG g,bX l] (encS (sumS g (l.take l.length))) l.length l.length (y7:=Ud) (y8:=Ud) (y11:=Ud) (y12:=Ud) (y13:=Ud) (y14:=Ud) (y15:=Ud) (y42:=Ud) (y57:=Ud)
          have hcb:sub [1,1,1,1,1,1,0,1,0,0] B39=.seq (sub [1,1,1,1,1,1,0,1,0,0,0] B39) (.seq (sub [1,1,1,1,1,1,0,1,0,0,1,0] B39) (sub [1,1,1,1,1,1,0,1,0,0,1,1] B39)):=by kernel_rfl
          rw [hcb]
          refine Trip.restrict (polSl.keys 39) ?_
          refine Trip.seqR s1 follows_mixed soundSl (by kernel_rfl) rfl ?_
          refine Trip.seq (Trip.run follows_mixed soundSl (by kernel_rfl) s2) (fun e1 H1 q=>absurd q.1 (by simp)) ?_
          rintro x e1 H1 _ ⟨rfl,rfl,rfl⟩
          exact ⟨rfl,by rw [List.take_length]; rfl,rfl⟩
        | succ p =>
          have hlt:l.length - (p+1) < l.length:=by omega
          have hF2:∀ y ∈ sumS g (l.take (l.length - (p+1))),elOk g y:=sumS_ok hgo _ fun x hx=>k1 x (List.mem_of_mem_take hx)
          have hb:=su_body (gl:=gl) (R:=R) hgo k1 (q:=l.length) (i:=l.length - (p+1)) rfl hlt (by omega) hF2
          refine hb.mono ?_
          rintro x e H ⟨rfl,rfl,rfl⟩
          refine ⟨p,ksO,2,by omega,by simp [suJ,ksO,HL.restr,bndE,bnd,bndL,Env.get,encS],⟨by omega,?_,?_⟩⟩
          · have e1:l.length - (p+1)+1=l.length - p:=by omega
            have e2:l.take (l.length - p)=l.take (l.length - (p+1)) ++ [l.getD (l.length - (p+1)) (0,0)]:=by
              rw [← e1,List.take_add_one]; simp [List.getD,List.getElem?_eq_getElem hlt]
            rw [e1,e2,sumS_app]; rfl
          · unfold gc
            exact List.take_of_length_le (by simp only [List.length_cons,List.length_nil]; omega)
      · rintro e1 H1 ⟨_,he1,rfl⟩
        refine Trip.restrict ksO ?_
        rw [he1]
        refine Trip.restrict (polSl.keys 39) ?_
        have o:=su_o_0 (gl.map encI) (R.map encR) g.1 g.2.1 g.2.2 (l.map encX) (encS (sumS g l)) (y7:=Ud) (y8:=Ud) (y11:=Ud) (y12:=Ud) (y13:=Ud) (y14:=Ud) (y15:=Ud) (y32:=.sl 1 0 l.length none l.length 2) (y33:=.int .i64 (l.length:Int)) (y34:=.int .i64 (l.length:Int)) (y42:=Ud) (y57:=Ud)
        refine Trip.seqR o follows_mixed soundSl (by kernel_rfl) rfl ?_
        refine Trip.seq (su_lastD (gl:=gl) (R:=R) (l:=l) (g:=g) hr (F:=sumS g l) (by omega) (s:=gl.length) (fun y=>by have:=lst_len c y; rw [show grG gl=g from hgg] at this; exact this) (.sl 1 0 l.length none l.length 2) (.int .i64 (l.length:Int)) (.int .i64 (l.length:Int))) ?_ ?_
        · rintro e2 H2 ⟨_,ys,Bk,hO,hB,he2,rfl⟩
          refine Trip.restrict (polSl.keys 39) ?_
          rw [he2]
          have hlen:∀ y,(lstT g y).length=gl.length:=fun y=>by have:=lst_len c y; rw [show grG gl=g from hgg] at this; exact this
          have hOl:ys.length ≤ 60000:=by rw [hO.length_eq]; omega
          have hH:(dHp g l gl.length (mD ys.length) Bk ys [])[2]?=some (.arr 1 (((List.range ys.length).map fun i=>5+2 * i).map (encD gl.length (mD ys.length))) true (mD ys.length)):=by
            show some (Blk.arr 1 (rowRefs gl.length ys.length) true (mD ys.length))=_
            rw [List.map_map]
            refine congrArg (fun x=>some (Blk.arr 1 x true _)) ?_
            refine List.map_congr_left fun i hi=>?_
            rw [List.mem_range] at hi
            have:5+2 * i < mD ys.length:=by unfold mD; split <;> omega
            simp only [Function.comp,encD,clD_eq this]
          have hrow:∀ b ∈ (List.range ys.length).map (fun i=>5+2 * i),domD (fun b=>lstT g (ys.getD ((b - 5) / 2) (0,0))) gl.length (mD ys.length) (dHp g l gl.length (mD ys.length) Bk ys []) 2 b:=by
            intro b hb
            obtain ⟨i,hi,rfl⟩:=List.mem_map.1 hb
            rw [List.mem_range] at hi
            have h1:5+2 * i < mD ys.length:=by unfold mD; split <;> omega
            refine ⟨h1,by omega,hlen _,?_⟩
            have:=pairB_row g ys i hi
            rw [show 5+2 * i=(2 * i+1)+1+1+1+1 by omega]
            simp only [dHp,List.getElem?_cons_succ,List.append_nil,this]
            rw [show (2 * i+1+1+1+1+1 - 5) / 2=i by omega]
          obtain ⟨l',q1,q2,q3⟩:=sortD_ok (grp_s c) (cap:=none) (n:=ys.length) hOl (by simp) hH (by
            rw [dHp_mx hB,dHp_len]
            show max (mD ys.length) 0 ≤ _
            unfold mD; split <;> omega) hrow
          obtain ⟨N,hN⟩:=q1.from
          have z:=su_z_0 N ys.length (dHp g l gl.length (mD ys.length) Bk ys []) (y0:=.imm .arg 1 (gl.map encI)) (y1:=.imm .arg 1 (R.map encR)) (y6:=.ptr 0 0 0 1) (y7:=Ud) (y8:=Ud) (y9:=Ud) (y11:=Ud) (y12:=Ud) (y13:=Ud) (y15:=Ud) (y32:=Ud) (y33:=Ud) (y34:=Ud) (y42:=Ud) (y57:=.ptr 3 0 0 0) hN
          refine (Trip.run follows_mixed soundSl (by kernel_rfl) z).mono ?_
          rintro X e H ⟨rfl,rfl,rfl⟩
          have hmap:(((List.range ys.length).map fun i=>5+2 * i).map fun b=>lstT g (ys.getD ((b - 5) / 2) (0,0)))=ys.map (lstT g):=by
            apply List.ext_getElem
            · simp
            · intro i h1 h2
              simp only [List.getElem_map,List.getElem_range]
              rw [show (5+2 * i - 5) / 2=i by omega]
              simp at h2
              simp [List.getD,List.getElem?_eq_getElem h2]
          have hl':l'.map (fun b=>lstT g (ys.getD ((b - 5) / 2) (0,0)))=sumsL gl (sumS g l):=by
            refine sums_sorted c (F:=sumS g l) (by rw [show grG gl=g from hgg]; exact hFo) hFn ((q2.map _).trans ?_) ?_
            · rw [hmap,show grG gl=g from hgg]
              exact hO.map _
            · intro i j h1 h2 h3
              rw [List.length_map] at h3
              have:=q3 i j h1 h2 h3
              have e:∀ k,k < l'.length → at_ (l'.map fun b=>lstT g (ys.getD ((b - 5) / 2) (0,0))) k=lstT g (ys.getD ((at_ l' k - 5) / 2) (0,0)):=fun k hk=>by simp [at_,List.getD,List.getElem?_eq_getElem hk]
              rw [e i (by omega),e j h3]
              exact this
          have hnd:l'.Nodup:=q2.nodup_iff.2 (by
            exact List.pairwise_map.2 (List.Pairwise.imp (fun {a b} h=>by omega) (List.nodup_range (n:=ys.length))))
          refine ⟨by simp,.tuple [.sl 2 0 ys.length none ys.length 1,.int .i64 0],by simp only [resultsV,res39]; rfl,?_⟩
          have e2:l'.map (encD gl.length (mD ys.length))=l'.map fun b=>HV.sl b 0 gl.length none gl.length 1:=List.map_congr_left fun b hb=>by
            have:=(hrow b (q2.mem_iff.1 hb)).1
            simp only [encD,clD_eq this]
          have:=toRes_deep (H:=(dHp g l gl.length (mD ys.length) Bk ys []).set 2 (.arr 1 (l'.map (encD gl.length (mD ys.length))) true (mD ys.length))) (db:=2) (n:=ys.length) (s:=gl.length) (m:=mD ys.length) (row:=fun b=>lstT g (ys.getD ((b - 5) / 2) (0,0))) (l':=l')
            (by rw [e2]; rfl) (by rw [q2.length_eq]; simp) hnd (fun b hb=>by
              obtain ⟨_,h2,h3,h4⟩:=hrow b (q2.mem_iff.1 hb)
              exact ⟨h2,h3,by rw [List.getElem?_set_ne (fun e=>h2 e.symm)]; exact h4⟩) 0
          rw [this,hl']
        · rintro X e1 H1 hX ⟨h,_⟩
          exact absurd h hX
end Go.Proofs.Ytaibmipamkaljaa
end
section
namespace Go.Proofs.Ytaibmipamkaljaa
namespace Ol
abbrev V:=Int × Int × Int
def vadd (a b:V):V:=(a.1+b.1,a.2.1+b.2.1,a.2.2+b.2.2)
theorem vadd_rc (x a d:V):vadd (vadd x d) a=vadd (vadd x a) d:=by
  simp only [vadd]; refine Prod.ext (by show x.1+d.1+a.1=x.1+a.1+d.1; omega) (Prod.ext (by show x.2.1+d.2.1+a.2.1=x.2.1+a.2.1+d.2.1; omega) (by show x.2.2+d.2.2+a.2.2=x.2.2+a.2.2+d.2.2; omega))
theorem vadd_assoc (a b c:V):vadd (vadd a b) c=vadd a (vadd b c):=by
  simp only [vadd]; refine Prod.ext (by show a.1+b.1+c.1=a.1+(b.1+c.1); omega) (Prod.ext (by show a.2.1+b.2.1+c.2.1=a.2.1+(b.2.1+c.2.1); omega) (by show a.2.2+b.2.2+c.2.2=a.2.2+(b.2.2+c.2.2); omega))
theorem vadd_zero (a:V):vadd a (0,0,0)=a:=by simp [vadd]
theorem zero_vadd (a:V):vadd (0,0,0) a=a:=by simp [vadd]
def Dg:Nat → (V → Int) → Prop
  | 0,f=>∀ x,f x=0
  | k+1,f=>∀ h,Dg k (fun x=>f (vadd x h) - f x)
theorem Dg.congr {k:Nat} {f g:V → Int} (hf:Dg k f) (h:∀ x,f x=g x):Dg k g:=by
  have:f=g:=funext h
  exact this ▸ hf
theorem Dg.succ:∀ {k:Nat} {f:V → Int},Dg k f → Dg (k+1) f
  | 0,f,h=>fun d x=>by show f _ - f x=0; rw [h,h]; rfl
  | _+1,_,h=>fun d=>Dg.succ (h d)
theorem Dg.le {k m:Nat} {f:V → Int} (h:Dg k f) (hk:k ≤ m):Dg m f:=by
  induction hk with
  | refl=>exact h
  | step _ ih=>exact ih.succ
theorem Dg.add:∀ {k:Nat} {f g:V → Int},Dg k f → Dg k g → Dg k (fun x=>f x+g x)
  | 0,f,g,h1,h2=>fun x=>by show f x+g x=0; rw [h1,h2]; rfl
  | k+1,f,g,h1,h2=>fun d=>((h1 d).add (h2 d)).congr fun x=>by
    show f _ - f x+(g _ - g x)=f _+g _ - (f x+g x); omega
theorem Dg.shift:∀ {k:Nat} {f:V → Int} (a:V),Dg k f → Dg k (fun x=>f (vadd x a))
  | 0,f,a,h=>fun x=>h _
  | k+1,f,a,h=>fun d=>(Dg.shift a (h d)).congr fun x=>by
    show f (vadd (vadd x a) d) - f (vadd x a)=f (vadd (vadd x d) a) - f (vadd x a)
    rw [vadd_rc]
theorem Dg.mulA:∀ (n:Nat) {a b:Nat} {f g:V → Int},a+b ≤ n → Dg a f → Dg b g → Dg (a+b - 1) (fun x=>f x * g x)
  | n,0,b,f,g,_,h1,_=>Dg.le (k:=0) (fun x=>by show f x * g x=0; rw [h1 x,Int.zero_mul]) (Nat.zero_le _)
  | n,a+1,0,f,g,_,_,h2=>Dg.le (k:=0) (fun x=>by show f x * g x=0; rw [h2 x,Int.mul_zero]) (Nat.zero_le _)
  | 0,a+1,b+1,f,g,hn,_,_=>by omega
  | n+1,a+1,b+1,f,g,hn,h1,h2=>by
    rw [show a+1+(b+1) - 1=(a+b)+1 by omega]
    intro d
    have p:=Dg.mulA n (a:=a+1) (b:=b) (by omega) (h1.shift d) (h2 d)
    have q:=Dg.mulA n (a:=a) (b:=b+1) (by omega) (h1 d) h2
    rw [show a+1+b - 1=a+b by omega] at p
    rw [show a+(b+1) - 1=a+b by omega] at q
    exact (p.add q).congr fun x=>by
      show f (vadd x d) * (g (vadd x d) - g x)+(f (vadd x d) - f x) * g x=f (vadd x d) * g (vadd x d) - f x * g x
      rw [Int.mul_sub,Int.sub_mul]; omega
theorem Dg.mul {a b:Nat} {f g:V → Int} (h1:Dg a f) (h2:Dg b g):Dg (a+b - 1) (fun x=>f x * g x):=Dg.mulA _ (Nat.le_refl _) h1 h2
theorem Dg.const (c:Int):Dg 1 (fun _=>c):=fun d x=>by show c - c=0; omega
theorem Dg.co (f:V → Int) (h:∀ x d,f (vadd x d)=f x+f d):Dg 2 f:=fun d e x=>by
  show f (vadd (vadd x e) d) - f (vadd x e) - (f (vadd x d) - f x)=0
  rw [h,h,h]; omega
theorem Dg.pow {f:V → Int} (h:Dg 2 f):∀ n:Nat,Dg (n+1) (fun x=>f x ^ n)
  | 0=>(Dg.const 1).congr fun x=>(Int.pow_zero _).symm
  | n+1=>by
    have:=(Dg.pow h n).mul h
    rw [show n+1+2 - 1=n+1+1 by omega] at this
    exact this.congr fun x=>(Int.pow_succ _ _).symm
theorem Dg.neg {k:Nat} {f:V → Int} (h:Dg k f):Dg k (fun x=>- f x):=by
  have:=(Dg.const (-1)).mul h
  rw [show 1+k - 1=k by omega] at this
  exact this.congr fun x=>by omega
def fa (f:V → Int) (p:Nat) (x:V):Int:=1 - f x ^ (p - 1)
theorem Dg.fa {f:V → Int} (h:Dg 2 f) {p:Nat} (hp:1 ≤ p):Dg p (fa f p):=by
  have h1:=(h.pow (p - 1)).neg
  rw [show p - 1+1=p by omega] at h1
  exact (((Dg.const 1).le hp).add h1).congr fun x=>by show 1+- (f x ^ (p - 1))=1 - f x ^ (p - 1); omega
def altS (f:V → Int):List V → V → Int
  | [],a=>f a
  | x :: l,a=>altS f l a - altS f l (vadd a x)
theorem altS_sub (f:V → Int) (d:V):∀ (l:List V) (a:V),altS (fun x=>f (vadd x d) - f x) l a=altS f l (vadd a d) - altS f l a
  | [],a=>rfl
  | x :: l,a=>by
    rw [altS,altS_sub f d l a,altS_sub f d l (vadd a x),altS,altS,vadd_rc a d x]; omega
theorem altS_zero:∀ (l:List V) (f:V → Int),Dg l.length f → ∀ a,altS f l a=0
  | [],f,h,a=>h a
  | x :: l,f,h,a=>by
    have:=altS_zero l _ (h x) a
    rw [altS_sub] at this
    rw [altS]; omega
def vsum:List V → V
  | []=>(0,0,0)
  | x :: l=>vadd x (vsum l)
theorem altS_none {f:V → Int} {p:Int} {Z:V → Prop} (hf:∀ y,¬ Z y → f y % p=0):∀ (l:List V) (a:V),(∀ s,s.Sublist l → ¬ Z (vadd a (vsum s))) → altS f l a % p=0
  | [],a,h=>by
    have:=h [] (List.Sublist.refl _)
    rw [vsum,vadd_zero] at this
    exact hf a this
  | x :: l,a,h=>by
    have h1:=altS_none hf l a (fun s hs=>h s (hs.cons x))
    have h2:=altS_none hf l (vadd a x) (fun s hs=>by
      have:=h (x :: s) (hs.cons_cons x)
      rwa [vsum,← vadd_assoc] at this)
    rw [altS,Int.sub_emod,h1,h2]; rfl
theorem altS_one {f:V → Int} {p:Int} {Z:V → Prop} (hf:∀ y,¬ Z y → f y % p=0) (h0:f (0,0,0) % p=1):∀ (l:List V),(∀ s,s.Sublist l → s ≠ [] → ¬ Z (vsum s)) → altS f l (0,0,0) % p=1 % p
  | [],h=>by rw [altS,← h0,Int.emod_emod]
  | x :: l,h=>by
    have h1:=altS_one hf h0 l (fun s hs=>h s (hs.cons x))
    have h2:=altS_none hf l (vadd (0,0,0) x) (fun s hs=>by
      have:=h (x :: s) (hs.cons_cons x) (by simp)
      rwa [zero_vadd])
    rw [altS,Int.sub_emod,h1,h2,Int.sub_zero,Int.emod_emod]
theorem some_zero {f:V → Int} {p:Int} {Z:V → Prop} (hf:∀ y,¬ Z y → f y % p=0) (h0:f (0,0,0) % p=1) (hp:2 ≤ p) {k:Nat} (hd:Dg k f) {l:List V} (hl:k ≤ l.length):∃ s,s.Sublist l∧s ≠ []∧Z (vsum s):=by
  refine Classical.byContradiction fun hn=>?_
  have h1:=altS_one hf h0 l (fun s hs h=>fun hz=>hn ⟨s,hs,h,hz⟩)
  rw [altS_zero l f (hd.le hl)] at h1
  rw [Int.emod_eq_of_lt (show (0:Int) ≤ 1 by omega) (by omega)] at h1
  simp at h1
def PL:List Nat:=[2,3,5,7,11,13,17,19,23]
theorem fermB:(PL.all fun p=>(List.range p).all fun r=>decide ((1 - ((r:Nat):Int) ^ (p - 1)) % (p:Int)=if r=0 then 1 else 0))=true:=by decide +kernel
theorem pow_mod (y p:Int):∀ n:Nat,(y ^ n) % p=((y % p) ^ n) % p
  | 0=>by rw [Int.pow_zero,Int.pow_zero]
  | n+1=>by
    have h:((y % p) ^ n * (y % p)) % p=(((y % p) ^ n % p) * (y % p)) % p:=by rw [Int.mul_emod,Int.emod_emod,Int.mul_emod ((y % p) ^ n % p),Int.emod_emod,Int.emod_emod]
    rw [Int.pow_succ,Int.pow_succ,Int.mul_emod,pow_mod y p n,h]
theorem PL_two {p:Nat} (hp:p ∈ PL):2 ≤ p:=by
  simp only [PL,List.mem_cons,List.mem_nil_iff,or_false] at hp; omega
theorem ferm {p:Nat} (hp:p ∈ PL) (y:Int):(1 - y ^ (p - 1)) % (p:Int)=if y % (p:Int)=0 then 1 else 0:=by
  have h2:=PL_two hp
  have b0:=Int.emod_nonneg y (show (p:Int) ≠ 0 by omega)
  have b1:=Int.emod_lt_of_pos y (show (0:Int) < p by omega)
  have h:=List.all_eq_true.1 (List.all_eq_true.1 fermB p hp) (y % (p:Int)).toNat (by rw [List.mem_range]; omega)
  have h:=of_decide_eq_true h
  rw [Int.toNat_of_nonneg b0] at h
  rw [Int.sub_emod,pow_mod,← Int.sub_emod,h]
  by_cases c:y % (p:Int)=0
  · rw [if_pos c,if_pos (by omega)]
  · rw [if_neg c,if_neg (by omega)]
theorem fa_mod {p:Nat} (hp:p ∈ PL) (f:V → Int) (x:V):fa f p x % (p:Int)=if f x % (p:Int)=0 then 1 else 0:=ferm hp (f x)
theorem mul_mod0 {a b p:Int} (h:a % p=0 ∨ b % p=0):(a * b) % p=0:=by
  rw [Int.mul_emod]
  rcases h with h | h <;> rw [h] <;> simp
theorem mul_mod1 {a b p:Int} (hp:2 ≤ p) (h1:a % p=1) (h2:b % p=1):(a * b) % p=1:=by
  rw [Int.mul_emod,h1,h2]; exact Int.emod_eq_of_lt (by omega) (by omega)
abbrev c1:V → Int:=fun x=>x.1
abbrev c2:V → Int:=fun x=>x.2.1
abbrev c3:V → Int:=fun x=>x.2.2
theorem Dc1:Dg 2 c1:=Dg.co _ fun _ _=>rfl
theorem Dc2:Dg 2 c2:=Dg.co _ fun _ _=>rfl
theorem Dc3:Dg 2 c3:=Dg.co _ fun _ _=>rfl
def s1 (L:List (Int × Int)):Int:=(L.map Prod.fst).sum
def s2 (L:List (Int × Int)):Int:=(L.map Prod.snd).sum
def emb (q:Int × Int):V:=(q.1,q.2,1)
theorem vsum_emb:∀ L:List (Int × Int),vsum (L.map emb)=(s1 L,s2 L,(L.length:Int))
  | []=>rfl
  | q :: L=>by
    rw [List.map_cons,vsum,vsum_emb L]
    simp only [vadd,emb,s1,s2,List.map_cons,List.sum_cons,List.length_cons]
    refine Prod.ext rfl (Prod.ext rfl ?_)
    show 1+(L.length:Int)=((L.length+1:Nat):Int)
    omega
theorem of_emb {L:List (Int × Int)} {Z:V → Prop} (h:∃ s,s.Sublist (L.map emb)∧s ≠ []∧Z (vsum s)):∃ s,s.Sublist L∧s ≠ []∧Z (s1 s,s2 s,(s.length:Int)):=by
  obtain ⟨s,h1,h2,h3⟩:=h
  obtain ⟨t,t1,rfl⟩:=List.sublist_map_iff.1 h1
  exact ⟨t,t1,fun e=>h2 (by rw [e]; rfl),by rwa [vsum_emb] at h3⟩
section
variable {p:Nat} (hp:p ∈ PL)
include hp
theorem two_D {L:List (Int × Int)} (hl:2 * p - 1 ≤ L.length):∃ s,s.Sublist L∧s ≠ []∧s1 s % p=0∧s2 s % p=0:=by
  have h2:=PL_two hp
  have z1:fa c1 p (0,0,0) % (p:Int)=1:=by rw [fa_mod hp]; exact if_pos (Int.zero_emod _)
  have z2:fa c2 p (0,0,0) % (p:Int)=1:=by rw [fa_mod hp]; exact if_pos (Int.zero_emod _)
  refine of_emb (Z:=fun v=>v.1 % p=0∧v.2.1 % p=0) (some_zero (Z:=fun v=>v.1 % p=0∧v.2.1 % p=0) (f:=fun x=>fa c1 p x * fa c2 p x) (p:=p) (fun y hy=>?_) (mul_mod1 (by omega) z1 z2) (by omega) (((Dc1.fa (by omega)).mul (Dc2.fa (p:=p) (by omega))).le (m:=2 * p - 1) (by omega)) (l:=L.map emb) (by rw [List.length_map]; exact hl))
  refine mul_mod0 ?_
  rw [fa_mod hp,fa_mod hp]
  by_cases a:y.1 % (p:Int)=0
  · exact .inr (by rw [if_neg (fun b=>hy ⟨a,b⟩)])
  · exact .inl (by rw [if_neg a])
theorem three_D {L:List (Int × Int)} (hl:3 * p - 2 ≤ L.length):∃ s,s.Sublist L∧s ≠ []∧s1 s % p=0∧s2 s % p=0∧(s.length:Int) % p=0:=by
  have h2:=PL_two hp
  have z1:fa c1 p (0,0,0) % (p:Int)=1:=by rw [fa_mod hp]; exact if_pos (Int.zero_emod _)
  have z2:fa c2 p (0,0,0) % (p:Int)=1:=by rw [fa_mod hp]; exact if_pos (Int.zero_emod _)
  have z3:fa c3 p (0,0,0) % (p:Int)=1:=by rw [fa_mod hp]; exact if_pos (Int.zero_emod _)
  refine of_emb (Z:=fun v=>v.1 % p=0∧v.2.1 % p=0∧v.2.2 % p=0) (some_zero (Z:=fun v=>v.1 % p=0∧v.2.1 % p=0∧v.2.2 % p=0) (f:=fun x=>fa c1 p x * fa c2 p x * fa c3 p x) (p:=p) (fun y hy=>?_) (mul_mod1 (by omega) (mul_mod1 (by omega) z1 z2) z3) (by omega) ((((Dc1.fa (by omega)).mul (Dc2.fa (p:=p) (by omega))).mul (Dc3.fa (p:=p) (by omega))).le (m:=3 * p - 2) (by omega)) (l:=L.map emb) (by rw [List.length_map]; exact hl))
  by_cases a:y.1 % (p:Int)=0
  · by_cases b:y.2.1 % (p:Int)=0
    · exact mul_mod0 (.inr (by rw [fa_mod hp,if_neg (fun c=>hy ⟨a,b,c⟩)]))
    · exact mul_mod0 (.inl (mul_mod0 (.inr (by rw [fa_mod hp,if_neg b]))))
  · exact mul_mod0 (.inl (mul_mod0 (.inl (by rw [fa_mod hp,if_neg a]))))
end
theorem sub_compl {α:Type}:∀ {s l:List α},s.Sublist l → ∃ t,t.Sublist l∧(s ++ t).Perm l:=by
  intro s l h
  induction h with
  | slnil=>exact ⟨[],List.Sublist.refl _,List.Perm.refl _⟩
  | cons a _ ih =>
    obtain ⟨t,h1,h2⟩:=ih
    exact ⟨a :: t,h1.cons_cons a,(List.perm_middle).trans (h2.cons a)⟩
  | cons_cons a _ ih =>
    obtain ⟨t,h1,h2⟩:=ih
    exact ⟨t,h1.cons a,h2.cons a⟩
theorem psum {l m:List Int} (h:l.Perm m):l.sum=m.sum:=by
  induction h with
  | nil=>rfl
  | cons x _ ih=>rw [List.sum_cons,List.sum_cons,ih]
  | swap x y l=>simp only [List.sum_cons]; omega
  | trans _ _ h1 h2=>rw [h1,h2]
theorem s1_perm {l m:List (Int × Int)} (h:l.Perm m):s1 l=s1 m:=psum (h.map _)
theorem s2_perm {l m:List (Int × Int)} (h:l.Perm m):s2 l=s2 m:=psum (h.map _)
theorem s1_app (l m:List (Int × Int)):s1 (l ++ m)=s1 l+s1 m:=by simp [s1]
theorem s2_app (l m:List (Int × Int)):s2 (l ++ m)=s2 l+s2 m:=by simp [s2]
theorem mod_diff {a b p:Int} (h:(a+b) % p=0) (h1:a % p=0):b % p=0:=by
  rw [Int.add_emod,h1,Int.zero_add,Int.emod_emod] at h; exact h
theorem eta {p:Nat} (hp:p ∈ PL) {L:List (Int × Int)} (hl:3 * p - 2 ≤ L.length):∃ s,s.Sublist L∧s ≠ []∧s.length ≤ p∧s1 s % p=0∧s2 s % p=0:=by
  have h2:=PL_two hp
  obtain ⟨s,a1,a2,a3,a4,a5⟩:=three_D hp (L:=L.take (3 * p - 2)) (by rw [List.length_take]; omega)
  have sl:=a1.length_le
  rw [List.length_take] at sl
  have sL:s.Sublist L:=a1.trans (List.take_sublist _ _)
  have s0:s.length ≠ 0:=fun e=>a2 (List.length_eq_zero_iff.1 e)
  by_cases c:s.length ≤ p
  · exact ⟨s,sL,a2,c,a3,a4⟩
  · have e2:s.length=2 * p:=by
      obtain ⟨k,hk⟩:=Int.dvd_of_emod_eq_zero a5
      have k1:1 < k:=by
        refine Int.lt_of_mul_lt_mul_left (a:=(p:Int)) ?_ (by omega)
        omega
      have k2:k < 3:=by
        refine Int.lt_of_mul_lt_mul_left (a:=(p:Int)) ?_ (by omega)
        omega
      have:k=2:=by omega
      subst this
      omega
    obtain ⟨t,b1,b2,b3,b4⟩:=two_D hp (L:=s.take (2 * p - 1)) (by rw [List.length_take]; omega)
    have tl:=b1.length_le
    rw [List.length_take] at tl
    have ts:t.Sublist s:=b1.trans (List.take_sublist _ _)
    by_cases d:t.length ≤ p
    · exact ⟨t,ts.trans sL,b2,d,b3,b4⟩
    · obtain ⟨r,r1,r2⟩:=sub_compl ts
      have rl:=r2.length_eq
      rw [List.length_append] at rl
      have q1:=s1_perm r2
      have q2:=s2_perm r2
      rw [s1_app] at q1
      rw [s2_app] at q2
      exact ⟨r,r1.trans sL,fun e=>by rw [e] at rl; simp at rl; omega,by omega,mod_diff (by rw [q1]; exact a3) b3,mod_diff (by rw [q2]; exact a4) b4⟩
theorem blocks {p E F:Nat} {Z:Int → Int → Prop} (hE:∀ L:List (Int × Int),E ≤ L.length → ∃ s,s.Sublist L∧s ≠ []∧s.length ≤ p∧Z (s1 s) (s2 s))
    (hF:∀ L:List (Int × Int),F ≤ L.length → ∃ s,s.Sublist L∧s ≠ []∧Z (s1 s) (s2 s)) (hEF:E ≤ p+F):∀ (K:Nat) (L:List (Int × Int)),p * K+F ≤ L.length →
    ∃ B:List (List (Int × Int)),B.length=K+1∧(∀ b ∈ B,b ≠ []∧Z (s1 b) (s2 b))∧∃ r,(B.flatten ++ r).Perm L
  | 0,L,hl=>by
    obtain ⟨s,h1,h2,h3⟩:=hF L (by omega)
    obtain ⟨t,t1,t2⟩:=sub_compl h1
    exact ⟨[s],rfl,fun b hb=>by rw [List.mem_singleton] at hb; rw [hb]; exact ⟨h2,h3⟩,t,by simpa using t2⟩
  | K+1,L,hl=>by
    rw [Nat.mul_succ] at hl
    obtain ⟨s,h1,h2,h3,h4⟩:=hE L (by omega)
    obtain ⟨t,t1,t2⟩:=sub_compl h1
    have tl:=t2.length_eq
    rw [List.length_append] at tl
    obtain ⟨B,b1,b2,r,b3⟩:=blocks hE hF hEF K t (by omega)
    refine ⟨s :: B,by simp [b1],fun b hb=>?_,r,?_⟩
    · rcases List.mem_cons.1 hb with rfl | hb
      · exact ⟨h2,h4⟩
      · exact b2 b hb
    · rw [List.flatten_cons,List.append_assoc]
      exact (List.Perm.append_left s b3).trans t2
theorem sub_of_perm' {α:Type}:∀ {l m:List α},l.Perm m → ∀ {s:List α},s.Sublist m → ∃ t:List α,t.Perm s∧t.Sublist l:=by
  intro l m h
  induction h with
  | nil=>intro s hs; exact ⟨s,.refl _,hs⟩
  | cons x _ ih =>
    intro s hs
    cases hs with
    | cons _ h=>obtain ⟨t,h1,h2⟩:=ih h; exact ⟨t,h1,h2.cons x⟩
    | cons_cons _ h=>obtain ⟨t,h1,h2⟩:=ih h; exact ⟨x :: t,h1.cons x,h2.cons_cons x⟩
  | swap x y l =>
    intro s hs
    cases hs with
    | cons _ h =>
      cases h with
      | cons _ h=>exact ⟨s,.refl _,(h.cons x).cons y⟩
      | cons_cons _ h=>exact ⟨_,.refl _,(h.cons x).cons_cons y⟩
    | cons_cons _ h =>
      cases h with
      | cons _ h=>exact ⟨_,.refl _,(h.cons_cons x).cons y⟩
      | cons_cons _ h=>exact ⟨_,.swap _ _ _,(h.cons_cons x).cons_cons y⟩
  | trans _ _ h1 h2 =>
    intro s hs
    obtain ⟨t,t1,t2⟩:=h2 hs
    obtain ⟨u,u1,u2⟩:=h1 t2
    exact ⟨u,u1.trans t1,u2⟩
theorem sub_flat {α:Type} {C B:List (List α)} (h:C.Sublist B):C.flatten.Sublist B.flatten:=by
  induction h with
  | slnil=>exact List.Sublist.refl _
  | cons a _ ih=>rw [List.flatten_cons]; exact ih.trans (List.sublist_append_right _ _)
  | cons_cons a _ ih=>rw [List.flatten_cons,List.flatten_cons]; exact List.Sublist.append (List.Sublist.refl _) ih
def Dav (m n:Nat):Prop:=∀ L:List (Int × Int),m+n - 1 ≤ L.length → ∃ s,s.Sublist L∧s ≠ []∧s1 s % m=0∧s2 s % n=0
theorem s_flat {p:Int} (f:Int × Int → Int):∀ (B:List (List (Int × Int))),(∀ b ∈ B,((b.map f).sum) % p=0) → ((B.flatten).map f).sum=p * (B.map fun b=>(b.map f).sum / p).sum
  | [],_=>by simp
  | b :: B,h=>by
    have h1:=h b (by simp)
    have h2:=s_flat f B (fun c hc=>h c (by simp [hc]))
    rw [List.flatten_cons,List.map_append,List.sum_append,h2,List.map_cons,List.sum_cons,Int.mul_add]
    have:=Int.mul_ediv_add_emod ((b.map f).sum) p
    rw [h1] at this
    omega
theorem Dav.step {p m n:Nat} (hp:p ∈ PL) (hm:1 ≤ m) (hn:1 ≤ n) (h:Dav m n):Dav (p * m) (p * n):=by
  have h2:=PL_two hp
  intro L hl
  have hmn:p * m+p * n=p * (m+n - 2)+2 * p:=by
    have e:m+n=(m+n - 2)+2:=by omega
    generalize m+n - 2=k at *
    rw [← Nat.mul_add,e,Nat.mul_add]; omega
  obtain ⟨B,b1,b2,r,b3⟩:=blocks (p:=p) (E:=3 * p - 2) (F:=2 * p - 1) (Z:=fun a b=>a % p=0∧b % p=0) (fun L h=>eta hp h) (fun L h=>two_D hp h) (by omega) (m+n - 2) L (by omega)
  obtain ⟨s,q1,q2,q3,q4⟩:=h (B.map fun b=>(s1 b / p,s2 b / p)) (by rw [List.length_map]; omega)
  obtain ⟨C,e1,rfl⟩:=List.sublist_map_iff.1 q1
  have hC:∀ b ∈ C,b ≠ []∧s1 b % p=0∧s2 b % p=0:=fun b hb=>b2 b (e1.subset hb)
  have u:C.flatten.Sublist (B.flatten ++ r):=(sub_flat e1).trans (List.sublist_append_left _ _)
  obtain ⟨t,t1,t2⟩:=sub_of_perm' b3.symm u
  have f1:=s_flat (p:=(p:Int)) Prod.fst C (fun b hb=>(hC b hb).2.1)
  have f2:=s_flat (p:=(p:Int)) Prod.snd C (fun b hb=>(hC b hb).2.2)
  have g1:s1 t=p * s1 (C.map fun b=>(s1 b / p,s2 b / p)):=by
    rw [s1_perm t1]; show (C.flatten.map Prod.fst).sum=_
    rw [f1]; simp only [s1,List.map_map]; rfl
  have g2:s2 t=p * s2 (C.map fun b=>(s1 b / p,s2 b / p)):=by
    rw [s2_perm t1]; show (C.flatten.map Prod.snd).sum=_
    rw [f2]; simp only [s2,List.map_map]; rfl
  refine ⟨t,t2,fun e=>?_,?_,?_⟩
  · rw [e] at t1
    have hf:C.flatten=[]:=List.Perm.nil_eq t1 |>.symm
    cases C with
    | nil=>exact q2 rfl
    | cons b C =>
      rw [List.flatten_cons,List.append_eq_nil_iff] at hf
      exact (hC b (by simp)).1 hf.1
  · rw [g1]
    obtain ⟨k,hk⟩:=Int.dvd_of_emod_eq_zero q3
    rw [hk]; push_cast; rw [← Int.mul_assoc]; exact Int.mul_emod_right _ _
  · rw [g2]
    obtain ⟨k,hk⟩:=Int.dvd_of_emod_eq_zero q4
    rw [hk]; push_cast; rw [← Int.mul_assoc]; exact Int.mul_emod_right _ _
end Ol
end Go.Proofs.Ytaibmipamkaljaa
end
section
open Go Go.HL
namespace Go.Proofs.Ytaibmipamkaljaa
def sumG (g:Gr) (l:List El):El:=((l.map Prod.fst).sum % g.1,(l.map Prod.snd).sum % g.2.1)
theorem sumG_cons {g:Gr} (x:El) (l:List El):sumG g (x :: l)=addT g (sumG g l) x:=by
  simp only [sumG,addT,List.map_cons,List.sum_cons]
  rw [Int.emod_add_emod,Int.emod_add_emod,Int.add_comm x.1,Int.add_comm x.2]
theorem sumG_nil (g:Gr):sumG g []=(0,0):=by simp [sumG]
theorem rch_gen {g:Gr}:∀ (l:List El) (k:Int) (t:El),(k,t) ∈ (rchT g l).headD [] ↔ ∃ s:List El,s.Sublist l∧k=(s.length:Int)∧t=sumG g s
  | [],k,t=>by
    simp only [rchT,List.headD_cons,List.mem_singleton,List.sublist_nil]
    constructor
    · intro h
      exact ⟨[],rfl,congrArg Prod.fst h,(congrArg Prod.snd h).trans (sumG_nil g).symm⟩
    · rintro ⟨s,rfl,rfl,rfl⟩
      rw [sumG_nil]; rfl
  | x :: l,k,t=>by
    show (k,t) ∈ rchStep g x ((rchT g l).headD []) ↔ _
    rw [mem_step]
    constructor
    · rintro ⟨u,h1,h2⟩
      obtain ⟨s,hs,e1,e2⟩:=(rch_gen l u.1 u.2).1 h1
      rcases h2 with h2 | h2
      · subst h2; exact ⟨s,hs.cons x,e1,e2⟩
      · have a1:k=u.1+1:=congrArg Prod.fst h2
        have a2:t=addT g u.2 x:=congrArg Prod.snd h2
        exact ⟨x :: s,hs.cons_cons x,by rw [a1,e1]; simp,by rw [a2,e2,sumG_cons]⟩
    · rintro ⟨s,hs,e1,e2⟩
      cases hs with
      | cons _ h=>exact ⟨(k,t),(rch_gen l k t).2 ⟨s,h,e1,e2⟩,.inl rfl⟩
      | cons_cons _ h =>
        rename_i s'
        refine ⟨((s'.length:Int),sumG g s'),(rch_gen l _ _).2 ⟨s',h,rfl,rfl⟩,.inr ?_⟩
        rw [e1,e2,sumG_cons]
        simp only [rchW,List.length_cons]
        refine Prod.ext ?_ rfl
        show ((s'.length+1:Nat):Int)=(s'.length:Int)+1
        omega
end Go.Proofs.Ytaibmipamkaljaa
end
section
open Go Go.HL
namespace Go.Proofs.Ytaibmipamkaljaa
set_option maxRecDepth 100000
open Go.Proofs.Try renaming prog → Tp
open Go.HL.HV renaming undef → Ud
noncomputable def B33:Code:=Try.f33.body.getD .skip
abbrev env33 (v0 v2 v3 v4 v5:HV):Env:=[(0,v0),(2,v2),(3,v3),(4,v4),(5,v5)]
theorem tb_a_0 (rw:List HV) :RT pol 33 (sub [0] B33) [(0,.a rw)] [] .normal (env33 (.a rw) (.imm .lit 1 []) Ud Ud Ud) [] :=
  RunsTo.hin 0 60 [] fun kf hk=>⟨_,by kernel_rfl,.nil⟩
theorem tb_b_0 (rw:List HV)  {y3 y4 y5:HV}:RT pol 33 (sub [1,0] B33) (env33 (.a rw) (.imm .lit 1 []) y3 y4 y5) [] .normal (env33 (.a rw) (.imm .lit 1 []) (.s 0 0) y4 y5) [.b []] :=
  RunsTo.hin 0 60 [] fun kf hk=>⟨_,by kernel_rfl,.nil⟩
theorem tb_c_0 (rw:List HV) (p:Nat) (out:List HV) {y4 y5:HV}:RT pol 33 (sub [1,1,0,0] B33) (env33 (.a rw) (.imm .lit 1 []) (.s 0 p) y4 y5) [.b out] .normal (env33 (.a rw) (.imm .lit 1 []) (.s 0 p) (.i 0) y5) [.b out] :=
  RunsTo.hin 0 60 [] fun kf hk=>⟨_,by kernel_rfl,.nil⟩
theorem tb_d_0 (rw:List HV) (p:Nat) (out:List HV) (i m:Nat) {y5:HV} {l0:List HV} {l1:List HV} {w0:Bool} (g0:(i:Int) < (rw.length:Int)) (g1:(i:Int) ≤ 60) (g2:idxV Tp 35 (.a rw) (.i (i:Int))=some (.vptr (.a l0))) (g3:idxV Tp 35 (.a rw) (.i (i:Int))=some (.vptr (.a l1))) (g4:sliceV Tp 22 (.a l0) none (some (.i (min (l1.length:Int) 3))) none=some (.a (l0.take m))) (g5:appV [.b out,.b []] 1 8 (.s 1 0) (l0.take m)=some (.sl 1 0 ((l0.take m).length) none ((l0.take m).length) 1,[.b out,.arr 1 (l0.take m) true 0])) (g6:litV Tp true false 35 1 [(0,.sl 1 0 ((l0.take m).length) none ((l0.take m).length) 1)] [.b out,.arr 1 (l0.take m) true 0]=some (.imm .lit 1 [.imm .own 1 (l0.take m)],[.b out,.arr 1 (l0.take m) w0 0])) (g7:appV [.b out,.arr 1 (l0.take m) w0 0] 1 24 (.s 0 p) [.imm .own 1 (l0.take m)]=some (.sl 0 0 (p+1) none (p+1) 1,[.arr 1 (out ++ [.imm .own 1 (l0.take m)]) true 0,.arr 1 (l0.take m) w0 0])):RT pol 33 (sub [1,1,0,1,0,0] B33) (env33 (.a rw) (.imm .lit 1 []) (.s 0 p) (.i (i:Int)) y5) [.b out] .normal (env33 (.a rw) (.imm .lit 1 []) (.sl 0 0 (p+1) none (p+1) 1) (.i (IntKind.i64.wrap ((i:Int)+1))) (.s 1 0)) [.arr 1 (out ++ [.imm .own 1 (l0.take m)]) true 0,.arr 1 (l0.take m) w0 0] :=
  RunsTo.hin 0 60 [⟨3,3,.bool true,[.b out]⟩,⟨3,6,.bool true,[.b out]⟩,⟨6,4,.vptr (.a l0),[.b out,.b []]⟩,⟨6,8,.vptr (.a l1),[.b out,.b []]⟩,⟨6,12,.a (l0.take m),[.b out,.b []]⟩,⟨6,13,.sl 1 0 ((l0.take m).length) none ((l0.take m).length) 1,[.b out,.arr 1 (l0.take m) true 0]⟩,⟨6,14,.imm .lit 1 [.imm .own 1 (l0.take m)],[.b out,.arr 1 (l0.take m) w0 0]⟩,⟨6,15,.sl 0 0 (p+1) none (p+1) 1,[.arr 1 (out ++ [.imm .own 1 (l0.take m)]) true 0,.arr 1 (l0.take m) w0 0]⟩] fun kf hk=>⟨_,by kernel_rfl,(oB [.b out] (decide_eq_true g0) (oB [.b out] (decide_eq_true g1) (oP [.b out,.b []] g2 (oP [.b out,.b []] g3 (oP [.b out,.b []] g4 (oC (g5) (oC (g6) (oC (g7) .nil))))))))⟩
theorem tb_d_1 (rw:List HV) (p:Nat) (out:List HV) (i m:Nat) {y5:HV}(g0:(i:Int) < (rw.length:Int)) (g1:¬ ((i:Int) ≤ 60)):RT pol 33 (sub [1,1,0,1,0,0] B33) (env33 (.a rw) (.imm .lit 1 []) (.s 0 p) (.i (i:Int)) y5) [.b out] (.exit 0) (env33 (.a rw) (.imm .lit 1 []) (.s 0 p) (.i (i:Int)) y5) [.b out] :=
  RunsTo.hin 0 60 [⟨3,3,.bool true,[.b out]⟩,⟨3,6,.bool false,[.b out]⟩] fun kf hk=>⟨_,by kernel_rfl,(oB [.b out] (decide_eq_true g0) (oB [.b out] (decide_eq_false g1) .nil))⟩
theorem tb_d_2 (rw:List HV) (p:Nat) (out:List HV) (i m:Nat) {y5:HV}(g0:¬ ((i:Int) < (rw.length:Int))):RT pol 33 (sub [1,1,0,1,0,0] B33) (env33 (.a rw) (.imm .lit 1 []) (.s 0 p) (.i (i:Int)) y5) [.b out] (.exit 0) (env33 (.a rw) (.imm .lit 1 []) (.s 0 p) (.i (i:Int)) y5) [.b out] :=
  RunsTo.hin 0 60 [⟨3,3,.bool false,[.b out]⟩] fun kf hk=>⟨_,by kernel_rfl,(oB [.b out] (decide_eq_false g0) .nil)⟩
theorem tb_e_0 (rw:List HV) (p:Nat) (out:List HV) (i:Nat) {y5:HV}:RT pol 33 (sub [1,1,1] B33) (env33 (.a rw) (.imm .lit 1 []) (.s 0 p) (.i (i:Int)) y5) [.b out] .ret (env33 (.a rw) (.s 0 p) (.s 0 p) (.i (i:Int)) y5) [.b out] :=
  RunsTo.hin 0 60 [] fun kf hk=>⟨_,by kernel_rfl,.nil⟩
end Go.Proofs.Ytaibmipamkaljaa
end
section
open Go Go.HL
namespace Go.Proofs.Ytaibmipamkaljaa
open Go.Proofs.Try renaming prog → Tp
open Go.HL.HV renaming undef → Ud
def tabT (R:List (List Int)):List (List Int):=(R.take 61).map fun r=>r.take 3
def table33:List HV → Option HV:=rwF fun R=>some (.own 1 ((tabT R).map encO))
theorem res33:Try.f33.results.toList=[.tmp 2]:=by kernel_rfl
abbrev tbE (R:List (List Int)) (p i:Nat) (v5:HV):Env:=(env33 (.imm .arg 1 (R.map encR)) (.imm .lit 1 []) (.sl 0 0 p none p 1) (.int .i64 (i:Int)) v5)
abbrev bO3 (R:List (List Int)):Blk:=.arr 1 (R.map encO) true 0
theorem tb_out {R:List (List Int)}:∀ k i (out:List (List Int)),i+k=(R.take 61).length → out.length=i →
    ∃ i',RT pol 33 (sub [1,1,0,1,0] B33) (tbE R out.length i Ud) [bO3 out] (.exit 0) (tbE R (out ++ ((R.take 61).drop i).map fun r=>r.take 3).length i' Ud) [bO3 (out ++ ((R.take 61).drop i).map fun r=>r.take 3)]:=by
  intro k
  induction k with
  | zero =>
    intro i out hi ho
    rw [List.length_take] at hi
    rw [List.drop_of_length_le (by rw [List.length_take]; omega),List.map_nil,List.append_nil]
    by_cases h:i < R.length
    · have s:=tb_d_1 (R.map encR) out.length (out.map encO) i 0 (y5:=Ud) (by rw [List.length_map]; omega) (by omega)
      exact ⟨i,lpo (s) (c:=sub [1,1,0,1,0] B33)⟩
    · have s:=tb_d_2 (R.map encR) out.length (out.map encO) i 0 (y5:=Ud) (by rw [List.length_map]; omega)
      exact ⟨i,lpo (s) (c:=sub [1,1,0,1,0] B33)⟩
  | succ k ih =>
    intro i out hi ho
    have hi2:=hi
    rw [List.length_take] at hi2
    have hil:i < R.length:=by omega
    have hd:(R.take 61).drop i=R.getD i [] :: (R.take 61).drop (i+1):=by
      rw [List.drop_eq_getElem_cons (by omega)]
      simp [List.getD,List.getElem?_eq_getElem hil,List.getElem_take]
    have hmin:min (((R.getD i []).map encI).length:Int) 3=((min (R.getD i []).length 3:Nat):Int):=by rw [List.length_map]; omega
    have hw:((R.getD i []).map encI).take (min (R.getD i []).length 3)=((R.getD i []).take 3).map encI:=by rw [← List.map_take,take_min]
    have g4:sliceV Tp 22 (.imm .arg 1 ((R.getD i []).map encI)) none (some (.int .i64 (min (((R.getD i []).map encI).length:Int) 3))) none=some (.imm .arg 1 (((R.getD i []).map encI).take (min (R.getD i []).length 3))):=by
      rw [hmin]; exact slice_imm (by rw [List.length_map]; omega)
    have g5:appV [bO3 out,.arr 1 [] true 0] 1 8 (.sl 1 0 0 none 0 1) (((R.getD i []).take 3).map encI)=some (.sl 1 0 (((R.getD i []).take 3).map encI).length none (((R.getD i []).take 3).map encI).length 1,[bO3 out,.arr 1 (((R.getD i []).take 3).map encI) true 0]):=by
      by_cases h0:(R.getD i []).take 3=[]
      · rw [h0]; rfl
      · have hlen:((R.getD i []).take 3).length ≤ 3:=by rw [List.length_take]; omega
        have:=app_ints (H:=[bO3 out,bI []]) (b:=1) (o:=[]) (xs:=(R.getD i []).take 3) rfl (by simp; omega) h0
        rw [List.nil_append] at this
        rw [List.length_map]
        exact this
    obtain ⟨w,lt⟩:=lit_seal' (P:=Tp) (H:=[bO3 out,.arr 1 (((R.getD i []).take 3).map encI) true 0]) (t:=35) (e:=22) (k:=1) (b:=1) (p:=(((R.getD i []).take 3).map encI).length) (mx:=0) (bt:=24) (zv:=.imm .lit 0 []) (els:=((R.getD i []).take 3).map encI) u35 (by kernel_rfl) (by kernel_rfl) (by kernel_rfl) rfl rfl (ints_res _)
    have ap:=app_O (H:=[bO3 out,.arr 1 (((R.getD i []).take 3).map encI) w 0]) (b:=0) (R:=out) rfl (by omega) ((R.getD i []).take 3)
    have s:=tb_d_0 (R.map encR) out.length (out.map encO) i (min (R.getD i []).length 3) (y5:=Ud) (w0:=w) (by rw [List.length_map]; omega) (by omega) (gr hil) (gr hil) g4 (by rw [hw]; exact g5) (by rw [hw]; exact lt) (by rw [hw]; exact ap.trans (by simp only [List.map_append]; rfl))
    rw [hw,wrap_succ (by omega)] at s
    obtain ⟨i',nx⟩:=ih (i+1) (out ++ [(R.getD i []).take 3]) (by omega) (by simp; omega)
    have hgc:gc [bO3 out].length (bndE (tbE R (out.length+1) (i+1) Ud)) [.arr 1 (out.map encO ++ [.imm .own 1 (((R.getD i []).take 3).map encI)]) true 0,.arr 1 (((R.getD i []).take 3).map encI) w 0]=[bO3 (out ++ [(R.getD i []).take 3])]:=by
      have h1:bndE (tbE R (out.length+1) (i+1) Ud) ≤ 1:=by simp only [bndE,bnd]; decide
      unfold gc
      have h3:max [bO3 out].length (max (bndE (tbE R (out.length+1) (i+1) Ud)) (mxs [.arr 1 (out.map encO ++ [.imm .own 1 (((R.getD i []).take 3).map encI)]) true 0,.arr 1 (((R.getD i []).take 3).map encI) w 0]))=1:=by
        have:mxs [.arr 1 (out.map encO ++ [.imm .own 1 (((R.getD i []).take 3).map encI)]) true 0,.arr 1 (((R.getD i []).take 3).map encI) w 0]=0:=rfl
        rw [this]; simp only [List.length_cons,List.length_nil]; omega
      rw [h3]
      simp only [bO3,List.map_append]
      rfl
    refine ⟨i',?_⟩
    rw [hd,List.map_cons,List.append_cons]
    rw [List.length_append,List.length_singleton] at nx
    exact lop (s) hgc (nx)
theorem table_ok:PrimOk Tp 33 table33:=by
  refine primOk_pure (pol:=pol) (fn:=Try.f33) (cd:=B33) follows_mixed sound (by kernel_rfl) (by kernel_rfl) (fnok pol.prim _ _ (by kernel_rfl)) (by kernel_rfl) ?_
  intro args res h
  obtain ⟨R,rfl,hq⟩:=rwF_inv h
  clear h
  cases hq
  have a:=tb_a_0 (R.map encR)
  have b:=tb_b_0 (R.map encR) (y3:=Ud) (y4:=Ud) (y5:=Ud)
  have c:=tb_c_0 (R.map encR) 0 [] (y4:=Ud) (y5:=Ud)
  obtain ⟨i',lp⟩:=tb_out (R:=R) (R.take 61).length 0 [] (by omega) rfl
  rw [List.drop_zero,List.nil_append] at lp
  have z:=tb_e_0 (R.map encR) (tabT R).length ((tabT R).map encO) i' (y5:=Ud)
  have u:=sq (a) (sq (b) (sq (sq (c) (bke (c:=sub [1,1,0,1] B33) (lp)) (c:=sub [1,1,0] B33)) (z) (c:=sub [1,1] B33)) (c:=sub [1] B33)) (c:=B33)
  exact ⟨_,_,_,.sl 0 0 (tabT R).length none (tabT R).length 1,u,by simp,by simp only [resultsV,res33]; rfl,res_rs rfl rfl⟩
end Go.Proofs.Ytaibmipamkaljaa
end
section
open Go Go.HL
namespace Go.Proofs.Ytaibmipamkaljaa
open Go.Proofs.Try renaming prog → Tp
open Go.HL.HV renaming undef → Ud
theorem ints_at {pol':Pol} (hp:pol'.prim 17=some ints17) {a b:List Int} {v1 v2:HV} {H:Heap} (h1:argI H v1 a) (h2:argI H v2 b) (hl:a.length ≤ 1000) :
    ∀ k,callN Tp pol' (k+1) 17 [v1,v2] H=some (.bool (decide (a=b)),H):=fun k=>by
  have hd:mapO decI (a.map encI)=some a:=mapO_map decI_enc a
  have hd2:mapO decI (b.map encI)=some b:=mapO_map decI_enc b
  unfold argI at h1 h2
  rw [prim_call (pol:=pol') (g:=17) (F:=ints17) hp (rs:=[.imm .arg 1 (a.map encI),.imm .arg 1 (b.map encI)]) (by simp only [mapO,h1,h2]) (res:=.bool (decide (a=b))) (by simp only [ints17,llF,hd,hd2]; rw [if_pos hl])]
  rfl
end Go.Proofs.Ytaibmipamkaljaa
end
section
open Go Go.HL
namespace Go.Proofs.Ytaibmipamkaljaa
open Go.Proofs.Try renaming prog → Tp
open Go.HL.HV renaming undef → Ud
def argR (H:Heap) (v:HV) (R:List (List Int)):Prop:=toArg H 6 v=some (.imm .arg 1 (R.map encR))
theorem argR_imm (H:Heap) (R:List (List Int)):argR H (.imm .arg 1 (R.map encR)) R:=arg_rw H R
theorem argR_sl {H:Heap} {R:List (List Int)} {b m mx:Nat} (hm:R.length=m) (hb:H[b]?=some (.arr 1 (R.map encO) true mx)):argR H (.sl b 0 m none m 1) R:=arg_rs hm hb
theorem argI_sl {H:Heap} {l:List Int} {b m:Nat} (hm:l.length=m) (hb:H[b]?=some (bI l)):argI H (.sl b 0 m none m 1) l:=arg_sl hm hb
abbrev bR (R:List (List Int)):Blk:=.arr 1 (R.map encO) true 0
theorem list_at {pol':Pol} (hp:pol'.prim 14=some list14) {l:List Int} {v:HV} {H:Heap} (h1:argI H v l) :
    ∀ k,callN Tp pol' (k+1) 14 [v] H=some (.sl H.length 0 (l.take 110).length none (l.take 110).length 1,H ++ [bI (l.take 110)]):=fun k=>by
  have hd:mapO decI (l.map encI)=some l:=mapO_map decI_enc l
  unfold argI at h1
  rw [prim_call (pol:=pol') (g:=14) (F:=list14) hp (rs:=[.imm .arg 1 (l.map encI)]) (by simp only [mapO,h1]) (res:=.own 1 ((l.take 110).map encI)) (by simp only [list14,liF,hd]),recv_ints]
theorem table_at {pol':Pol} (hp:pol'.prim 33=some table33) {R:List (List Int)} {v:HV} {H:Heap} (h1:argR H v R) :
    ∀ k,callN Tp pol' (k+1) 33 [v] H=some (.sl H.length 0 (tabT R).length none (tabT R).length 1,H ++ [bR (tabT R)]):=fun k=>by
  have hd:mapO decR (R.map encR)=some R:=mapO_map decR_enc R
  unfold argR at h1
  rw [prim_call (pol:=pol') (g:=33) (F:=table33) hp (rs:=[.imm .arg 1 (R.map encR)]) (by simp only [mapO,h1]) (res:=.own 1 ((tabT R).map encO)) (by simp only [table33,rwF,hd]),recv_rows]
theorem list36_at {pol':Pol} (hp:pol'.prim 36=some list36) {gl:List Int} {R:List (List Int)} {v1 v2:HV} {H:Heap} (h1:argI H v1 gl) (h2:argR H v2 R) (hl:gl.length ≤ 1000∧R.length ≤ 1000) :
    ∀ k,callN Tp pol' (k+1) 36 [v1,v2] H=some (.bool (listB gl R),H):=fun k=>by
  have hd:mapO decI (gl.map encI)=some gl:=mapO_map decI_enc gl
  have hd2:mapO decR (R.map encR)=some R:=mapO_map decR_enc R
  unfold argI at h1
  unfold argR at h2
  rw [prim_call (pol:=pol') (g:=36) (F:=list36) hp (rs:=[.imm .arg 1 (gl.map encI),.imm .arg 1 (R.map encR)]) (by simp only [mapO,h1,h2]) (res:=.bool (listB gl R)) (by simp only [list36,lrF,hd,hd2]; rw [if_pos hl])]
  rfl
end Go.Proofs.Ytaibmipamkaljaa
end
section
open Go Go.HL
namespace Go.Proofs.Ytaibmipamkaljaa
theorem el_of_row {gl r:List Int} (h:rowOk gl r):elB gl r=true:=by
  simp only [elB,Bool.and_eq_true,decide_eq_true_eq,List.all_eq_true,List.mem_range,cellB]
  exact ⟨h.1,fun j hj=>h.2 j hj⟩
theorem rowsE_el {gl:List Int} {g:Gr} {e:Int} (h:GrL gl g e) (R:List (List Int)) (c:Int):∀ x ∈ rowsE gl R c,elB gl x=true:=by
  intro x hx
  obtain ⟨y,_,rfl⟩:=List.mem_map.1 hx
  exact el_of_row (row_ok h y)
theorem rowsE_len (gl:List Int) (R:List (List Int)) (c:Int):(rowsE gl R c).length ≤ c.toNat:=by
  simp only [rowsE,List.length_map,List.length_take]; omega
theorem shT_inv {g:Gr} {l:List El} {t:El}:∀ (f j:Nat),(shT g l t f j=none∧∀ k:Nat,j ≤ k → k < j+f → ((k:Int),t) ∉ (rchT g l).headD []) ∨
    ∃ o,j ≤ o∧o < j+f∧((o:Int),t) ∈ (rchT g l).headD []∧(∀ k:Nat,j ≤ k → k < o → ((k:Int),t) ∉ (rchT g l).headD [])∧shT g l t f j=some (partI g l ((o:Int),t))
  | 0,j=>.inl ⟨rfl,fun k h1 h2=>by omega⟩
  | f+1,j=>by
    by_cases c:((j:Int),t) ∈ (rchT g l).headD []
    · exact .inr ⟨j,Nat.le_refl _,by omega,c,fun k h1 h2=>by omega,by rw [shT,if_pos c]⟩
    · rcases shT_inv (g:=g) (l:=l) (t:=t) f (j+1) with ⟨h1,h2⟩ | ⟨o,h1,h2,h3,h4,h5⟩
      · refine .inl ⟨by rw [shT,if_neg c]; exact h1,fun k a b=>?_⟩
        by_cases e:k=j
        · rw [e]; exact c
        · exact h2 k (by omega) (by omega)
      · refine .inr ⟨o,by omega,by omega,h3,fun k a b=>?_,by rw [shT,if_neg c]; exact h5⟩
        by_cases e:k=j
        · rw [e]; exact c
        · exact h4 k (by omega) b
theorem zero_cases {gl:List Int} (hg:(newGroupT gl).2=true) {R:List (List Int)} (hR:∀ x ∈ R,elB gl x=true) (hl:R.length ≤ 60) :
    (zeroT gl R=([],6)∧∀ s:List El,s.Sublist (els gl R) → s ≠ [] → sumG (grG gl) s ≠ (0,0)) ∨
    ∃ o:Nat,1 ≤ o∧o ≤ R.length∧((o:Int),(0,0)) ∈ (rchT (grG gl) (els gl R)).headD []∧(∀ s:List El,s.Sublist (els gl R) → s ≠ [] → sumG (grG gl) s=(0,0) → o ≤ s.length)∧zeroT gl R=(partI (grG gl) (els gl R) ((o:Int),(0,0)),0):=by
  have e:=elems_B hg (listB_iff.2 ⟨hR,hl⟩)
  have ez:zeroT gl R=shP (shT (grG gl) (els gl R) (0,0) R.length 1):=by
    unfold zeroT
    rw [if_pos hg]
    unfold grG at e ⊢
    rw [e]
    simp only [els,List.length_map]
  have sl:∀ s:List El,s.Sublist (els gl R) → s ≠ [] → 1 ≤ s.length∧s.length ≤ R.length:=fun s hs h0=>by
    have:=hs.length_le
    simp only [els,List.length_map] at this
    exact ⟨by rcases s with _ | _; exact absurd rfl h0; simp,this⟩
  rcases shT_inv (g:=grG gl) (l:=els gl R) (t:=(0,0)) R.length 1 with ⟨h1,h2⟩ | ⟨o,h1,h2,h3,h4,h5⟩
  · refine .inl ⟨by rw [ez,h1]; rfl,fun s hs h0 hz=>?_⟩
    have:=sl s hs h0
    exact h2 s.length (by omega) (by omega) ((rch_gen _ _ _).2 ⟨s,hs,rfl,hz.symm⟩)
  · refine .inr ⟨o,h1,by omega,h3,fun s hs h0 hz=>?_,by rw [ez,h5]; rfl⟩
    have:=sl s hs h0
    rcases Nat.lt_or_ge s.length o with c | c
    · exact absurd ((rch_gen _ _ _).2 ⟨s,hs,rfl,hz.symm⟩) (h4 s.length (by omega) c)
    · exact c
section
variable {gl:List Int} {g:Gr} {e:Int} (h:GrL gl g e)
include h
theorem grG_eq:grG gl=g∧(newGroupT gl).2=true:=by
  have:=h.new
  exact ⟨by rw [grG,this],by rw [this]⟩
end
end Go.Proofs.Ytaibmipamkaljaa
end
section
open Go Go.HL
namespace Go.Proofs.Ytaibmipamkaljaa
open Go.Proofs.Try renaming prog → Tp
open Go.HL.HV renaming undef → Ud
theorem addT_comm (g:Gr) (x y:El):addT g x y=addT g y x:=by
  simp only [addT]; rw [Int.add_comm x.1,Int.add_comm x.2]
theorem sumsT_B {gl:List Int} (hg:(newGroupT gl).2=true) {R:List (List Int)} (h:listB gl R=true):sumsT gl R=(sumsL gl (sumS (grG gl) (els gl R)),0):=by
  have e:=elems_B hg h
  unfold sumsT
  rw [if_pos hg]
  unfold grG at e ⊢
  rw [e]
theorem sizeA_at {pol':Pol} (hp:pol'.prim 40=some size40) {l:List Int} {v:HV} {H:Heap} (h1:argI H v l) (hg:(newGroupT l).2=true):∀ k,callN Tp pol' (k+1) 40 [v] H=some (.int .i64 (sizeT l),H):=fun k=>by
  have hd:mapO decI (l.map encI)=some l:=mapO_map decI_enc l
  unfold argI at h1
  rw [prim_call (pol:=pol') (g:=40) (F:=size40) hp (rs:=[.imm .arg 1 (l.map encI)]) (by simp only [mapO,h1]) (res:=.int .i64 (sizeT l)) (by simp only [size40,liF,hd]; rw [if_pos hg])]
  rfl
end Go.Proofs.Ytaibmipamkaljaa
end
section
open Go Go.HL
namespace Go.Proofs.Ytaibmipamkaljaa
open Go.Proofs.Try renaming prog → Tp
open Go.HL.HV renaming undef → Ud
def freeL:List Int → List (List Int)
  | [m]=>List.replicate (m.toNat - 1) [1]
  | [a,b]=>List.replicate (a.toNat - 1) [1,0] ++ List.replicate (b.toNat - 1) [0,1]
  | _=>[]
def polFd:Pol:={ pol with prim:=prSl,freeze:=fun g r=>!(g == 42 && r == 12),deep:=fun g=>g == 42 }
theorem fnOk_polFd (g:FuncId) (fn:Func):fnOk polFd g fn=fnOk pol g fn:=rfl
theorem soundFd (n:Nat):CallSound Tp (callN Tp polFd n) :=
  callN_ok follows_mixed (fun g fn h=>by
    rw [fnOk_polFd]
    exact List.all_eq_true.1 fns_ok (fn,g) (by
      rw [List.mem_zipIdx_iff_getElem?]
      simpa using h)) prSl_ok n
noncomputable def freeQd (l:List Int):Option HV:=(callN Tp polFd 5000 42 [.imm .arg 1 (l.map encI)] []).bind fun p=>toRes p.2 true p.1
def frD (l:List Int):Option HV:=some (.tuple [.own 1 (rowsD (freeL l)),.int .i64 0])
def free42d:List HV → Option HV:=liF fun l=>if (newGroupT l).2=true then frD l else none
theorem ga2:freeQd [2]=frD [2]:=by kernel_rfl
theorem gb2_2:freeQd [2,2]=frD [2,2]:=by kernel_rfl
theorem gb2_4:freeQd [2,4]=frD [2,4]:=by kernel_rfl
theorem gb2_6:freeQd [2,6]=frD [2,6]:=by kernel_rfl
theorem gb2_8:freeQd [2,8]=frD [2,8]:=by kernel_rfl
theorem gb2_10:freeQd [2,10]=frD [2,10]:=by kernel_rfl
theorem gb2_12:freeQd [2,12]=frD [2,12]:=by kernel_rfl
theorem gb2_14:freeQd [2,14]=frD [2,14]:=by kernel_rfl
theorem gb2_16:freeQd [2,16]=frD [2,16]:=by kernel_rfl
theorem gb2_18:freeQd [2,18]=frD [2,18]:=by kernel_rfl
theorem gb2_20:freeQd [2,20]=frD [2,20]:=by kernel_rfl
theorem gb2_22:freeQd [2,22]=frD [2,22]:=by kernel_rfl
theorem gb2_24:freeQd [2,24]=frD [2,24]:=by kernel_rfl
theorem ga3:freeQd [3]=frD [3]:=by kernel_rfl
theorem gb3_3:freeQd [3,3]=frD [3,3]:=by kernel_rfl
theorem gb3_6:freeQd [3,6]=frD [3,6]:=by kernel_rfl
theorem gb3_9:freeQd [3,9]=frD [3,9]:=by kernel_rfl
theorem gb3_12:freeQd [3,12]=frD [3,12]:=by kernel_rfl
theorem gb3_15:freeQd [3,15]=frD [3,15]:=by kernel_rfl
theorem gb3_18:freeQd [3,18]=frD [3,18]:=by kernel_rfl
theorem gb3_21:freeQd [3,21]=frD [3,21]:=by kernel_rfl
theorem gb3_24:freeQd [3,24]=frD [3,24]:=by kernel_rfl
theorem ga4:freeQd [4]=frD [4]:=by kernel_rfl
theorem gb4_4:freeQd [4,4]=frD [4,4]:=by kernel_rfl
theorem gb4_8:freeQd [4,8]=frD [4,8]:=by kernel_rfl
theorem gb4_12:freeQd [4,12]=frD [4,12]:=by kernel_rfl
theorem gb4_16:freeQd [4,16]=frD [4,16]:=by kernel_rfl
theorem gb4_20:freeQd [4,20]=frD [4,20]:=by kernel_rfl
theorem gb4_24:freeQd [4,24]=frD [4,24]:=by kernel_rfl
theorem ga5:freeQd [5]=frD [5]:=by kernel_rfl
theorem gb5_5:freeQd [5,5]=frD [5,5]:=by kernel_rfl
theorem gb5_10:freeQd [5,10]=frD [5,10]:=by kernel_rfl
theorem gb5_15:freeQd [5,15]=frD [5,15]:=by kernel_rfl
theorem gb5_20:freeQd [5,20]=frD [5,20]:=by kernel_rfl
theorem ga6:freeQd [6]=frD [6]:=by kernel_rfl
theorem gb6_6:freeQd [6,6]=frD [6,6]:=by kernel_rfl
theorem gb6_12:freeQd [6,12]=frD [6,12]:=by kernel_rfl
theorem gb6_18:freeQd [6,18]=frD [6,18]:=by kernel_rfl
theorem gb6_24:freeQd [6,24]=frD [6,24]:=by kernel_rfl
theorem ga7:freeQd [7]=frD [7]:=by kernel_rfl
theorem gb7_7:freeQd [7,7]=frD [7,7]:=by kernel_rfl
theorem gb7_14:freeQd [7,14]=frD [7,14]:=by kernel_rfl
theorem ga8:freeQd [8]=frD [8]:=by kernel_rfl
theorem gb8_8:freeQd [8,8]=frD [8,8]:=by kernel_rfl
theorem gb8_16:freeQd [8,16]=frD [8,16]:=by kernel_rfl
theorem ga9:freeQd [9]=frD [9]:=by kernel_rfl
theorem gb9_9:freeQd [9,9]=frD [9,9]:=by kernel_rfl
theorem ga10:freeQd [10]=frD [10]:=by kernel_rfl
theorem gb10_10:freeQd [10,10]=frD [10,10]:=by kernel_rfl
theorem ga11:freeQd [11]=frD [11]:=by kernel_rfl
theorem gb11_11:freeQd [11,11]=frD [11,11]:=by kernel_rfl
theorem ga12:freeQd [12]=frD [12]:=by kernel_rfl
theorem gb12_12:freeQd [12,12]=frD [12,12]:=by kernel_rfl
theorem ga13:freeQd [13]=frD [13]:=by kernel_rfl
theorem ga14:freeQd [14]=frD [14]:=by kernel_rfl
theorem ga15:freeQd [15]=frD [15]:=by kernel_rfl
theorem ga16:freeQd [16]=frD [16]:=by kernel_rfl
theorem ga17:freeQd [17]=frD [17]:=by kernel_rfl
theorem ga18:freeQd [18]=frD [18]:=by kernel_rfl
theorem ga19:freeQd [19]=frD [19]:=by kernel_rfl
theorem ga20:freeQd [20]=frD [20]:=by kernel_rfl
theorem ga21:freeQd [21]=frD [21]:=by kernel_rfl
theorem ga22:freeQd [22]=frD [22]:=by kernel_rfl
theorem ga23:freeQd [23]=frD [23]:=by kernel_rfl
theorem ga24:freeQd [24]=frD [24]:=by kernel_rfl
theorem gq1 {a:Int} (h1:2 ≤ a) (h2:a ≤ 24):freeQd [a]=frD [a]:=by
  have:a=2 ∨ a=3 ∨ a=4 ∨ a=5 ∨ a=6 ∨ a=7 ∨ a=8 ∨ a=9 ∨ a=10 ∨ a=11 ∨ a=12 ∨ a=13 ∨ a=14 ∨ a=15 ∨ a=16 ∨ a=17 ∨ a=18 ∨ a=19 ∨ a=20 ∨ a=21 ∨ a=22 ∨ a=23 ∨ a=24:=by omega
  rcases this with rfl | rfl | rfl | rfl | rfl | rfl | rfl | rfl | rfl | rfl | rfl | rfl | rfl | rfl | rfl | rfl | rfl | rfl | rfl | rfl | rfl | rfl | rfl
  · exact ga2
  · exact ga3
  · exact ga4
  · exact ga5
  · exact ga6
  · exact ga7
  · exact ga8
  · exact ga9
  · exact ga10
  · exact ga11
  · exact ga12
  · exact ga13
  · exact ga14
  · exact ga15
  · exact ga16
  · exact ga17
  · exact ga18
  · exact ga19
  · exact ga20
  · exact ga21
  · exact ga22
  · exact ga23
  · exact ga24
theorem gq2 {a b:Int} (h1:2 ≤ a) (h2:a ≤ 24) (h3:2 ≤ b) (h4:b ≤ 24) (h5:a * b ≤ 144) (h6:b % a=0):freeQd [a,b]=frD [a,b]:=by
  have:a=2 ∨ a=3 ∨ a=4 ∨ a=5 ∨ a=6 ∨ a=7 ∨ a=8 ∨ a=9 ∨ a=10 ∨ a=11 ∨ a=12 ∨ a=13 ∨ a=14 ∨ a=15 ∨ a=16 ∨ a=17 ∨ a=18 ∨ a=19 ∨ a=20 ∨ a=21 ∨ a=22 ∨ a=23 ∨ a=24:=by omega
  rcases this with rfl | rfl | rfl | rfl | rfl | rfl | rfl | rfl | rfl | rfl | rfl | rfl | rfl | rfl | rfl | rfl | rfl | rfl | rfl | rfl | rfl | rfl | rfl
  · have:b=2 ∨ b=4 ∨ b=6 ∨ b=8 ∨ b=10 ∨ b=12 ∨ b=14 ∨ b=16 ∨ b=18 ∨ b=20 ∨ b=22 ∨ b=24:=by omega
    rcases this with rfl | rfl | rfl | rfl | rfl | rfl | rfl | rfl | rfl | rfl | rfl | rfl
    · exact gb2_2
    · exact gb2_4
    · exact gb2_6
    · exact gb2_8
    · exact gb2_10
    · exact gb2_12
    · exact gb2_14
    · exact gb2_16
    · exact gb2_18
    · exact gb2_20
    · exact gb2_22
    · exact gb2_24
  · have:b=3 ∨ b=6 ∨ b=9 ∨ b=12 ∨ b=15 ∨ b=18 ∨ b=21 ∨ b=24:=by omega
    rcases this with rfl | rfl | rfl | rfl | rfl | rfl | rfl | rfl
    · exact gb3_3
    · exact gb3_6
    · exact gb3_9
    · exact gb3_12
    · exact gb3_15
    · exact gb3_18
    · exact gb3_21
    · exact gb3_24
  · have:b=4 ∨ b=8 ∨ b=12 ∨ b=16 ∨ b=20 ∨ b=24:=by omega
    rcases this with rfl | rfl | rfl | rfl | rfl | rfl
    · exact gb4_4
    · exact gb4_8
    · exact gb4_12
    · exact gb4_16
    · exact gb4_20
    · exact gb4_24
  · have:b=5 ∨ b=10 ∨ b=15 ∨ b=20:=by omega
    rcases this with rfl | rfl | rfl | rfl
    · exact gb5_5
    · exact gb5_10
    · exact gb5_15
    · exact gb5_20
  · have:b=6 ∨ b=12 ∨ b=18 ∨ b=24:=by omega
    rcases this with rfl | rfl | rfl | rfl
    · exact gb6_6
    · exact gb6_12
    · exact gb6_18
    · exact gb6_24
  · have:b=7 ∨ b=14:=by omega
    rcases this with rfl | rfl
    · exact gb7_7
    · exact gb7_14
  · have:b=8 ∨ b=16:=by omega
    rcases this with rfl | rfl
    · exact gb8_8
    · exact gb8_16
  · have:b=9:=by omega
    subst this; exact gb9_9
  · have:b=10:=by omega
    subst this; exact gb10_10
  · have:b=11:=by omega
    subst this; exact gb11_11
  · have:b=12:=by omega
    subst this; exact gb12_12
  · omega
  · omega
  · omega
  · omega
  · omega
  · omega
  · omega
  · omega
  · omega
  · omega
  · omega
  · omega
theorem freeD_ok:PrimOk Tp 42 free42d:=by
  refine primOk_of (pol:=polFd) soundFd (by kernel_rfl) ?_
  intro args res h
  obtain ⟨l,rfl,hq⟩:=liF_inv h
  clear h
  split at hq
  case isFalse=>cases hq
  rename_i hg
  have fq:freeQd l=frD l:=by
    rcases grp_cases hg with ⟨a,rfl,h1,h2⟩ | ⟨a,b,rfl,h1,h2,h3,h4,h5,h6⟩
    · exact gq1 h1 h2
    · exact gq2 h1 h2 h3 h4 h5 h6
  rw [hq] at fq
  unfold freeQd at fq
  cases hc:callN Tp polFd 5000 42 [.imm .arg 1 (l.map encI)] [] with
  | none=>rw [hc] at fq; cases fq
  | some p=>rw [hc] at fq; exact ⟨5000,p.1,p.2,true,hc,fq⟩
end Go.Proofs.Ytaibmipamkaljaa
end
section
open Go Go.HL
namespace Go.Proofs.Ytaibmipamkaljaa
section
variable {gl:List Int} (hg:(newGroupT gl).2=true)
include hg
theorem free_el:∀ x ∈ freeL gl,elB gl x=true:=by
  rcases grp_cases hg with ⟨a,rfl,h1,h2⟩ | ⟨a,b,rfl,h1,h2,h3,h4,h5,h6⟩
  · intro x hx
    rw [List.eq_of_mem_replicate hx]
    exact el_mk1 ⟨by omega,by omega⟩
  · intro x hx
    rcases List.mem_append.1 hx with hx | hx
    · rw [List.eq_of_mem_replicate hx]; exact el_mk2 ⟨by omega,by omega⟩ ⟨by omega,by omega⟩
    · rw [List.eq_of_mem_replicate hx]; exact el_mk2 ⟨by omega,by omega⟩ ⟨by omega,by omega⟩
theorem free_els:els gl (freeL gl)=List.replicate ((grG gl).1 - 1).toNat ((1,0):El) ++ List.replicate ((grG gl).2.1 - 1).toNat (0,1):=by
  rcases grp_cases hg with ⟨a,rfl,h1,h2⟩ | ⟨a,b,rfl,h1,h2,h3,h4,h5,h6⟩
  · simp only [grG,new_one h1 h2]
    show (List.replicate (a.toNat - 1) [1]).map (eE [a])=_
    rw [List.map_replicate,show ((1:Int) - 1).toNat=0 by rfl,List.replicate_zero,List.append_nil,show (a - 1).toNat=a.toNat - 1 by omega]
    rfl
  · simp only [grG,new_two h1 h2 h3 h4 h5 h6]
    show (List.replicate (a.toNat - 1) ([1,0]:List Int) ++ List.replicate (b.toNat - 1) ([0,1]:List Int)).map (eE [a,b])=_
    have e1:eE [a,b] [1,0]=(1,0):=tE_two (u:=1) (v:=0) ⟨by omega,by omega⟩
    have e2:eE [a,b] [0,1]=(0,1):=tE_two (u:=0) (v:=1) ⟨by omega,by omega⟩
    rw [List.map_append,List.map_replicate,List.map_replicate,e1,e2,show (a - 1).toNat=a.toNat - 1 by omega,show (b - 1).toNat=b.toNat - 1 by omega]
theorem free_len:((freeL gl).length:Int)=(grG gl).1+(grG gl).2.1 - 2∧(freeL gl).length ≤ 46∧(∀ x ∈ freeL gl,x.length ≤ 2):=by
  have hk:=grG_ok hg
  have e:=congrArg List.length (free_els hg)
  simp only [els,List.length_map,List.length_append,List.length_replicate] at e
  refine ⟨by rw [e]; obtain ⟨⟨h1,_⟩,h2,_⟩:=hk; omega,?_,?_⟩
  · rcases grp_cases hg with ⟨a,rfl,h1,h2⟩ | ⟨a,b,rfl,h1,h2,h3,h4,h5,h6⟩
    · simp only [freeL,List.length_replicate]; omega
    · simp only [freeL,List.length_append,List.length_replicate]; omega
  · intro x hx
    rcases grp_cases hg with ⟨a,rfl,h1,h2⟩ | ⟨a,b,rfl,h1,h2,h3,h4,h5,h6⟩
    · rw [List.eq_of_mem_replicate hx]; decide
    · rcases List.mem_append.1 hx with hx | hx
      · rw [List.eq_of_mem_replicate hx]; decide
      · rw [List.eq_of_mem_replicate hx]; decide
end
end Go.Proofs.Ytaibmipamkaljaa
end
section
open Go Go.HL
namespace Go.Proofs.Ytaibmipamkaljaa
open Go.Proofs.Try renaming prog → Tp
open Go.HL.HV renaming undef → Ud
def prL46:FuncId → Option (List HV → Option HV):=fun g=>if g == 40 then some size40 else if g == 41 then some decoded41 else if g == 60 then some less60 else if g == 61 then some code61 else none
def polL46:Pol:={ pol with prim:=prL46 }
theorem soundL46 (n:Nat):CallSound Tp (callN Tp polL46 n):=sound_prim prL46 (fun g f h=>by
  unfold prL46 at h
  split at h
  · rename_i hg; cases h; rw [eq_of_beq hg]; exact size_ok
  split at h
  · rename_i hg; cases h; rw [eq_of_beq hg]; exact decoded_ok
  split at h
  · rename_i hg; cases h; rw [eq_of_beq hg]; exact less_ok
  split at h
  · rename_i hg; cases h; rw [eq_of_beq hg]; exact code_ok
  · cases h) n
end Go.Proofs.Ytaibmipamkaljaa
end
section
open Go Go.HL
namespace Go.Proofs.Ytaibmipamkaljaa
set_option maxRecDepth 100000
open Go.Proofs.Try renaming prog → Tp
open Go.HL.HV renaming undef → Ud
noncomputable def B46:Code:=Try.f46.body.getD .skip
abbrev env46 (v0 v1 v4 v5 v6 v7 v8 v9 v10:HV):Env:=[(0,v0),(1,v1),(4,v4),(5,v5),(6,v6),(7,v7),(8,v8),(9,v9),(10,v10)]
theorem ru_a_0 (l rw:List HV) :RT polL46 46 (sub [0] B46) [(0,.a l),(1,.a rw)] [] .normal (env46 (.a l) (.a rw) (.imm .lit 1 []) Ud Ud Ud Ud Ud Ud) [] :=
  RunsTo.hin 0 60 [] fun kf hk=>⟨_,by kernel_rfl,.nil⟩
theorem ru_b_0 (l rw:List HV)  (n:Nat) {y5 y6 y7 y8 y9 y10:HV} {sz0:Int} (g0:∀ kf,callN Tp polL46 (kf+1) 40 [.a l] []=some (.i sz0,[])) (g1:makeV Tp false 74 (.i sz0) (.i sz0) []=some (.o 0 n,[.arr 1 (List.replicate n (.bool false)) true 0])):RT polL46 46 (sub [1,0] B46) (env46 (.a l) (.a rw) (.imm .lit 1 []) y5 y6 y7 y8 y9 y10) [] .normal (env46 (.a l) (.a rw) (.imm .lit 1 []) (.o 0 n) y6 y7 y8 y9 y10) [.arr 1 (List.replicate n (.bool false)) true 0] :=
  RunsTo.hin 0 60 [⟨1,1,.i sz0,[]⟩,⟨1,2,.o 0 n,[.arr 1 (List.replicate n (.bool false)) true 0]⟩] fun kf hk=>⟨_,by kernel_rfl,(oC (g0 kf) (oC (g1) .nil))⟩
theorem ru_c_0 (l rw:List HV)  (H:Heap) (b n:Nat) {y6 y7 y8 y9 y10:HV}:RT polL46 46 (sub [1,1,0,0] B46) (env46 (.a l) (.a rw) (.imm .lit 1 []) (.o b n) y6 y7 y8 y9 y10) H .normal (env46 (.a l) (.a rw) (.imm .lit 1 []) (.o b n) (.i 0) y7 y8 y9 y10) H :=
  RunsTo.hin 0 60 [] fun kf hk=>⟨_,by kernel_rfl,.nil⟩
theorem ru_d_0 (l rw:List HV)  (H:Heap) (b n:Nat) (i:Nat) {y7 y8 y9 y10:HV}(g0:(i:Int) < (rw.length:Int)):RT polL46 46 (sub [1,1,0,1,0,0,0] B46) (env46 (.a l) (.a rw) (.imm .lit 1 []) (.o b n) (.i (i:Int)) y7 y8 y9 y10) H .normal (env46 (.a l) (.a rw) (.imm .lit 1 []) (.o b n) (.i (i:Int)) y7 y8 y9 y10) H :=
  RunsTo.hin 0 60 [⟨3,3,.bool true,H⟩] fun kf hk=>⟨_,by kernel_rfl,(oB H (decide_eq_true g0) .nil)⟩
theorem ru_d_1 (l rw:List HV)  (H:Heap) (b n:Nat) (i:Nat) {y7 y8 y9 y10:HV}(g0:¬ ((i:Int) < (rw.length:Int))):RT polL46 46 (sub [1,1,0,1,0,0,0] B46) (env46 (.a l) (.a rw) (.imm .lit 1 []) (.o b n) (.i (i:Int)) y7 y8 y9 y10) H (.exit 0) (env46 (.a l) (.a rw) (.imm .lit 1 []) (.o b n) (.i (i:Int)) y7 y8 y9 y10) H :=
  RunsTo.hin 0 60 [⟨3,3,.bool false,H⟩] fun kf hk=>⟨_,by kernel_rfl,(oB H (decide_eq_false g0) .nil)⟩
theorem ru_e_0 (l rw:List HV)  (H:Heap) (b c n i:Nat) {y7 y8 y9 y10:HV} {H0:Heap} (g0:makeV Tp false 74 (.i (n:Int)) (.i (n:Int)) H=some (.o c n,H0)):RT polL46 46 (sub [1,1,0,1,0,0,1,0,0,0] B46) (env46 (.a l) (.a rw) (.imm .lit 1 []) (.o b n) (.i (i:Int)) y7 y8 y9 y10) H .normal (env46 (.a l) (.a rw) (.imm .lit 1 []) (.o b n) (.i (i:Int)) (.o c n) y8 y9 y10) H0 :=
  RunsTo.hin 0 60 [⟨5,2,.o c n,H0⟩] fun kf hk=>⟨_,by kernel_rfl,(oC (g0) .nil)⟩
theorem ru_f_0 (l rw:List HV)  (H:Heap) (b c n i:Nat) {y8 y9 y10:HV}:RT polL46 46 (sub [1,1,0,1,0,0,1,0,0,1,0,0] B46) (env46 (.a l) (.a rw) (.imm .lit 1 []) (.o b n) (.i (i:Int)) (.o c n) y8 y9 y10) H .normal (env46 (.a l) (.a rw) (.imm .lit 1 []) (.o b n) (.i (i:Int)) (.o c n) (.i 0) y9 y10) H :=
  RunsTo.hin 0 60 [] fun kf hk=>⟨_,by kernel_rfl,.nil⟩
theorem ru_g_0 (l rw:List HV)  (H:Heap) (b c n i j:Nat) {y9 y10:HV} {H0:Heap} (g0:(j:Int) < (n:Int)) (g1:idxV Tp 74 (.o b n) (.i (j:Int))=some (.ptr b j 0 n)) (g2:loadV Tp H 4 (.ptr b j 0 n)=some (.bool true)) (g3:idxV Tp 74 (.o c n) (.i (j:Int))=some (.ptr c j 0 n)) (g4:storeV Tp H 4 (.ptr c j 0 n) (.bool true)=some H0):RT polL46 46 (sub [1,1,0,1,0,0,1,0,0,1,0,1,0,0] B46) (env46 (.a l) (.a rw) (.imm .lit 1 []) (.o b n) (.i (i:Int)) (.o c n) (.i (j:Int)) y9 y10) H .normal (env46 (.a l) (.a rw) (.imm .lit 1 []) (.o b n) (.i (i:Int)) (.o c n) (.i (IntKind.i64.wrap ((j:Int)+1))) y9 y10) H0 :=
  RunsTo.hin 0 60 [⟨7,3,.bool true,H⟩,⟨9,4,.ptr b j 0 n,H⟩,⟨9,5,.bool true,H⟩,⟨9,28,.ptr c j 0 n,H⟩,⟨9,29,.tuple [],H0⟩] fun kf hk=>⟨_,by kernel_rfl,(oB H (decide_eq_true g0) (oP H g1 (oP H g2 (oP H g3 (oS g4 .nil)))))⟩
theorem ru_g_1 (l rw:List HV)  (H:Heap) (b c n i j:Nat) {y9 y10:HV} {l0:List HV} {ls0:Int} {H0:Heap} (g0:(j:Int) < (n:Int)) (g1:idxV Tp 74 (.o b n) (.i (j:Int))=some (.ptr b j 0 n)) (g2:loadV Tp H 4 (.ptr b j 0 n)=some (.bool false)) (g3:idxV Tp 35 (.a rw) (.i (i:Int))=some (.vptr (.a l0))) (g4:∀ kf,callN Tp polL46 (kf+1) 60 [.a l,.i (j:Int),.a l0] H=some (.i ls0,H)) (g5:idxV Tp 74 (.o b n) (.i ls0)=some (.ptr b ((ls0).toNat) 0 n)) (g6:loadV Tp H 4 (.ptr b ((ls0).toNat) 0 n)=some (.bool true)) (g7:idxV Tp 74 (.o c n) (.i (j:Int))=some (.ptr c j 0 n)) (g8:storeV Tp H 4 (.ptr c j 0 n) (.bool true)=some H0):RT polL46 46 (sub [1,1,0,1,0,0,1,0,0,1,0,1,0,0] B46) (env46 (.a l) (.a rw) (.imm .lit 1 []) (.o b n) (.i (i:Int)) (.o c n) (.i (j:Int)) y9 y10) H .normal (env46 (.a l) (.a rw) (.imm .lit 1 []) (.o b n) (.i (i:Int)) (.o c n) (.i (IntKind.i64.wrap ((j:Int)+1))) y9 y10) H0 :=
  RunsTo.hin 0 60 [⟨7,3,.bool true,H⟩,⟨9,4,.ptr b j 0 n,H⟩,⟨9,5,.bool false,H⟩,⟨9,12,.vptr (.a l0),H⟩,⟨9,14,.i ls0,H⟩,⟨9,15,.ptr b ((ls0).toNat) 0 n,H⟩,⟨9,16,.bool true,H⟩,⟨9,28,.ptr c j 0 n,H⟩,⟨9,29,.tuple [],H0⟩] fun kf hk=>⟨_,by kernel_rfl,(oB H (decide_eq_true g0) (oP H g1 (oP H g2 (oP H g3 (oC (g4 kf) (oP H g5 (oP H g6 (oP H g7 (oS g8 .nil)))))))))⟩
theorem ru_g_2 (l rw:List HV)  (H:Heap) (b c n i j:Nat) {y9 y10:HV} {l0:List HV} {ls0:Int} {l1:List HV} {cd0:Int} {H0:Heap} (g0:(j:Int) < (n:Int)) (g1:idxV Tp 74 (.o b n) (.i (j:Int))=some (.ptr b j 0 n)) (g2:loadV Tp H 4 (.ptr b j 0 n)=some (.bool false)) (g3:idxV Tp 35 (.a rw) (.i (i:Int))=some (.vptr (.a l0))) (g4:∀ kf,callN Tp polL46 (kf+1) 60 [.a l,.i (j:Int),.a l0] H=some (.i ls0,H)) (g5:idxV Tp 74 (.o b n) (.i ls0)=some (.ptr b ((ls0).toNat) 0 n)) (g6:loadV Tp H 4 (.ptr b ((ls0).toNat) 0 n)=some (.bool false)) (g7:idxV Tp 35 (.a rw) (.i (i:Int))=some (.vptr (.a l1))) (g8:∀ kf,callN Tp polL46 (kf+1) 61 [.a l,.a l1] H=some (.i cd0,H)) (g9:cd0=(j:Int)) (g10:idxV Tp 74 (.o c n) (.i (j:Int))=some (.ptr c j 0 n)) (g11:storeV Tp H 4 (.ptr c j 0 n) (.bool true)=some H0):RT polL46 46 (sub [1,1,0,1,0,0,1,0,0,1,0,1,0,0] B46) (env46 (.a l) (.a rw) (.imm .lit 1 []) (.o b n) (.i (i:Int)) (.o c n) (.i (j:Int)) y9 y10) H .normal (env46 (.a l) (.a rw) (.imm .lit 1 []) (.o b n) (.i (i:Int)) (.o c n) (.i (IntKind.i64.wrap ((j:Int)+1))) y9 y10) H0 :=
  RunsTo.hin 0 60 [⟨7,3,.bool true,H⟩,⟨9,4,.ptr b j 0 n,H⟩,⟨9,5,.bool false,H⟩,⟨9,12,.vptr (.a l0),H⟩,⟨9,14,.i ls0,H⟩,⟨9,15,.ptr b ((ls0).toNat) 0 n,H⟩,⟨9,16,.bool false,H⟩,⟨9,22,.vptr (.a l1),H⟩,⟨9,24,.i cd0,H⟩,⟨9,26,.bool true,H⟩,⟨9,28,.ptr c j 0 n,H⟩,⟨9,29,.tuple [],H0⟩] fun kf hk=>⟨_,by kernel_rfl,(oB H (decide_eq_true g0) (oP H g1 (oP H g2 (oP H g3 (oC (g4 kf) (oP H g5 (oP H g6 (oP H g7 (oC (g8 kf) (oB H (decide_eq_true g9) (oP H g10 (oS g11 .nil))))))))))))⟩
theorem ru_g_3 (l rw:List HV)  (H:Heap) (b c n i j:Nat) {y9 y10:HV} {l0:List HV} {ls0:Int} {l1:List HV} {cd0:Int} {H0:Heap} (g0:(j:Int) < (n:Int)) (g1:idxV Tp 74 (.o b n) (.i (j:Int))=some (.ptr b j 0 n)) (g2:loadV Tp H 4 (.ptr b j 0 n)=some (.bool false)) (g3:idxV Tp 35 (.a rw) (.i (i:Int))=some (.vptr (.a l0))) (g4:∀ kf,callN Tp polL46 (kf+1) 60 [.a l,.i (j:Int),.a l0] H=some (.i ls0,H)) (g5:idxV Tp 74 (.o b n) (.i ls0)=some (.ptr b ((ls0).toNat) 0 n)) (g6:loadV Tp H 4 (.ptr b ((ls0).toNat) 0 n)=some (.bool false)) (g7:idxV Tp 35 (.a rw) (.i (i:Int))=some (.vptr (.a l1))) (g8:∀ kf,callN Tp polL46 (kf+1) 61 [.a l,.a l1] H=some (.i cd0,H)) (g9:¬ (cd0=(j:Int))) (g10:idxV Tp 74 (.o c n) (.i (j:Int))=some (.ptr c j 0 n)) (g11:storeV Tp H 4 (.ptr c j 0 n) (.bool false)=some H0):RT polL46 46 (sub [1,1,0,1,0,0,1,0,0,1,0,1,0,0] B46) (env46 (.a l) (.a rw) (.imm .lit 1 []) (.o b n) (.i (i:Int)) (.o c n) (.i (j:Int)) y9 y10) H .normal (env46 (.a l) (.a rw) (.imm .lit 1 []) (.o b n) (.i (i:Int)) (.o c n) (.i (IntKind.i64.wrap ((j:Int)+1))) y9 y10) H0 :=
  RunsTo.hin 0 60 [⟨7,3,.bool true,H⟩,⟨9,4,.ptr b j 0 n,H⟩,⟨9,5,.bool false,H⟩,⟨9,12,.vptr (.a l0),H⟩,⟨9,14,.i ls0,H⟩,⟨9,15,.ptr b ((ls0).toNat) 0 n,H⟩,⟨9,16,.bool false,H⟩,⟨9,22,.vptr (.a l1),H⟩,⟨9,24,.i cd0,H⟩,⟨9,26,.bool false,H⟩,⟨9,28,.ptr c j 0 n,H⟩,⟨9,29,.tuple [],H0⟩] fun kf hk=>⟨_,by kernel_rfl,(oB H (decide_eq_true g0) (oP H g1 (oP H g2 (oP H g3 (oC (g4 kf) (oP H g5 (oP H g6 (oP H g7 (oC (g8 kf) (oB H (decide_eq_false g9) (oP H g10 (oS g11 .nil))))))))))))⟩
theorem ru_g_4 (l rw:List HV)  (H:Heap) (b c n i j:Nat) {y9 y10:HV}(g0:¬ ((j:Int) < (n:Int))):RT polL46 46 (sub [1,1,0,1,0,0,1,0,0,1,0,1,0,0] B46) (env46 (.a l) (.a rw) (.imm .lit 1 []) (.o b n) (.i (i:Int)) (.o c n) (.i (j:Int)) y9 y10) H (.exit 2) (env46 (.a l) (.a rw) (.imm .lit 1 []) (.o b n) (.i (i:Int)) (.o c n) (.i (j:Int)) y9 y10) H :=
  RunsTo.hin 0 60 [⟨7,3,.bool false,H⟩] fun kf hk=>⟨_,by kernel_rfl,(oB H (decide_eq_false g0) .nil)⟩
theorem ru_h_0 (l rw:List HV)  (H:Heap) (b c n i:Nat) {y8 y9 y10:HV}:RT polL46 46 (sub [1,1,0,1,0,0,1,0,0,1,1] B46) (env46 (.a l) (.a rw) (.imm .lit 1 []) (.o b n) (.i (i:Int)) (.o c n) y8 y9 y10) H .normal (env46 (.a l) (.a rw) (.imm .lit 1 []) (.o c n) (.i (i:Int)) (.o c n) y8 y9 y10) H :=
  RunsTo.hin 0 60 [] fun kf hk=>⟨_,by kernel_rfl,.nil⟩
theorem ru_i_0 (l rw:List HV)  (H:Heap) (b n:Nat) (i:Nat) {y7 y8 y9 y10:HV}:RT polL46 46 (sub [1,1,0,1,0,0,1,1] B46) (env46 (.a l) (.a rw) (.imm .lit 1 []) (.o b n) (.i (i:Int)) y7 y8 y9 y10) H .normal (env46 (.a l) (.a rw) (.imm .lit 1 []) (.o b n) (.i (IntKind.i64.wrap ((i:Int)+1))) y7 y8 y9 y10) H :=
  RunsTo.hin 0 60 [] fun kf hk=>⟨_,by kernel_rfl,.nil⟩
theorem ru_j_0 (l rw:List HV)  (H:Heap) (b c n:Nat) {y6 y7 y8 y9 y10:HV} {H0:Heap} (g0:some (HV.sl H.length 0 0 none 0 1,H ++ [Blk.b []])=some (.s c 0,H0)):RT polL46 46 (sub [1,1,1,0] B46) (env46 (.a l) (.a rw) (.imm .lit 1 []) (.o b n) y6 y7 y8 y9 y10) H .normal (env46 (.a l) (.a rw) (.imm .lit 1 []) (.o b n) y6 y7 y8 (.s c 0) y10) H0 :=
  RunsTo.hin 0 60 [⟨11,0,.s c 0,H0⟩] fun kf hk=>⟨_,by kernel_rfl,(oC (g0) .nil)⟩
theorem ru_k_0 (l rw:List HV)  (H:Heap) (b c n z:Nat) {y6 y7 y8 y10:HV}:RT polL46 46 (sub [1,1,1,1,0,0] B46) (env46 (.a l) (.a rw) (.imm .lit 1 []) (.o b n) y6 y7 y8 (.s c z) y10) H .normal (env46 (.a l) (.a rw) (.imm .lit 1 []) (.o b n) y6 y7 y8 (.s c z) (.i 0)) H :=
  RunsTo.hin 0 60 [] fun kf hk=>⟨_,by kernel_rfl,.nil⟩
theorem ru_l_0 (l rw:List HV)  (H:Heap) (b c n z:Nat) (j nb z2:Nat) (lo:List HV) {y6 y7 y8:HV} {H0:Heap} {H1:Heap} {H2:Heap} (g0:(j:Int) < (n:Int)) (g1:idxV Tp 74 (.o b n) (.i (j:Int))=some (.ptr b j 0 n)) (g2:loadV Tp H 4 (.ptr b j 0 n)=some (.bool true)) (g3:∀ kf,callN Tp polL46 (kf+1) 41 [.a l,.i (j:Int)] H=some (.s nb z2,H0)) (g4:litV Tp true false 35 1 [(0,.s nb z2)] H0=some (.imm .lit 1 [.imm .own 1 lo],H1)) (g5:appV H1 1 24 (.s c z) [.imm .own 1 lo]=some (.sl c 0 (z+1) none (z+1) 1,H2)):RT polL46 46 (sub [1,1,1,1,0,1,0,0] B46) (env46 (.a l) (.a rw) (.imm .lit 1 []) (.o b n) y6 y7 y8 (.s c z) (.i (j:Int))) H .normal (env46 (.a l) (.a rw) (.imm .lit 1 []) (.o b n) y6 y7 y8 (.sl c 0 (z+1) none (z+1) 1) (.i (IntKind.i64.wrap ((j:Int)+1)))) H2 :=
  RunsTo.hin 0 60 [⟨13,3,.bool true,H⟩,⟨15,2,.ptr b j 0 n,H⟩,⟨15,3,.bool true,H⟩,⟨16,3,.s nb z2,H0⟩,⟨16,4,.imm .lit 1 [.imm .own 1 lo],H1⟩,⟨16,5,.sl c 0 (z+1) none (z+1) 1,H2⟩] fun kf hk=>⟨_,by kernel_rfl,(oB H (decide_eq_true g0) (oP H g1 (oP H g2 (oC (g3 kf) (oC (g4) (oC (g5) .nil))))))⟩
theorem ru_l_1 (l rw:List HV)  (H:Heap) (b c n z:Nat) (j nb z2:Nat) (lo:List HV) {y6 y7 y8:HV}(g0:(j:Int) < (n:Int)) (g1:idxV Tp 74 (.o b n) (.i (j:Int))=some (.ptr b j 0 n)) (g2:loadV Tp H 4 (.ptr b j 0 n)=some (.bool false)):RT polL46 46 (sub [1,1,1,1,0,1,0,0] B46) (env46 (.a l) (.a rw) (.imm .lit 1 []) (.o b n) y6 y7 y8 (.s c z) (.i (j:Int))) H .normal (env46 (.a l) (.a rw) (.imm .lit 1 []) (.o b n) y6 y7 y8 (.s c z) (.i (IntKind.i64.wrap ((j:Int)+1)))) H :=
  RunsTo.hin 0 60 [⟨13,3,.bool true,H⟩,⟨15,2,.ptr b j 0 n,H⟩,⟨15,3,.bool false,H⟩] fun kf hk=>⟨_,by kernel_rfl,(oB H (decide_eq_true g0) (oP H g1 (oP H g2 .nil)))⟩
theorem ru_l_2 (l rw:List HV)  (H:Heap) (b c n z:Nat) (j nb z2:Nat) (lo:List HV) {y6 y7 y8:HV}(g0:¬ ((j:Int) < (n:Int))):RT polL46 46 (sub [1,1,1,1,0,1,0,0] B46) (env46 (.a l) (.a rw) (.imm .lit 1 []) (.o b n) y6 y7 y8 (.s c z) (.i (j:Int))) H (.exit 4) (env46 (.a l) (.a rw) (.imm .lit 1 []) (.o b n) y6 y7 y8 (.s c z) (.i (j:Int))) H :=
  RunsTo.hin 0 60 [⟨13,3,.bool false,H⟩] fun kf hk=>⟨_,by kernel_rfl,(oB H (decide_eq_false g0) .nil)⟩
theorem ru_m_0 (l rw:List HV)  (H:Heap) (b c n z:Nat) {y6 y7 y8 y10:HV}:RT polL46 46 (sub [1,1,1,1,1] B46) (env46 (.a l) (.a rw) (.imm .lit 1 []) (.o b n) y6 y7 y8 (.s c z) y10) H .ret (env46 (.a l) (.a rw) (.s c z) (.o b n) y6 y7 y8 (.s c z) y10) H :=
  RunsTo.hin 0 60 [] fun kf hk=>⟨_,by kernel_rfl,.nil⟩
end Go.Proofs.Ytaibmipamkaljaa
end
section
open Go Go.HL
namespace Go.Proofs.Ytaibmipamkaljaa
open Go.Proofs.Try renaming prog → Tp
open Go.HL.HV renaming undef → Ud
theorem res46:Try.f46.results.toList=[.tmp 4]:=by kernel_rfl
def rsums46:List HV → Option HV:=lrF fun gl R=>if (newGroupT gl).2=true∧listB gl R=true then some (.own 1 ((sumsL gl (sumS (grG gl) (els gl R))).map encO)) else none
theorem gc_get {base r i:Nat} {H:Heap} (h:i < base ∨ i < r):(gc base r H)[i]?=H[i]?:=by
  unfold gc
  rw [List.getElem?_take_of_lt (by omega)]
def BG (gl:List Int) (F:List El) (T:List Bool):Prop:=T.length=(sizeT gl).toNat∧∀ c:Nat,c < (sizeT gl).toNat → T.getD c false=decide (tE gl (c:Int) ∈ F)
section
variable {gl:List Int} (hg:(newGroupT gl).2=true)
include hg
theorem tE_injC {c d:Int} (hc:0 ≤ c∧c < sizeT gl) (hd:0 ≤ d∧d < sizeT gl) (h:tE gl c=tE gl d):c=d:=by
  have e1:=(code_dec hg hc).1
  have e2:=(code_dec hg hd).1
  rw [← lst_tE hg] at e1 e2
  rw [h] at e1
  omega
theorem next_iff {x:List Int} (hx:elB gl x=true) {F:List El} (hF:∀ y ∈ F,elOk (grG gl) y) {c:Int} (hc:0 ≤ c∧c < sizeT gl):tE gl c ∈ sStep (grG gl) (eE gl x) F ↔ tE gl c ∈ F ∨ tE gl (lessC gl c x) ∈ F ∨ codeT gl x=c:=by
  have hk:=grG_ok hg
  have hxe:=eE_ok hg hx
  rw [mem_sStep,tE_less hg hx]
  constructor
  · rintro (h | ⟨u,hu,h⟩)
    · exact .inr (.inr (tE_injC hg (code_bnd hg hx) hc h.symm))
    · rcases h with h | h
      · exact .inl (by rw [h]; exact hu)
      · refine .inr (.inl ?_)
        rw [h,addT_comm,sub_add hk hxe (hF u hu)]; exact hu
  · rintro (h | h | h)
    · exact .inr ⟨_,h,.inl rfl⟩
    · exact .inr ⟨_,h,.inr (by rw [addT_comm,add_subT hk (tE_ok hg hc)])⟩
    · exact .inl (by rw [eE,h])
end
section
variable {gl:List Int} {R:List (List Int)}
abbrev ruE (gl:List Int) (R:List (List Int)) (b n:Nat) (v6 v7 v8 v9 v10:HV):Env:=env46 (.imm .arg 1 (gl.map encI)) (.imm .arg 1 (R.map encR)) (.imm .lit 1 []) (.sl b 0 n (some n) n 1) v6 v7 v8 v9 v10
theorem stTb {H:Heap} {T:List Bool} {q c b:Nat} (hb:H[b]?=some (bT T)) (hq:T.length=q) (hc:c < q) (v:Bool):storeV Tp H 4 (.ptr b c 0 q) (.bool v)=some (H.set b (bT (T.set c v))):=by
  have hi:(T.map HV.bool)[c]?=some (.bool T[c]):=by rw [List.getElem?_map,List.getElem?_eq_getElem (by omega)]; rfl
  have:=store_elem (P:=Tp) (t:=4) (b:=b) (tot:=q) (v:=.bool v) (H:=H) hb (by simp [hq]) hi rfl (by intro cs h; cases h) z4 rfl rfl rfl
  rw [this,← List.map_set]
theorem ldTb {H:Heap} {T:List Bool} {q c b:Nat} (hb:H[b]?=some (bT T)) (hq:T.length=q) (hc:c < q):loadV Tp H 4 (.ptr b c 0 q)=some (.bool (T.getD c false)) :=
  load_elem (b:=b) (els:=T.map .bool) hb (by simp [hq]) (by rw [List.getElem?_map,List.getElem?_eq_getElem (by omega)]; simp [List.getD,List.getElem?_eq_getElem (show c < T.length by omega)]) rfl a4 i4
theorem ixTb {b m i:Nat} (h:i < m):idxV Tp 74 (.sl b 0 m (some m) m 1) (.int .i64 (i:Int))=some (.ptr b i 0 m):=by
  have:=idx_sl (P:=Tp) (t:=74) (b:=b) (len:=m) (tot:=m) (cap:=some m) (ik:=.i64) (n:=(i:Int)) u74 z4 (by omega) (by omega)
  rwa [Int.toNat_natCast] at this
theorem ru_in (hg:(newGroupT gl).2=true) {F:List El} (hF:∀ y ∈ F,elOk (grG gl) y) {T:List Bool} (hT:BG gl F T) {i:Nat} (hi:i < R.length) (hx:elB gl (R.getD i [])=true) {b c:Nat} (hbc:b ≠ c):∀ k j (T7:List Bool) (H:Heap),j+k=(sizeT gl).toNat → H[b]?=some (bT T) → H[c]?=some (bT T7) → T7.length=(sizeT gl).toNat → (∀ q,q < j → T7.getD q false=decide (tE gl (q:Int) ∈ sStep (grG gl) (eE gl (R.getD i [])) F)) →
    ∃ H' T' y8,RT polL46 46 (sub [1,1,0,1,0,0,1,0,0,1,0,1,0] B46) (ruE gl R b (sizeT gl).toNat (.int .i64 (i:Int)) (.sl c 0 (sizeT gl).toNat (some (sizeT gl).toNat) (sizeT gl).toNat 1) (.int .i64 (j:Int)) Ud Ud) H (.exit 2)
      (ruE gl R b (sizeT gl).toNat (.int .i64 (i:Int)) (.sl c 0 (sizeT gl).toNat (some (sizeT gl).toNat) (sizeT gl).toNat 1) y8 Ud Ud) H'∧H'[c]?=some (bT T')∧BG gl (sStep (grG gl) (eE gl (R.getD i [])) F) T':=by
  have hs:=size_bnd hg
  intro k
  induction k with
  | zero =>
    intro j T7 H hj hb hc hl hq
    have s:=ru_g_4 (gl.map encI) (R.map encR) H b c (sizeT gl).toNat i j (y9:=Ud) (y10:=Ud) (by omega)
    exact ⟨H,T7,_,lpo (s) (c:=sub [1,1,0,1,0,0,1,0,0,1,0,1,0] B46),hc,hl,fun q h=>hq q (by omega)⟩
  | succ k ih =>
    intro j T7 H hj hb hc hl hq
    have hjn:j < (sizeT gl).toNat:=by omega
    have hjb:0 ≤ (j:Int)∧(j:Int) < sizeT gl:=⟨by omega,by omega⟩
    have hcl:c < H.length:=lt_of_get hc
    have ni:=next_iff hg hx hF hjb
    have lb:0 ≤ lessC gl (j:Int) (R.getD i [])∧lessC gl (j:Int) (R.getD i []) < sizeT gl:=code_bnd hg (less_el hg hx)
    have gR:=gr hi
    have cl:=less_at (pol':=polL46) (by kernel_rfl) (l:=gl) (x:=R.getD i []) (c:=(j:Int)) hg hjb hx H
    have cc:=code_at (pol':=polL46) (by kernel_rfl) (l:=gl) (x:=R.getD i []) (v:=.imm .arg 1 ((R.getD i []).map encI)) (H:=H) (arg_li _ _) ⟨hg,hx⟩
    have ld:=ldTb (q:=(sizeT gl).toNat) (c:=j) hb hT.1 hjn
    rw [hT.2 j hjn] at ld
    have hT2:=hT.2 (lessC gl (j:Int) (R.getD i [])).toNat (by omega)
    rw [Int.toNat_of_nonneg lb.1] at hT2
    have ld2:=ldTb (q:=(sizeT gl).toNat) (c:=(lessC gl (j:Int) (R.getD i [])).toNat) hb hT.1 (by omega)
    rw [hT2] at ld2
    have ix2:=ixTb (b:=b) (m:=(sizeT gl).toNat) (i:=(lessC gl (j:Int) (R.getD i [])).toNat) (by omega)
    rw [Int.toNat_of_nonneg lb.1] at ix2
    have ixb:=ixTb (b:=b) (m:=(sizeT gl).toNat) (i:=j) hjn
    have ixc:=ixTb (b:=c) (m:=(sizeT gl).toNat) (i:=j) hjn
    have fin:∀ v:Bool,v=decide (tE gl (j:Int) ∈ sStep (grG gl) (eE gl (R.getD i [])) F) →
        RT polL46 46 (sub [1,1,0,1,0,0,1,0,0,1,0,1,0,0] B46) (ruE gl R b (sizeT gl).toNat (.int .i64 (i:Int)) (.sl c 0 (sizeT gl).toNat (some (sizeT gl).toNat) (sizeT gl).toNat 1) (.int .i64 (j:Int)) Ud Ud) H .normal (ruE gl R b (sizeT gl).toNat (.int .i64 (i:Int)) (.sl c 0 (sizeT gl).toNat (some (sizeT gl).toNat) (sizeT gl).toNat 1) (.int .i64 (IntKind.i64.wrap ((j:Int)+1))) Ud Ud) (H.set c (bT (T7.set j v))) →
        ∃ H' T' y8,RT polL46 46 (sub [1,1,0,1,0,0,1,0,0,1,0,1,0] B46) (ruE gl R b (sizeT gl).toNat (.int .i64 (i:Int)) (.sl c 0 (sizeT gl).toNat (some (sizeT gl).toNat) (sizeT gl).toNat 1) (.int .i64 (j:Int)) Ud Ud) H (.exit 2)
        (ruE gl R b (sizeT gl).toNat (.int .i64 (i:Int)) (.sl c 0 (sizeT gl).toNat (some (sizeT gl).toNat) (sizeT gl).toNat 1) y8 Ud Ud) H'∧H'[c]?=some (bT T')∧BG gl (sStep (grG gl) (eE gl (R.getD i [])) F) T':=fun v hv s=>by
      rw [wrap_succ (by omega)] at s
      obtain ⟨H',T',y8,r,r2,r3⟩:=ih (j+1) (T7.set j v) (H.set c (bT (T7.set j v))) (by omega) (by rw [List.getElem?_set_ne (by omega)]; exact hb) (by rw [List.getElem?_set_self hcl]) (by rw [List.length_set]; exact hl) (fun q h=>by
        simp only [List.getD,List.getElem?_set]
        by_cases e:j=q
        · subst e; rw [if_pos rfl,if_pos (by omega),Option.getD_some,hv]; rfl
        · rw [if_neg e]
          have:=hq q (by omega)
          simpa only [List.getD] using this)
      exact ⟨H',T',y8,lop (s) (gc_eq _ (List.length_set ..)) (r),r2,r3⟩
    by_cases d1:tE gl (j:Int) ∈ F
    · rw [decide_eq_true d1] at ld
      exact fin true (decide_eq_true (ni.2 (.inl d1))).symm (ru_g_0 (gl.map encI) (R.map encR) H b c (sizeT gl).toNat i j (y9:=Ud) (y10:=Ud) (by omega) ixb ld ixc (stTb hc hl hjn true))
    · rw [decide_eq_false d1] at ld
      by_cases d2:tE gl (lessC gl (j:Int) (R.getD i [])) ∈ F
      · rw [decide_eq_true d2] at ld2
        exact fin true (decide_eq_true (ni.2 (.inr (.inl d2)))).symm (ru_g_1 (gl.map encI) (R.map encR) H b c (sizeT gl).toNat i j (y9:=Ud) (y10:=Ud) (by omega) ixb ld gR cl ix2 ld2 ixc (stTb hc hl hjn true))
      · rw [decide_eq_false d2] at ld2
        by_cases d3:codeT gl (R.getD i [])=(j:Int)
        · exact fin true (decide_eq_true (ni.2 (.inr (.inr d3)))).symm (ru_g_2 (gl.map encI) (R.map encR) H b c (sizeT gl).toNat i j (y9:=Ud) (y10:=Ud) (by omega) ixb ld gR cl ix2 ld2 gR cc d3 ixc (stTb hc hl hjn true))
        · refine fin false (decide_eq_false fun h=>?_).symm (ru_g_3 (gl.map encI) (R.map encR) H b c (sizeT gl).toNat i j (y9:=Ud) (y10:=Ud) (by omega) ixb ld gR cl ix2 ld2 gR cc d3 ixc (stTb hc hl hjn false))
          rcases ni.1 h with h | h | h
          · exact d1 h
          · exact d2 h
          · exact d3 h
theorem ru_out (hg:(newGroupT gl).2=true) (hR:∀ x ∈ R,elB gl x=true) (hRl:R.length ≤ 60):∀ k i (H:Heap) (b:Nat) (T:List Bool),i+k=R.length → H[b]?=some (bT T) → BG gl (sumS (grG gl) ((els gl R).take i)) T →
    ∃ H' b' T' y6 y7 y8,RT polL46 46 (sub [1,1,0,1,0] B46) (ruE gl R b (sizeT gl).toNat (.int .i64 (i:Int)) Ud Ud Ud Ud) H (.exit 0)
      (ruE gl R b' (sizeT gl).toNat y6 y7 y8 Ud Ud) H'∧H'[b']?=some (bT T')∧BG gl (sumS (grG gl) (els gl R)) T':=by
  have hs:=size_bnd hg
  have hl:(els gl R).length=R.length:=by simp only [els,List.length_map]
  intro k
  induction k with
  | zero =>
    intro i H b T hi hb hT
    have s:=ru_d_1 (gl.map encI) (R.map encR) H b (sizeT gl).toNat i (y7:=Ud) (y8:=Ud) (y9:=Ud) (y10:=Ud) (by rw [List.length_map]; omega)
    rw [List.take_of_length_le (by omega)] at hT
    exact ⟨H,b,T,_,_,_,lpo (sqo (s) (c:=sub [1,1,0,1,0,0] B46) (b:=sub [1,1,0,1,0,0,1] B46)) (c:=sub [1,1,0,1,0] B46),hb,hT⟩
  | succ k ih =>
    intro i H b T hi hb hT
    have hlt:i < R.length:=by omega
    have hx:elB gl (R.getD i [])=true:=hR _ (by rw [List.getD,List.getElem?_eq_getElem hlt]; exact List.getElem_mem _)
    have hall:∀ y ∈ (els gl R).take i,elOk (grG gl) y:=fun y hy=>by
      obtain ⟨z,hz,rfl⟩:=List.mem_map.1 (List.mem_of_mem_take hy)
      exact eE_ok hg (hR z hz)
    have hF:=sumS_ok (grG_ok hg) _ hall
    have e2:sumS (grG gl) ((els gl R).take (i+1))=sStep (grG gl) (eE gl (R.getD i [])) (sumS (grG gl) ((els gl R).take i)):=by
      have:(els gl R).take (i+1)=(els gl R).take i ++ [eE gl (R.getD i [])]:=by
        rw [List.take_add_one]
        simp [els,List.getD,List.getElem?_eq_getElem hlt]
      rw [this,sumS_app]
    have hbl:b < H.length:=lt_of_get hb
    have s1:=ru_d_0 (gl.map encI) (R.map encR) H b (sizeT gl).toNat i (y7:=Ud) (y8:=Ud) (y9:=Ud) (y10:=Ud) (by rw [List.length_map]; omega)
    have mk:=makeV_ok (P:=Tp) (H:=H) (t:=74) (n:=((sizeT gl).toNat:Int)) u74 info4 rfl rfl (by omega) (by omega) (by simp only [roomMax]; omega)
    rw [Int.toNat_natCast] at mk
    have e0:H ++ [.arr 1 (List.replicate (sizeT gl).toNat (.bool false)) true 0]=H ++ [bT (List.replicate (sizeT gl).toNat false)]:=by simp [bT]
    rw [e0] at mk
    have s2:=ru_e_0 (gl.map encI) (R.map encR) H b H.length (sizeT gl).toNat i (y7:=Ud) (y8:=Ud) (y9:=Ud) (y10:=Ud) mk
    have s3:=ru_f_0 (gl.map encI) (R.map encR) (H ++ [bT (List.replicate (sizeT gl).toNat false)]) b H.length (sizeT gl).toNat i (y8:=Ud) (y9:=Ud) (y10:=Ud)
    obtain ⟨H1,T1,y8,r1,h1,hT1⟩:=ru_in (R:=R) hg hF hT hlt hx (b:=b) (c:=H.length) (by omega) (sizeT gl).toNat 0 (List.replicate (sizeT gl).toNat false) (H ++ [bT (List.replicate (sizeT gl).toNat false)]) (by omega) (by rw [List.getElem?_append_left hbl]; exact hb) (by simp) (by simp) (fun q h=>absurd h (Nat.not_lt_zero q))
    have s4:=ru_h_0 (gl.map encI) (R.map encR) H1 b H.length (sizeT gl).toNat i (y8:=y8) (y9:=Ud) (y10:=Ud)
    have s5:=ru_i_0 (gl.map encI) (R.map encR) H1 H.length (sizeT gl).toNat i (y7:=.sl H.length 0 (sizeT gl).toNat (some (sizeT gl).toNat) (sizeT gl).toNat 1) (y8:=y8) (y9:=Ud) (y10:=Ud)
    rw [wrap_succ (by omega)] at s5
    obtain ⟨H',b',T',y6',y7',y8',r,hb',hT'⟩:=ih (i+1) (gc H.length (bndE (ruE gl R H.length (sizeT gl).toNat (.int .i64 ((i+1:Nat):Int)) Ud Ud Ud Ud)) H1) H.length T1 (by omega) (by
      rw [gc_get (.inr (by simp [bndE,bnd,bndL]))]; exact h1) (by rw [e2]; exact hT1)
    exact ⟨H',b',T',y6',y7',y8',lop (sq (s1) (sq (RunsTo.block_normal (i:=1) (c:=sub [1,1,0,1,0,0,1,0] B46) (sq (s2) (sq (sq (s3) (bke (c:=sub [1,1,0,1,0,0,1,0,0,1,0,1] B46) (lpi (e0:=(ruE gl R b (sizeT gl).toNat (.int .i64 (i:Int)) (.sl H.length 0 (sizeT gl).toNat (some (sizeT gl).toNat) (sizeT gl).toNat 1) (.int .i64 ((0:Nat):Int)) Ud Ud)) r1 (b:=sub [1,1,0,1,0,0,1,0,0,1,0,1,0,0] B46))) (c:=sub [1,1,0,1,0,0,1,0,0,1,0] B46)) (s4) (c:=sub [1,1,0,1,0,0,1,0,0,1] B46)) (c:=sub [1,1,0,1,0,0,1,0,0] B46)) (by kernel_rfl)) (s5) (c:=sub [1,1,0,1,0,0,1] B46)) (c:=sub [1,1,0,1,0,0] B46)) rfl (r),hb',hT'⟩
theorem ru_fin (hg:(newGroupT gl).2=true) {F:List El} {T:List Bool} (hT:BG gl F T) {b c:Nat} (hbc:b ≠ c):∀ k j (os:List (List Int)) (H:Heap),j+k=(sizeT gl).toNat → H[b]?=some (bT T) → H[c]?=some (bO os) → os.length ≤ j →
    ∃ H' y10,RT polL46 46 (sub [1,1,1,1,0,1,0] B46) (ruE gl R b (sizeT gl).toNat Ud Ud Ud (.sl c 0 os.length none os.length 1) (.int .i64 (j:Int))) H (.exit 4)
      (ruE gl R b (sizeT gl).toNat Ud Ud Ud (.sl c 0 (os ++ ((List.range' j k).filter fun (r:Nat)=>decide (tE gl (r:Int) ∈ F)).map fun (r:Nat)=>decT gl (r:Int)).length none (os ++ ((List.range' j k).filter fun (r:Nat)=>decide (tE gl (r:Int) ∈ F)).map fun (r:Nat)=>decT gl (r:Int)).length 1) y10) H' ∧
      H'[c]?=some (bO (os ++ ((List.range' j k).filter fun (r:Nat)=>decide (tE gl (r:Int) ∈ F)).map fun (r:Nat)=>decT gl (r:Int))):=by
  have hs:=size_bnd hg
  intro k
  induction k with
  | zero =>
    intro j os H hj hb hc ho
    have s:=ru_l_2 (gl.map encI) (R.map encR) H b c (sizeT gl).toNat os.length j 0 0 [] (y6:=Ud) (y7:=Ud) (y8:=Ud) (by omega)
    exact ⟨H,_,by simpa using lpo (s) (c:=sub [1,1,1,1,0,1,0] B46),by simpa using hc⟩
  | succ k ih =>
    intro j os H hj hb hc ho
    have hjn:j < (sizeT gl).toNat:=by omega
    have hbl:b < H.length:=lt_of_get hb
    have hcl:c < H.length:=lt_of_get hc
    have ld:=ldTb (q:=(sizeT gl).toNat) (c:=j) hb hT.1 hjn
    rw [hT.2 j hjn] at ld
    have ixb:=ixTb (b:=b) (m:=(sizeT gl).toNat) (i:=j) hjn
    rw [List.range'_succ]
    by_cases d:tE gl (j:Int) ∈ F
    · rw [decide_eq_true d] at ld
      have dc:=decoded_at (pol':=polL46) (by kernel_rfl) (l:=gl) (c:=(j:Int)) ⟨hg,by omega,by omega⟩ H
      obtain ⟨w,lt⟩:=lit_seal' (P:=Tp) (H:=H ++ [bI (decT gl (j:Int))]) (t:=35) (e:=22) (k:=1) (b:=H.length) (p:=(decT gl (j:Int)).length) (mx:=0) (bt:=24) (zv:=.imm .lit 0 []) (els:=(decT gl (j:Int)).map encI) u35 (by kernel_rfl) rfl rfl (by simp) (by simp) (ints_res _)
      have ap:=app_O (H:=(H ++ [bI (decT gl (j:Int))]).set H.length (.arr 1 ((decT gl (j:Int)).map encI) w 0)) (b:=c) (R:=os) (by rw [List.getElem?_set_ne (by omega),List.getElem?_append_left hcl]; exact hc) (by omega) (decT gl (j:Int))
      have s:=ru_l_0 (gl.map encI) (R.map encR) H b c (sizeT gl).toNat os.length j H.length (decT gl (j:Int)).length ((decT gl (j:Int)).map encI) (y6:=Ud) (y7:=Ud) (y8:=Ud) (by omega) ixb ld dc lt ap
      rw [wrap_succ (by omega)] at s
      obtain ⟨H',y10,r,r2⟩:=ih (j+1) (os ++ [decT gl (j:Int)]) (gc H.length (bndE (ruE gl R b (sizeT gl).toNat Ud Ud Ud (.sl c 0 (os.length+1) none (os.length+1) 1) (.int .i64 ((j+1:Nat):Int)))) (((H ++ [bI (decT gl (j:Int))]).set H.length (.arr 1 ((decT gl (j:Int)).map encI) w 0)).set c (.arr 1 ((os ++ [decT gl (j:Int)]).map encO) true 0))) (by omega)
        (by rw [gc_get (.inl hbl),List.getElem?_set_ne (by omega),List.getElem?_set_ne (by omega),List.getElem?_append_left hbl]; exact hb)
        (by rw [gc_get (.inl hcl),List.getElem?_set_self (by simp; omega)]) (by simp; omega)
      have e1:os ++ ((j :: List.range' (j+1) k).filter fun (r:Nat)=>decide (tE gl (r:Int) ∈ F)).map (fun (r:Nat)=>decT gl (r:Int))=os ++ [decT gl (j:Int)] ++ ((List.range' (j+1) k).filter fun (r:Nat)=>decide (tE gl (r:Int) ∈ F)).map fun (r:Nat)=>decT gl (r:Int):=by
        rw [List.filter_cons,if_pos (decide_eq_true d),List.map_cons,List.append_assoc]; rfl
      rw [e1]
      rw [List.length_append,List.length_singleton] at r
      exact ⟨H',y10,lop (s) rfl (r),r2⟩
    · rw [decide_eq_false d] at ld
      have s:=ru_l_1 (gl.map encI) (R.map encR) H b c (sizeT gl).toNat os.length j 0 0 [] (y6:=Ud) (y7:=Ud) (y8:=Ud) (by omega) ixb ld
      rw [wrap_succ (by omega)] at s
      obtain ⟨H',y10,r,r2⟩:=ih (j+1) os H (by omega) hb hc (by omega)
      have e1:((j :: List.range' (j+1) k).filter fun (r:Nat)=>decide (tE gl (r:Int) ∈ F))=(List.range' (j+1) k).filter fun (r:Nat)=>decide (tE gl (r:Int) ∈ F):=by
        rw [List.filter_cons,if_neg (by simp [d])]
      rw [e1]
      exact ⟨H',y10,lop (s) (gc_eq _ rfl) (r),r2⟩
end
theorem rsums_ok:PrimOk Tp 46 rsums46:=by
  refine primOk_pure (pol:=polL46) (fn:=Try.f46) (cd:=B46) follows_mixed soundL46 (by kernel_rfl) (by kernel_rfl) (fnok polL46.prim _ _ (by kernel_rfl)) (by kernel_rfl) ?_
  intro args res h
  obtain ⟨gl,R,rfl,hq⟩:=lrF_inv h
  clear h
  split at hq
  case isFalse=>cases hq
  rename_i hk
  cases hq
  obtain ⟨hg,hlB⟩:=hk
  obtain ⟨hR,hRl⟩:=listB_iff.1 hlB
  have hs:=size_bnd hg
  have s0:=ru_a_0 (gl.map encI) (R.map encR)
  have c40:=sizeA_at (pol':=polL46) (by kernel_rfl) (v:=.imm .arg 1 (gl.map encI)) (H:=[]) (arg_li _ _) hg
  have mk:=makeV_ok (P:=Tp) (H:=[]) (t:=74) (n:=sizeT gl) u74 info4 rfl rfl (by omega) (by omega) (by simp only [roomMax]; omega)
  have s1:=ru_b_0 (gl.map encI) (R.map encR) (sizeT gl).toNat (y5:=Ud) (y6:=Ud) (y7:=Ud) (y8:=Ud) (y9:=Ud) (y10:=Ud) c40 mk
  have e0:([.arr 1 (List.replicate (sizeT gl).toNat (.bool false)) true 0]:Heap)=[bT (List.replicate (sizeT gl).toNat false)]:=by simp [bT]
  rw [e0] at s1
  have s2:=ru_c_0 (gl.map encI) (R.map encR) [bT (List.replicate (sizeT gl).toNat false)] 0 (sizeT gl).toNat (y6:=Ud) (y7:=Ud) (y8:=Ud) (y9:=Ud) (y10:=Ud)
  obtain ⟨H,b,T,y6,y7,y8,r,hb,hT⟩:=ru_out hg hR hRl R.length 0 [bT (List.replicate (sizeT gl).toNat false)] 0 (List.replicate (sizeT gl).toNat false) (by omega) rfl ⟨by simp,fun q h=>by simp [List.getD,List.getElem?_replicate,h,sumS]⟩
  have hbl:b < H.length:=lt_of_get hb
  have s3:=ru_j_0 (gl.map encI) (R.map encR) H b H.length (sizeT gl).toNat (y6:=y6) (y7:=y7) (y8:=y8) (y9:=Ud) (y10:=Ud) (H0:=H ++ [bO []]) rfl
  have s4:=ru_k_0 (gl.map encI) (R.map encR) (H ++ [bO []]) b H.length (sizeT gl).toNat 0 (y6:=y6) (y7:=y7) (y8:=y8) (y10:=Ud)
  obtain ⟨H',y10,r2,h2⟩:=ru_fin (R:=R) hg hT (b:=b) (c:=H.length) (by omega) (sizeT gl).toNat 0 [] (H ++ [bO []]) (by omega) (by rw [List.getElem?_append_left hbl]; exact hb) (by simp) (by simp)
  rw [List.nil_append,← List.range_eq_range'] at r2 h2
  have eT:((List.range (sizeT gl).toNat).filter fun (r:Nat)=>decide (tE gl (r:Int) ∈ sumS (grG gl) (els gl R))).map (fun (r:Nat)=>decT gl (r:Int))=sumsL gl (sumS (grG gl) (els gl R)):=rfl
  rw [eT] at r2 h2
  generalize sumsL gl (sumS (grG gl) (els gl R))=S at *
  have s5:=ru_m_0 (gl.map encI) (R.map encR) H' b H.length (sizeT gl).toNat S.length (y10:=y10) (y6:=Ud) (y7:=Ud) (y8:=Ud)
  have u:=sq (s0) (sq (s1) (sq (sq (s2) (bke (c:=sub [1,1,0,1] B46) (lpi (e0:=(ruE gl R 0 (sizeT gl).toNat (.int .i64 ((0:Nat):Int)) Ud Ud Ud Ud)) r (b:=sub [1,1,0,1,0,0] B46))) (c:=sub [1,1,0] B46)) (sq (s3) (sq (sq (s4) (bke (c:=sub [1,1,1,1,0,1] B46) (lpi (e0:=(ruE gl R b (sizeT gl).toNat y6 y7 y8 (.sl H.length 0 0 none 0 1) (.int .i64 ((0:Nat):Int)))) r2 (b:=sub [1,1,1,1,0,1,0,0] B46))) (c:=sub [1,1,1,1,0] B46)) (s5) (c:=sub [1,1,1,1] B46)) (c:=sub [1,1,1] B46)) (c:=sub [1,1] B46)) (c:=sub [1] B46)) (c:=B46)
  exact ⟨_,_,_,.sl H.length 0 S.length none S.length 1,u,by simp,by simp only [resultsV,res46]; rfl,res_rs h2 rfl⟩
end Go.Proofs.Ytaibmipamkaljaa
end
section
open Go Go.HL
namespace Go.Proofs.Ytaibmipamkaljaa
open Go.Proofs.Try renaming prog → Tp
open Go.HL.HV renaming undef → Ud
def prL45:FuncId → Option (List HV → Option HV):=fun g=>if g == 17 then some ints17 else none
def polL45:Pol:={ pol with prim:=prL45 }
theorem soundL45 (n:Nat):CallSound Tp (callN Tp polL45 n):=sound_prim prL45 (fun g f h=>by
  unfold prL45 at h
  split at h
  · rename_i hg; cases h; rw [eq_of_beq hg]; exact ints_ok
  · cases h) n
end Go.Proofs.Ytaibmipamkaljaa
end
section
open Go Go.HL
namespace Go.Proofs.Ytaibmipamkaljaa
set_option maxRecDepth 100000
open Go.Proofs.Try renaming prog → Tp
open Go.HL.HV renaming undef → Ud
noncomputable def B45:Code:=Try.f45.body.getD .skip
abbrev env45 (v0 v1 v4 v5:HV):Env:=[(0,v0),(1,v1),(4,v4),(5,v5)]
theorem tbs_a_0 (ra rb:List HV) :RT polL45 45 (sub [0] B45) [(0,.a ra),(1,.a rb)] [] .normal (env45 (.a ra) (.a rb) (.bool false) Ud) [] :=
  RunsTo.hin 0 60 [] fun kf hk=>⟨_,by kernel_rfl,.nil⟩
theorem tbs_b_0 (ra rb:List HV)  {y5:HV}(g0:(ra.length:Int)=(rb.length:Int)):RT polL45 45 (sub [1,0] B45) (env45 (.a ra) (.a rb) (.bool false) y5) [] .normal (env45 (.a ra) (.a rb) (.bool false) y5) [] :=
  RunsTo.hin 0 60 [⟨1,4,.bool false,[]⟩] fun kf hk=>⟨_,by kernel_rfl,(oB [] (congrArg not (decide_eq_true g0)) .nil)⟩
theorem tbs_b_1 (ra rb:List HV)  {y5:HV}(g0:¬ ((ra.length:Int)=(rb.length:Int))):RT polL45 45 (sub [1,0] B45) (env45 (.a ra) (.a rb) (.bool false) y5) [] .ret (env45 (.a ra) (.a rb) (.bool false) y5) [] :=
  RunsTo.hin 0 60 [⟨1,4,.bool true,[]⟩] fun kf hk=>⟨_,by kernel_rfl,(oB [] (congrArg not (decide_eq_false g0)) .nil)⟩
theorem tbs_c_0 (ra rb:List HV)  {y5:HV}:RT polL45 45 (sub [1,1,0,0] B45) (env45 (.a ra) (.a rb) (.bool false) y5) [] .normal (env45 (.a ra) (.a rb) (.bool false) (.i 0)) [] :=
  RunsTo.hin 0 60 [] fun kf hk=>⟨_,by kernel_rfl,.nil⟩
theorem tbs_d_0 (ra rb:List HV) (j:Nat) {l0:List HV} {l1:List HV} (g0:(j:Int) < (ra.length:Int)) (g1:idxV Tp 35 (.a ra) (.i (j:Int))=some (.vptr (.a l0))) (g2:idxV Tp 35 (.a rb) (.i (j:Int))=some (.vptr (.a l1))) (g3:∀ kf,callN Tp polL45 (kf+1) 17 [.a l0,.a l1] []=some (.bool true,[])):RT polL45 45 (sub [1,1,0,1,0,0] B45) (env45 (.a ra) (.a rb) (.bool false) (.i (j:Int))) [] .normal (env45 (.a ra) (.a rb) (.bool false) (.i (IntKind.i64.wrap ((j:Int)+1)))) [] :=
  RunsTo.hin 0 60 [⟨4,3,.bool true,[]⟩,⟨6,2,.vptr (.a l0),[]⟩,⟨6,6,.vptr (.a l1),[]⟩,⟨6,8,.bool true,[]⟩] fun kf hk=>⟨_,by kernel_rfl,(oB [] (decide_eq_true g0) (oP [] g1 (oP [] g2 (oC (g3 kf) .nil))))⟩
theorem tbs_d_1 (ra rb:List HV) (j:Nat) {l0:List HV} {l1:List HV} (g0:(j:Int) < (ra.length:Int)) (g1:idxV Tp 35 (.a ra) (.i (j:Int))=some (.vptr (.a l0))) (g2:idxV Tp 35 (.a rb) (.i (j:Int))=some (.vptr (.a l1))) (g3:∀ kf,callN Tp polL45 (kf+1) 17 [.a l0,.a l1] []=some (.bool false,[])):RT polL45 45 (sub [1,1,0,1,0,0] B45) (env45 (.a ra) (.a rb) (.bool false) (.i (j:Int))) [] .ret (env45 (.a ra) (.a rb) (.bool false) (.i (j:Int))) [] :=
  RunsTo.hin 0 60 [⟨4,3,.bool true,[]⟩,⟨6,2,.vptr (.a l0),[]⟩,⟨6,6,.vptr (.a l1),[]⟩,⟨6,8,.bool false,[]⟩] fun kf hk=>⟨_,by kernel_rfl,(oB [] (decide_eq_true g0) (oP [] g1 (oP [] g2 (oC (g3 kf) .nil))))⟩
theorem tbs_d_2 (ra rb:List HV) (j:Nat)(g0:¬ ((j:Int) < (ra.length:Int))):RT polL45 45 (sub [1,1,0,1,0,0] B45) (env45 (.a ra) (.a rb) (.bool false) (.i (j:Int))) [] (.exit 0) (env45 (.a ra) (.a rb) (.bool false) (.i (j:Int))) [] :=
  RunsTo.hin 0 60 [⟨4,3,.bool false,[]⟩] fun kf hk=>⟨_,by kernel_rfl,(oB [] (decide_eq_false g0) .nil)⟩
theorem tbs_e_0 (ra rb:List HV)  {y5:HV}:RT polL45 45 (sub [1,1,1] B45) (env45 (.a ra) (.a rb) (.bool false) y5) [] .ret (env45 (.a ra) (.a rb) (.bool true) y5) [] :=
  RunsTo.hin 0 60 [] fun kf hk=>⟨_,by kernel_rfl,.nil⟩
end Go.Proofs.Ytaibmipamkaljaa
end
section
open Go Go.HL
namespace Go.Proofs.Ytaibmipamkaljaa
open Go.Proofs.Try renaming prog → Tp
open Go.HL.HV renaming undef → Ud
theorem res45:Try.f45.results.toList=[.tmp 4]:=by kernel_rfl
def rrF (f:List (List Int) → List (List Int) → Option HV):List HV → Option HV
  | [.imm .arg 1 ra,.imm .arg 1 rb]=>(match mapO decR ra,mapO decR rb with | some A,some B=>f A B | _,_=>none)
  | _=>none
theorem rrF_inv {f:List (List Int) → List (List Int) → Option HV} {args:List HV} {res:HV} (h:rrF f args=some res):∃ A B,args=[.imm .arg 1 (A.map encR),.imm .arg 1 (B.map encR)]∧f A B=some res:=by
  unfold rrF at h
  split at h
  · split at h
    · rename_i A B hA hB
      exact ⟨A,B,by rw [mapO_inv decR_inv hA,mapO_inv decR_inv hB],h⟩
    · cases h
  · cases h
def tables45:List HV → Option HV:=rrF fun A B=>if A.length ≤ 1000∧∀ r ∈ A,r.length ≤ 1000 then some (.bool (decide (A=B))) else none
abbrev tbsE (A B:List (List Int)) (j:Nat):Env:=(env45 (.imm .arg 1 (A.map encR)) (.imm .arg 1 (B.map encR)) (.bool false) (.int .i64 (j:Int)))
theorem tbs_loop {A B:List (List Int)} (hl:A.length ≤ 1000) (hr:∀ r ∈ A,r.length ≤ 1000) (hB:A.length=B.length):∀ k j,j+k=A.length →
    ∃ y E,RT polL45 45 (sub [1,1,0,1,0] B45) (tbsE A B j) [] y E [] ∧
      ((A.drop j=B.drop j∧y=.exit 0∧E=tbsE A B A.length) ∨ (A.drop j ≠ B.drop j∧y=.ret∧E.get 4=.bool false)):=by
  intro k
  induction k with
  | zero =>
    intro j hj
    have:j=A.length:=by omega
    subst this
    have s:=tbs_d_2 (A.map encR) (B.map encR) A.length (by rw [List.length_map]; omega)
    exact ⟨_,_,lpo (s) (c:=sub [1,1,0,1,0] B45),.inl ⟨by rw [List.drop_length,hB,List.drop_length],rfl,rfl⟩⟩
  | succ k ih =>
    intro j hj
    have hjl:j < A.length:=by omega
    have hjb:j < B.length:=by omega
    have hd:A.drop j=A.getD j [] :: A.drop (j+1):=by
      rw [List.drop_eq_getElem_cons hjl]; simp [List.getD,List.getElem?_eq_getElem hjl]
    have hdb:B.drop j=B.getD j [] :: B.drop (j+1):=by
      rw [List.drop_eq_getElem_cons hjb]; simp [List.getD,List.getElem?_eq_getElem hjb]
    have hlt:(j:Int) < ((A.map encR).length:Int):=by rw [List.length_map]; omega
    have g1:=gr hjl
    have g2:=gr hjb
    have cl:=ints_at (pol':=polL45) (by kernel_rfl) (a:=A.getD j []) (b:=B.getD j []) (v1:=.imm .arg 1 ((A.getD j []).map encI)) (v2:=.imm .arg 1 ((B.getD j []).map encI)) (H:=[]) (arg_li _ _) (arg_li _ _) (hr _ (by rw [List.getD,List.getElem?_eq_getElem hjl]; exact List.getElem_mem _))
    rw [hd,hdb]
    by_cases c:A.getD j []=B.getD j []
    · rw [decide_eq_true c] at cl
      have s:=tbs_d_0 (A.map encR) (B.map encR) j hlt g1 g2 cl
      rw [wrap_succ (by omega)] at s
      obtain ⟨y,E,h1,h2⟩:=ih (j+1) (by omega)
      refine ⟨y,E,lop (s) (gc_eq _ rfl) (h1),?_⟩
      rw [c]
      simp only [List.cons.injEq,true_and,ne_eq]
      exact h2
    · rw [decide_eq_false c] at cl
      have s:=tbs_d_1 (A.map encR) (B.map encR) j hlt g1 g2 cl
      exact ⟨_,_,lpo (s) (c:=sub [1,1,0,1,0] B45),.inr ⟨fun e=>c (List.cons.inj e).1,rfl,rfl⟩⟩
theorem tables_ok:PrimOk Tp 45 tables45:=by
  refine primOk_pure (pol:=polL45) (fn:=Try.f45) (cd:=B45) follows_mixed soundL45 (by kernel_rfl) (by kernel_rfl) (fnok polL45.prim _ _ (by kernel_rfl)) (by kernel_rfl) ?_
  intro args res h
  obtain ⟨A,B,rfl,hq⟩:=rrF_inv h
  clear h
  split at hq
  case isFalse=>cases hq
  rename_i hk
  cases hq
  have a:=tbs_a_0 (A.map encR) (B.map encR)
  by_cases hB:A.length=B.length
  · have b:=tbs_b_0 (A.map encR) (B.map encR) (y5:=Ud) (by simp only [List.length_map]; omega)
    have c:=tbs_c_0 (A.map encR) (B.map encR) (y5:=Ud)
    obtain ⟨y,E,lp,h2⟩:=tbs_loop hk.1 hk.2 hB A.length 0 (by omega)
    rw [List.drop_zero,List.drop_zero] at h2
    rcases h2 with ⟨k1,rfl,rfl⟩ | ⟨k1,rfl,k2⟩
    · have z:=tbs_e_0 (A.map encR) (B.map encR) (y5:=.int .i64 (A.length:Int))
      have u:=sq (a) (sq (b) (sq (sq (c) (bke (c:=sub [1,1,0,1] B45) (lp)) (c:=sub [1,1,0] B45)) (z) (c:=sub [1,1] B45)) (c:=sub [1] B45)) (c:=B45)
      exact ⟨_,_,_,.bool true,u,by simp,by simp only [resultsV,res45]; rfl,by rw [decide_eq_true k1]; rfl⟩
    · have u:=sq (a) (sq (b) (sqo (sq (c) (RunsTo.block_ret (i:=0) (c:=sub [1,1,0,1] B45) (lp) (by kernel_rfl)) (c:=sub [1,1,0] B45)) (c:=sub [1,1] B45) (b:=sub [1,1,1] B45)) (c:=sub [1] B45)) (c:=B45)
      exact ⟨_,_,_,.bool false,u,by simp,by simp only [resultsV,res45,mapO,resultV,k2],by rw [decide_eq_false k1]; rfl⟩
  · have b:=tbs_b_1 (A.map encR) (B.map encR) (y5:=Ud) (by simp only [List.length_map]; omega)
    have u:=sq (a) (sqo (b) (c:=sub [1] B45) (b:=sub [1,1] B45)) (c:=B45)
    exact ⟨_,_,_,.bool false,u,by simp,by simp only [resultsV,res45]; rfl,by rw [decide_eq_false (fun e=>hB (by rw [e]))]; rfl⟩
end Go.Proofs.Ytaibmipamkaljaa
end
section
open Go Go.HL
namespace Go.Proofs.Ytaibmipamkaljaa
open Go.Proofs.Try renaming prog → Tp
open Go.HL.HV renaming undef → Ud
def prL13:FuncId → Option (List HV → Option HV):=fun g=>if g == 23 then some group23 else if g == 14 then some list14 else if g == 24 then some elements24 else if g == 33 then some table33 else if g == 26 then some zero26 else if g == 42 then some free42d else if g == 39 then some sums39d else if g == 17 then some ints17 else if g == 45 then some tables45 else if g == 46 then some rsums46 else if g == 36 then some list36 else if g == 16 then some awakeF else none
def polL13:Pol:={ pol with prim:=prL13 }
theorem soundL13 (n:Nat):CallSound Tp (callN Tp polL13 n):=sound_prim prL13 (fun g f h=>by
  unfold prL13 at h
  by_cases e23:(g == 23)=true
  · rw [if_pos e23] at h; cases h; rw [eq_of_beq e23]; exact group_ok
  rw [if_neg e23] at h
  by_cases e14:(g == 14)=true
  · rw [if_pos e14] at h; cases h; rw [eq_of_beq e14]; exact list_ok
  rw [if_neg e14] at h
  by_cases e24:(g == 24)=true
  · rw [if_pos e24] at h; cases h; rw [eq_of_beq e24]; exact elements24_ok
  rw [if_neg e24] at h
  by_cases e33:(g == 33)=true
  · rw [if_pos e33] at h; cases h; rw [eq_of_beq e33]; exact table_ok
  rw [if_neg e33] at h
  by_cases e26:(g == 26)=true
  · rw [if_pos e26] at h; cases h; rw [eq_of_beq e26]; exact zero_ok
  rw [if_neg e26] at h
  by_cases e142:(g == 42)=true
  · rw [if_pos e142] at h; cases h; rw [eq_of_beq e142]; exact freeD_ok
  rw [if_neg e142] at h
  by_cases e139:(g == 39)=true
  · rw [if_pos e139] at h; cases h; rw [eq_of_beq e139]; exact sumsD_ok
  rw [if_neg e139] at h
  by_cases e17:(g == 17)=true
  · rw [if_pos e17] at h; cases h; rw [eq_of_beq e17]; exact ints_ok
  rw [if_neg e17] at h
  by_cases e45:(g == 45)=true
  · rw [if_pos e45] at h; cases h; rw [eq_of_beq e45]; exact tables_ok
  rw [if_neg e45] at h
  by_cases e46:(g == 46)=true
  · rw [if_pos e46] at h; cases h; rw [eq_of_beq e46]; exact rsums_ok
  rw [if_neg e46] at h
  by_cases e36:(g == 36)=true
  · rw [if_pos e36] at h; cases h; rw [eq_of_beq e36]; exact list36_ok
  rw [if_neg e36] at h
  by_cases e16:(g == 16)=true
  · rw [if_pos e16] at h; cases h; rw [eq_of_beq e16]; exact awake_prim
  rw [if_neg e16] at h
  cases h) n
end Go.Proofs.Ytaibmipamkaljaa
end
section
open Go Go.HL
namespace Go.Proofs.Ytaibmipamkaljaa
set_option maxRecDepth 100000
open Go.Proofs.Try renaming prog → Tp
open Go.HL.HV renaming undef → Ud
noncomputable def B13:Code:=Try.f13.body.getD .skip
abbrev env13 (v0 v1 v4 v5 v6 v7 v8 v9 v11 v12 v13 v14 v15 v16 v17 v18 v19 v20 v21 v22:HV):Env:=[(0,v0),(1,v1),(4,v4),(5,v5),(6,v6),(7,v7),(8,v8),(9,v9),(11,v11),(12,v12),(13,v13),(14,v14),(15,v15),(16,v16),(17,v17),(18,v18),(19,v19),(20,v20),(21,v21),(22,v22)]
theorem so_a_0 (l0 rw:List HV) (ez:Int) :RT polL13 13 (sub [0] B13) [(0,.a l0),(1,.a rw)] [] .normal (env13 (.a l0) (.a rw) (.bool false) Ud Ud Ud Ud Ud Ud Ud Ud Ud Ud Ud Ud Ud Ud Ud Ud Ud) [] :=
  RunsTo.hin 0 60 [] fun kf hk=>⟨_,by kernel_rfl,.nil⟩
theorem so_b_0 (l0 rw:List HV) (ez:Int)  {y5 y6 y7 y8 y9 y11 y12 y13 y14 y15 y16 y17 y18 y19 y20 y21 y22:HV} {p0:Nat} {h0:List HV} (g0:∀ kf,callN Tp polL13 (kf+1) 23 [.a l0] []=some (.s 0 p0,[.b h0])):RT polL13 13 (sub [1,0] B13) (env13 (.a l0) (.a rw) (.bool false) y5 y6 y7 y8 y9 y11 y12 y13 y14 y15 y16 y17 y18 y19 y20 y21 y22) [] .normal (env13 (.a l0) (.a rw) (.bool false) (.s 0 p0) y6 y7 y8 y9 y11 y12 y13 y14 y15 y16 y17 y18 y19 y20 y21 y22) [.b h0] :=
  RunsTo.hin 0 60 [⟨1,1,.s 0 p0,[.b h0]⟩] fun kf hk=>⟨_,by kernel_rfl,(oC (g0 kf) .nil)⟩
theorem so_c_0 (l0 rw:List HV) (ez:Int) (p0:Nat) (h0:List HV) {y6 y7 y8 y9 y11 y12 y13 y14 y15 y16 y17 y18 y19 y20 y21 y22:HV} {p1:Nat} {h1:List HV} (g0:∀ kf,callN Tp polL13 (kf+1) 14 [.s 0 p0] [.b h0]=some (.s 1 p1,[.b h0,.b h1])):RT polL13 13 (sub [1,1,0] B13) (env13 (.a l0) (.a rw) (.bool false) (.s 0 p0) y6 y7 y8 y9 y11 y12 y13 y14 y15 y16 y17 y18 y19 y20 y21 y22) [.b h0] .normal (env13 (.a l0) (.a rw) (.bool false) (.s 0 p0) (.s 1 p1) y7 y8 y9 y11 y12 y13 y14 y15 y16 y17 y18 y19 y20 y21 y22) [.b h0,.b h1] :=
  RunsTo.hin 0 60 [⟨2,1,.s 1 p1,[.b h0,.b h1]⟩] fun kf hk=>⟨_,by kernel_rfl,(oC (g0 kf) .nil)⟩
theorem so_d_0 (l0 rw:List HV) (ez:Int) (p0:Nat) (h0:List HV) (p1:Nat) (h1:List HV) {y7 y8 y9 y11 y12 y13 y14 y15 y16 y17 y18 y19 y20 y21 y22:HV} {p2:Nat} {h2:List HV} (g0:∀ kf,callN Tp polL13 (kf+1) 24 [.s 0 p0,.a rw,.i 20] [.b h0,.b h1]=some (.s 2 p2,[.b h0,.b h1,.b h2])):RT polL13 13 (sub [1,1,1,0] B13) (env13 (.a l0) (.a rw) (.bool false) (.s 0 p0) (.s 1 p1) y7 y8 y9 y11 y12 y13 y14 y15 y16 y17 y18 y19 y20 y21 y22) [.b h0,.b h1] .normal (env13 (.a l0) (.a rw) (.bool false) (.s 0 p0) (.s 1 p1) (.s 2 p2) y8 y9 y11 y12 y13 y14 y15 y16 y17 y18 y19 y20 y21 y22) [.b h0,.b h1,.b h2] :=
  RunsTo.hin 0 60 [⟨3,2,.s 2 p2,[.b h0,.b h1,.b h2]⟩] fun kf hk=>⟨_,by kernel_rfl,(oC (g0 kf) .nil)⟩
theorem so_e_0 (l0 rw:List HV) (ez:Int) (p0:Nat) (h0:List HV) (p1:Nat) (h1:List HV) (p2:Nat) (h2:List HV) {y8 y9 y11 y12 y13 y14 y15 y16 y17 y18 y19 y20 y21 y22:HV} {p3:Nat} {h3:List HV} (g0:∀ kf,callN Tp polL13 (kf+1) 33 [.s 2 p2] [.b h0,.b h1,.b h2]=some (.s 3 p3,[.b h0,.b h1,.b h2,.b h3])):RT polL13 13 (sub [1,1,1,1,0] B13) (env13 (.a l0) (.a rw) (.bool false) (.s 0 p0) (.s 1 p1) (.s 2 p2) y8 y9 y11 y12 y13 y14 y15 y16 y17 y18 y19 y20 y21 y22) [.b h0,.b h1,.b h2] .normal (env13 (.a l0) (.a rw) (.bool false) (.s 0 p0) (.s 1 p1) (.s 2 p2) (.s 3 p3) y9 y11 y12 y13 y14 y15 y16 y17 y18 y19 y20 y21 y22) [.b h0,.b h1,.b h2,.b h3] :=
  RunsTo.hin 0 60 [⟨4,1,.s 3 p3,[.b h0,.b h1,.b h2,.b h3]⟩] fun kf hk=>⟨_,by kernel_rfl,(oC (g0 kf) .nil)⟩
theorem so_f_0 (l0 rw:List HV) (ez:Int) (p0:Nat) (h0:List HV) (p1:Nat) (h1:List HV) (p2:Nat) (h2:List HV) (p3:Nat) (h3:List HV) {y9 y11 y12 y13 y14 y15 y16 y17 y18 y19 y20 y21 y22:HV} {p4:Nat} {h4:List HV} (g0:∀ kf,callN Tp polL13 (kf+1) 26 [.s 0 p0,.s 2 p2] [.b h0,.b h1,.b h2,.b h3]=some (.tuple [.s 4 p4,.i ez],[.b h0,.b h1,.b h2,.b h3,.b h4])):RT polL13 13 (sub [1,1,1,1,1,0] B13) (env13 (.a l0) (.a rw) (.bool false) (.s 0 p0) (.s 1 p1) (.s 2 p2) (.s 3 p3) y9 y11 y12 y13 y14 y15 y16 y17 y18 y19 y20 y21 y22) [.b h0,.b h1,.b h2,.b h3] .normal (env13 (.a l0) (.a rw) (.bool false) (.s 0 p0) (.s 1 p1) (.s 2 p2) (.s 3 p3) (.s 4 p4) y11 y12 y13 y14 y15 y16 y17 y18 y19 y20 y21 y22) [.b h0,.b h1,.b h2,.b h3,.b h4] :=
  RunsTo.hin 0 60 [⟨5,2,.tuple [.s 4 p4,.i ez],[.b h0,.b h1,.b h2,.b h3,.b h4]⟩] fun kf hk=>⟨_,by kernel_rfl,(oC (g0 kf) .nil)⟩
theorem so_g_0 (l0 rw:List HV) (ez:Int) (H:Heap) (p0:Nat) (p1:Nat) (p2:Nat) (p3:Nat) (p4 fb qf:Nat) {y11 y12 y13 y14 y15 y16 y17 y18 y19 y20 y21 y22:HV} {H0:Heap} (g0:∀ kf,callN Tp polL13 (kf+1) 42 [.s 0 p0] H=some (.tuple [.s fb qf,.i 0],H0)):RT polL13 13 (sub [1,1,1,1,1,1,0] B13) (env13 (.a l0) (.a rw) (.bool false) (.s 0 p0) (.s 1 p1) (.s 2 p2) (.s 3 p3) (.s 4 p4) y11 y12 y13 y14 y15 y16 y17 y18 y19 y20 y21 y22) H .normal (env13 (.a l0) (.a rw) (.bool false) (.s 0 p0) (.s 1 p1) (.s 2 p2) (.s 3 p3) (.s 4 p4) (.s fb qf) (.i 0) y13 y14 y15 y16 y17 y18 y19 y20 y21 y22) H0 :=
  RunsTo.hin 0 60 [⟨6,1,.tuple [.s fb qf,.i 0],H0⟩] fun kf hk=>⟨_,by kernel_rfl,(oC (g0 kf) .nil)⟩
theorem so_h_0 (l0 rw:List HV) (ez:Int) (H:Heap) (p0:Nat) (p1:Nat) (p2:Nat) (p3:Nat) (p4 fb qf sb qs:Nat) {y13 y14 y15 y16 y17 y18 y19 y20 y21 y22:HV} {H0:Heap} (g0:∀ kf,callN Tp polL13 (kf+1) 39 [.s 0 p0,.s 2 p2] H=some (.tuple [.s sb qs,.i 0],H0)):RT polL13 13 (sub [1,1,1,1,1,1,1,0] B13) (env13 (.a l0) (.a rw) (.bool false) (.s 0 p0) (.s 1 p1) (.s 2 p2) (.s 3 p3) (.s 4 p4) (.s fb qf) (.i 0) y13 y14 y15 y16 y17 y18 y19 y20 y21 y22) H .normal (env13 (.a l0) (.a rw) (.bool false) (.s 0 p0) (.s 1 p1) (.s 2 p2) (.s 3 p3) (.s 4 p4) (.s fb qf) (.i 0) (.s sb qs) (.i 0) y15 y16 y17 y18 y19 y20 y21 y22) H0 :=
  RunsTo.hin 0 60 [⟨7,2,.tuple [.s sb qs,.i 0],H0⟩] fun kf hk=>⟨_,by kernel_rfl,(oC (g0 kf) .nil)⟩
theorem so_i_0 (l0 rw:List HV) (ez:Int) (H:Heap) (p0:Nat) (p1:Nat) (p2:Nat) (p3:Nat) (p4 fb qf sb qs:Nat) {y15 y16 y17 y18 y19 y20 y21 y22:HV}:RT polL13 13 (sub [1,1,1,1,1,1,1,1,0,0] B13) (env13 (.a l0) (.a rw) (.bool false) (.s 0 p0) (.s 1 p1) (.s 2 p2) (.s 3 p3) (.s 4 p4) (.s fb qf) (.i 0) (.s sb qs) (.i 0) y15 y16 y17 y18 y19 y20 y21 y22) H .normal (env13 (.a l0) (.a rw) (.bool false) (.s 0 p0) (.s 1 p1) (.s 2 p2) (.s 3 p3) (.s 4 p4) (.s fb qf) (.i 0) (.s sb qs) (.i 0) (.i 0) y16 y17 y18 y19 y20 y21 y22) H :=
  RunsTo.hin 0 60 [] fun kf hk=>⟨_,by kernel_rfl,.nil⟩
theorem so_l_0 (l0 rw:List HV) (ez:Int) (H:Heap) (p0:Nat) (p1:Nat) (p2:Nat) (p3:Nat) (p4 fb qf sb qs:Nat) (i:Nat) {y16 y17 y18 y19 y20 y21 y22:HV} {H0:Heap} (g0:(i:Int) < (p4:Int)) (g1:idxV Tp 22 (.s 4 p4) (.i (i:Int))=some (.ptr 4 i 0 p4)) (g2:storeV Tp H 3 (.ptr 4 i 0 p4) (.i (-7))=some H0):RT polL13 13 (sub [1,1,1,1,1,1,1,1,0,1,0,0] B13) (env13 (.a l0) (.a rw) (.bool false) (.s 0 p0) (.s 1 p1) (.s 2 p2) (.s 3 p3) (.s 4 p4) (.s fb qf) (.i 0) (.s sb qs) (.i 0) (.i (i:Int)) y16 y17 y18 y19 y20 y21 y22) H .normal (env13 (.a l0) (.a rw) (.bool false) (.s 0 p0) (.s 1 p1) (.s 2 p2) (.s 3 p3) (.s 4 p4) (.s fb qf) (.i 0) (.s sb qs) (.i 0) (.i (IntKind.i64.wrap ((i:Int)+1))) y16 y17 y18 y19 y20 y21 y22) H0 :=
  RunsTo.hin 0 60 [⟨9,3,.bool true,H⟩,⟨11,2,.ptr 4 i 0 p4,H⟩,⟨11,3,.tuple [],H0⟩] fun kf hk=>⟨_,by kernel_rfl,(oB H (decide_eq_true g0) (oP H g1 (oS g2 .nil)))⟩
theorem so_l_1 (l0 rw:List HV) (ez:Int) (H:Heap) (p0:Nat) (p1:Nat) (p2:Nat) (p3:Nat) (p4 fb qf sb qs:Nat) (i:Nat) {y16 y17 y18 y19 y20 y21 y22:HV}(g0:¬ ((i:Int) < (p4:Int))):RT polL13 13 (sub [1,1,1,1,1,1,1,1,0,1,0,0] B13) (env13 (.a l0) (.a rw) (.bool false) (.s 0 p0) (.s 1 p1) (.s 2 p2) (.s 3 p3) (.s 4 p4) (.s fb qf) (.i 0) (.s sb qs) (.i 0) (.i (i:Int)) y16 y17 y18 y19 y20 y21 y22) H (.exit 0) (env13 (.a l0) (.a rw) (.bool false) (.s 0 p0) (.s 1 p1) (.s 2 p2) (.s 3 p3) (.s 4 p4) (.s fb qf) (.i 0) (.s sb qs) (.i 0) (.i (i:Int)) y16 y17 y18 y19 y20 y21 y22) H :=
  RunsTo.hin 0 60 [⟨9,3,.bool false,H⟩] fun kf hk=>⟨_,by kernel_rfl,(oB H (decide_eq_false g0) .nil)⟩
theorem so_m_0 (l0 rw:List HV) (ez:Int) (H:Heap) (p0:Nat) (p1:Nat) (p2:Nat) (p3:Nat) (p4 fb qf sb qs:Nat) (ab qa:Nat) {y15 y16 y17 y18 y19 y20 y21 y22:HV} {H0:Heap} {H1:Heap} (g0:builtinV Tp .append [35,35] [.imm .lit 1 [],.s fb qf] H=some (.s ab qf,H0)) (g1:builtinV Tp .append [35,35] [.s ab qf,.s sb qs] H0=some (.s ab qa,H1)):RT polL13 13 (sub [1,1,1,1,1,1,1,1,1,0] B13) (env13 (.a l0) (.a rw) (.bool false) (.s 0 p0) (.s 1 p1) (.s 2 p2) (.s 3 p3) (.s 4 p4) (.s fb qf) (.i 0) (.s sb qs) (.i 0) y15 y16 y17 y18 y19 y20 y21 y22) H .normal (env13 (.a l0) (.a rw) (.bool false) (.s 0 p0) (.s 1 p1) (.s 2 p2) (.s 3 p3) (.s 4 p4) (.s fb qf) (.i 0) (.s sb qs) (.i 0) y15 (.s ab qa) y17 y18 y19 y20 y21 y22) H1 :=
  RunsTo.hin 0 60 [⟨12,2,.s ab qf,H0⟩,⟨12,4,.s ab qa,H1⟩] fun kf hk=>⟨_,by kernel_rfl,(oC (g0) (oC (g1) .nil))⟩
theorem so_n_0 (l0 rw:List HV) (ez:Int) (H:Heap) (p0:Nat) (p1:Nat) (p2:Nat) (p3:Nat) (ab qa:Nat) {y9 y11 y13 y15 y17 y18 y19 y20 y21 y22:HV}:RT polL13 13 (sub [1,1,1,1,1,1,1,1,1,1,0,0] B13) (env13 (.a l0) (.a rw) (.bool false) (.s 0 p0) (.s 1 p1) (.s 2 p2) (.s 3 p3) y9 y11 (.i 0) y13 (.i 0) y15 (.s ab qa) y17 y18 y19 y20 y21 y22) H .normal (env13 (.a l0) (.a rw) (.bool false) (.s 0 p0) (.s 1 p1) (.s 2 p2) (.s 3 p3) y9 y11 (.i 0) y13 (.i 0) y15 (.s ab qa) (.i 0) y18 y19 y20 y21 y22) H :=
  RunsTo.hin 0 60 [] fun kf hk=>⟨_,by kernel_rfl,.nil⟩
theorem so_o_0 (l0 rw:List HV) (ez:Int) (H:Heap) (p0:Nat) (p1:Nat) (p2:Nat) (p3:Nat) (ab qa:Nat) (i:Nat) {y9 y11 y13 y15 y18 y19 y20 y21 y22:HV}(g0:(i:Int) < (qa:Int)):RT polL13 13 (sub [1,1,1,1,1,1,1,1,1,1,0,1,0,0,0] B13) (env13 (.a l0) (.a rw) (.bool false) (.s 0 p0) (.s 1 p1) (.s 2 p2) (.s 3 p3) y9 y11 (.i 0) y13 (.i 0) y15 (.s ab qa) (.i (i:Int)) y18 y19 y20 y21 y22) H .normal (env13 (.a l0) (.a rw) (.bool false) (.s 0 p0) (.s 1 p1) (.s 2 p2) (.s 3 p3) y9 y11 (.i 0) y13 (.i 0) y15 (.s ab qa) (.i (i:Int)) y18 y19 y20 y21 y22) H :=
  RunsTo.hin 0 60 [⟨14,3,.bool true,H⟩] fun kf hk=>⟨_,by kernel_rfl,(oB H (decide_eq_true g0) .nil)⟩
theorem so_o_1 (l0 rw:List HV) (ez:Int) (H:Heap) (p0:Nat) (p1:Nat) (p2:Nat) (p3:Nat) (ab qa:Nat) (i:Nat) {y9 y11 y13 y15 y18 y19 y20 y21 y22:HV}(g0:¬ ((i:Int) < (qa:Int))):RT polL13 13 (sub [1,1,1,1,1,1,1,1,1,1,0,1,0,0,0] B13) (env13 (.a l0) (.a rw) (.bool false) (.s 0 p0) (.s 1 p1) (.s 2 p2) (.s 3 p3) y9 y11 (.i 0) y13 (.i 0) y15 (.s ab qa) (.i (i:Int)) y18 y19 y20 y21 y22) H (.exit 2) (env13 (.a l0) (.a rw) (.bool false) (.s 0 p0) (.s 1 p1) (.s 2 p2) (.s 3 p3) y9 y11 (.i 0) y13 (.i 0) y15 (.s ab qa) (.i (i:Int)) y18 y19 y20 y21 y22) H :=
  RunsTo.hin 0 60 [⟨14,3,.bool false,H⟩] fun kf hk=>⟨_,by kernel_rfl,(oB H (decide_eq_false g0) .nil)⟩
theorem so_q_0 (l0 rw:List HV) (ez:Int) (H:Heap) (p0:Nat) (p1:Nat) (p2:Nat) (p3:Nat) (ab qa:Nat) (i:Nat) {y9 y11 y13 y15 y18 y19 y20 y21 y22:HV}:RT polL13 13 (sub [1,1,1,1,1,1,1,1,1,1,0,1,0,0,1,0,0,0] B13) (env13 (.a l0) (.a rw) (.bool false) (.s 0 p0) (.s 1 p1) (.s 2 p2) (.s 3 p3) y9 y11 (.i 0) y13 (.i 0) y15 (.s ab qa) (.i (i:Int)) y18 y19 y20 y21 y22) H .normal (env13 (.a l0) (.a rw) (.bool false) (.s 0 p0) (.s 1 p1) (.s 2 p2) (.s 3 p3) y9 y11 (.i 0) y13 (.i 0) y15 (.s ab qa) (.i (i:Int)) (.i 0) y19 y20 y21 y22) H :=
  RunsTo.hin 0 60 [] fun kf hk=>⟨_,by kernel_rfl,.nil⟩
theorem so_r_0 (l0 rw:List HV) (ez:Int) (H:Heap) (p0:Nat) (p1:Nat) (p2:Nat) (p3:Nat) (ab qa:Nat) (i j xb z:Nat) {y9 y11 y13 y15 y19 y20 y21 y22:HV} {H0:Heap} (g0:idxV Tp 35 (.s ab qa) (.i (i:Int))=some (.ptr ab i 0 qa)) (g1:loadV Tp H 22 (.ptr ab i 0 qa)=some (.s xb z)) (g2:(j:Int) < (z:Int)) (g3:idxV Tp 35 (.s ab qa) (.i (i:Int))=some (.ptr ab i 0 qa)) (g4:loadV Tp H 22 (.ptr ab i 0 qa)=some (.s xb z)) (g5:idxV Tp 22 (.s xb z) (.i (j:Int))=some (.ptr xb j 0 z)) (g6:storeV Tp H 3 (.ptr xb j 0 z) (.i (-7))=some H0):RT polL13 13 (sub [1,1,1,1,1,1,1,1,1,1,0,1,0,0,1,0,0,1,0,0] B13) (env13 (.a l0) (.a rw) (.bool false) (.s 0 p0) (.s 1 p1) (.s 2 p2) (.s 3 p3) y9 y11 (.i 0) y13 (.i 0) y15 (.s ab qa) (.i (i:Int)) (.i (j:Int)) y19 y20 y21 y22) H .normal (env13 (.a l0) (.a rw) (.bool false) (.s 0 p0) (.s 1 p1) (.s 2 p2) (.s 3 p3) y9 y11 (.i 0) y13 (.i 0) y15 (.s ab qa) (.i (i:Int)) (.i (IntKind.i64.wrap ((j:Int)+1))) y19 y20 y21 y22) H0 :=
  RunsTo.hin 0 60 [⟨17,3,.ptr ab i 0 qa,H⟩,⟨17,4,.s xb z,H⟩,⟨17,6,.bool true,H⟩,⟨19,2,.ptr ab i 0 qa,H⟩,⟨19,3,.s xb z,H⟩,⟨19,5,.ptr xb j 0 z,H⟩,⟨19,6,.tuple [],H0⟩] fun kf hk=>⟨_,by kernel_rfl,(oP H g0 (oP H g1 (oB H (decide_eq_true g2) (oP H g3 (oP H g4 (oP H g5 (oS g6 .nil)))))))⟩
theorem so_r_1 (l0 rw:List HV) (ez:Int) (H:Heap) (p0:Nat) (p1:Nat) (p2:Nat) (p3:Nat) (ab qa:Nat) (i j xb z:Nat) {y9 y11 y13 y15 y19 y20 y21 y22:HV}(g0:idxV Tp 35 (.s ab qa) (.i (i:Int))=some (.ptr ab i 0 qa)) (g1:loadV Tp H 22 (.ptr ab i 0 qa)=some (.s xb z)) (g2:¬ ((j:Int) < (z:Int))):RT polL13 13 (sub [1,1,1,1,1,1,1,1,1,1,0,1,0,0,1,0,0,1,0,0] B13) (env13 (.a l0) (.a rw) (.bool false) (.s 0 p0) (.s 1 p1) (.s 2 p2) (.s 3 p3) y9 y11 (.i 0) y13 (.i 0) y15 (.s ab qa) (.i (i:Int)) (.i (j:Int)) y19 y20 y21 y22) H (.exit 4) (env13 (.a l0) (.a rw) (.bool false) (.s 0 p0) (.s 1 p1) (.s 2 p2) (.s 3 p3) y9 y11 (.i 0) y13 (.i 0) y15 (.s ab qa) (.i (i:Int)) (.i (j:Int)) y19 y20 y21 y22) H :=
  RunsTo.hin 0 60 [⟨17,3,.ptr ab i 0 qa,H⟩,⟨17,4,.s xb z,H⟩,⟨17,6,.bool false,H⟩] fun kf hk=>⟨_,by kernel_rfl,(oP H g0 (oP H g1 (oB H (decide_eq_false g2) .nil)))⟩
theorem so_s_0 (l0 rw:List HV) (ez:Int) (H:Heap) (p0:Nat) (p1:Nat) (p2:Nat) (p3:Nat) (ab qa:Nat) (i:Nat) {y9 y11 y13 y15 y18 y19 y20 y21 y22:HV}:RT polL13 13 (sub [1,1,1,1,1,1,1,1,1,1,0,1,0,0,1,1] B13) (env13 (.a l0) (.a rw) (.bool false) (.s 0 p0) (.s 1 p1) (.s 2 p2) (.s 3 p3) y9 y11 (.i 0) y13 (.i 0) y15 (.s ab qa) (.i (i:Int)) y18 y19 y20 y21 y22) H .normal (env13 (.a l0) (.a rw) (.bool false) (.s 0 p0) (.s 1 p1) (.s 2 p2) (.s 3 p3) y9 y11 (.i 0) y13 (.i 0) y15 (.s ab qa) (.i (IntKind.i64.wrap ((i:Int)+1))) y18 y19 y20 y21 y22) H :=
  RunsTo.hin 0 60 [] fun kf hk=>⟨_,by kernel_rfl,.nil⟩
theorem su2_t_0 (l0 rw:List HV) (H:Heap) (p0:Nat) (p1:Nat) (p2:Nat) (p3:Nat) (tb qt:Nat) {y9 y11 y13 y15 y16 y17 y18 y19 y20 y21 y22:HV} {H0:Heap} (g0:∀ kf,callN Tp polL13 (kf+1) 39 [.s 0 p0,.s 2 p2] H=some (.tuple [.s tb qt,.i 0],H0)):RT polL13 13 (sub [1,1,1,1,1,1,1,1,1,1,1,0] B13) (env13 (.a l0) (.a rw) (.bool false) (.s 0 p0) (.s 1 p1) (.s 2 p2) (.s 3 p3) y9 y11 (.i 0) y13 (.i 0) y15 y16 y17 y18 y19 y20 y21 y22) H .normal (env13 (.a l0) (.a rw) (.bool false) (.s 0 p0) (.s 1 p1) (.s 2 p2) (.s 3 p3) y9 y11 (.i 0) y13 (.i 0) y15 y16 y17 y18 (.s tb qt) (.i 0) y21 y22) H0 :=
  RunsTo.hin 0 60 [⟨20,2,.tuple [.s tb qt,.i 0],H0⟩] fun kf hk=>⟨_,by kernel_rfl,(oC (g0 kf) .nil)⟩
theorem su2_u_0 (l0 rw:List HV) (H:Heap) (p0:Nat) (p1:Nat) (p2:Nat) (p3:Nat) (tb qt ub qu:Nat) {y9 y11 y13 y15 y16 y17 y18 y21 y22:HV} {H0:Heap} (g0:∀ kf,callN Tp polL13 (kf+1) 42 [.s 0 p0] H=some (.tuple [.s ub qu,.i 0],H0)):RT polL13 13 (sub [1,1,1,1,1,1,1,1,1,1,1,1,0] B13) (env13 (.a l0) (.a rw) (.bool false) (.s 0 p0) (.s 1 p1) (.s 2 p2) (.s 3 p3) y9 y11 (.i 0) y13 (.i 0) y15 y16 y17 y18 (.s tb qt) (.i 0) y21 y22) H .normal (env13 (.a l0) (.a rw) (.bool false) (.s 0 p0) (.s 1 p1) (.s 2 p2) (.s 3 p3) y9 y11 (.i 0) y13 (.i 0) y15 y16 y17 y18 (.s tb qt) (.i 0) (.s ub qu) (.i 0)) H0 :=
  RunsTo.hin 0 60 [⟨21,1,.tuple [.s ub qu,.i 0],H0⟩] fun kf hk=>⟨_,by kernel_rfl,(oC (g0 kf) .nil)⟩
theorem su2_v_0 (l0 rw:List HV) (H:Heap) (p0:Nat) (p1:Nat) (p2:Nat) (p3:Nat) (tb qt ub qu rb qr:Nat) {y9 y11 y13 y15 y16 y17 y18:HV} {H0:Heap} {H1:Heap} {H2:Heap} {H3:Heap} {H4:Heap} {H5:Heap} (g0:∀ kf,callN Tp polL13 (kf+1) 17 [.s 0 p0,.s 1 p1] H=some (.bool true,H0)) (g1:∀ kf,callN Tp polL13 (kf+1) 45 [.s 2 p2,.s 3 p3] H0=some (.bool true,H1)) (g2:∀ kf,callN Tp polL13 (kf+1) 46 [.s 1 p1,.s 3 p3] H1=some (.s rb qr,H2)) (g3:∀ kf,callN Tp polL13 (kf+1) 45 [.s tb qt,.s rb qr] H2=some (.bool true,H3)) (g4:∀ kf,callN Tp polL13 (kf+1) 36 [.s 1 p1,.s ub qu] H3=some (.bool true,H4)) (g5:∀ kf,callN Tp polL13 (kf+1) 16 [] H4=some (.bool true,H5)):RT polL13 13 (sub [1,1,1,1,1,1,1,1,1,1,1,1,1] B13) (env13 (.a l0) (.a rw) (.bool false) (.s 0 p0) (.s 1 p1) (.s 2 p2) (.s 3 p3) y9 y11 (.i 0) y13 (.i 0) y15 y16 y17 y18 (.s tb qt) (.i 0) (.s ub qu) (.i 0)) H .ret (env13 (.a l0) (.a rw) (.bool true) (.s 0 p0) (.s 1 p1) (.s 2 p2) (.s 3 p3) y9 y11 (.i 0) y13 (.i 0) y15 y16 y17 y18 (.s tb qt) (.i 0) (.s ub qu) (.i 0)) H5 :=
  RunsTo.hin 0 60 [⟨22,17,.bool true,H0⟩,⟨22,22,.bool true,H1⟩,⟨22,28,.s rb qr,H2⟩,⟨22,29,.bool true,H3⟩,⟨22,34,.bool true,H4⟩,⟨22,37,.bool true,H5⟩] fun kf hk=>⟨_,by kernel_rfl,(oC (g0 kf) (oC (g1 kf) (oC (g2 kf) (oC (g3 kf) (oC (g4 kf) (oC (g5 kf) .nil))))))⟩
end Go.Proofs.Ytaibmipamkaljaa
end
section
open Go Go.HL
namespace Go.Proofs.Ytaibmipamkaljaa
open Go.Proofs.Try renaming prog → Tp
open Go.HL.HV renaming undef → Ud
theorem res13:Try.f13.results.toList=[.tmp 4]:=by kernel_rfl
def sls (A:List (Nat × Nat)):List HV:=A.map fun p=>.sl p.1 0 p.2 none p.2 1
def adr:List (List Int) → Nat → List (Nat × Nat)
  | [],_=>[]
  | r :: R,n=>(n,r.length) :: adr R (n+1)
theorem adr_len:∀ (R:List (List Int)) (n:Nat),(adr R n).length=R.length
  | [],_=>rfl
  | r :: R,n=>by rw [adr,List.length_cons,List.length_cons,adr_len R (n+1)]
theorem adr_mem:∀ {R:List (List Int)} {n:Nat} {p:Nat × Nat},p ∈ adr R n → ∃ i,i < R.length∧p=(n+i,(R.getD i []).length)
  | r :: R,n,p,h=>by
    rcases List.mem_cons.1 h with rfl | h
    · exact ⟨0,by simp,rfl⟩
    · obtain ⟨i,h1,rfl⟩:=adr_mem h
      exact ⟨i+1,by simpa using h1,by rw [List.getD_cons_succ]; exact Prod.ext (by show n+1+i=n+(i+1); omega) rfl⟩
theorem sls_len (A:List (Nat × Nat)):(sls A).length=A.length:=by simp [sls]
theorem recvRows_rows:∀ (R:List (List Int)) (n:Nat),recvRows (rowsD R) n=(sls (adr R n),R.map bI)
  | [],_=>rfl
  | r :: R,n=>by
    have h:=recvRows_rows R (n+1)
    show recvRows (.own 1 (r.map encI) :: rowsD R) n=_
    simp only [recvRows,h,List.length_map]
    rfl
theorem recv_deep (R:List (List Int)) (x:Int) (H:Heap):∃ mx,recv (.tuple [.own 1 (rowsD R),.int .i64 x]) H=(.tuple [.sl H.length 0 R.length none R.length 1,.int .i64 x],H ++ [.arr 1 (sls (adr R (H.length+1))) true mx] ++ R.map bI):=by
  cases R with
  | nil =>
    refine ⟨0,?_⟩
    rw [List.map_nil,List.append_nil]
    rfl
  | cons r R =>
    refine ⟨H.length+1+(r :: R).length,?_⟩
    have ha:(rowsD (r :: R)).any isOwn=true:=rfl
    have hl:(rowsD (r :: R)).length=(r :: R).length:=by simp [rowsD]
    have h:recvCell (.own 1 (rowsD (r :: R))) H=(.sl H.length 0 (r :: R).length none (r :: R).length 1,H ++ [.arr 1 (sls (adr (r :: R) (H.length+1))) true (H.length+1+(r :: R).length)] ++ (r :: R).map bI):=by
      simp only [recvCell,ha,if_true,recvRows_rows,hl]
    simp only [recv,recvVals,recvVal,h]
    rfl
theorem sumsD_at {pol':Pol} (hp:pol'.prim 39=some sums39d) {l:List Int} {R:List (List Int)} {v1 v2:HV} {H:Heap} (h1:argI H v1 l) (h2:argR H v2 R) (hR:R.length ≤ 1000) :
    ∃ mx,∀ k,callN Tp pol' (k+1) 39 [v1,v2] H=some (.tuple [.sl H.length 0 (sumsT l R).1.length none (sumsT l R).1.length 1,.int .i64 (sumsT l R).2],H ++ [.arr 1 (sls (adr (sumsT l R).1 (H.length+1))) true mx] ++ (sumsT l R).1.map bI):=by
  obtain ⟨mx,h⟩:=recv_deep (sumsT l R).1 (sumsT l R).2 H
  refine ⟨mx,fun k=>?_⟩
  have hd:mapO decI (l.map encI)=some l:=mapO_map decI_enc l
  have hd2:mapO decR (R.map encR)=some R:=mapO_map decR_enc R
  unfold argI at h1
  unfold argR at h2
  rw [prim_call (pol:=pol') (g:=39) (F:=sums39d) hp (rs:=[.imm .arg 1 (l.map encI),.imm .arg 1 (R.map encR)]) (by simp only [mapO,h1,h2]) (res:=.tuple [.own 1 (rowsD (sumsT l R).1),.int .i64 (sumsT l R).2]) (by simp only [sums39d,hd,hd2]; rw [if_pos hR]),h]
theorem freeD_at {pol':Pol} (hp:pol'.prim 42=some free42d) {l:List Int} {v1:HV} {H:Heap} (h1:argI H v1 l) (hg:(newGroupT l).2=true) :
    ∃ mx,∀ k,callN Tp pol' (k+1) 42 [v1] H=some (.tuple [.sl H.length 0 (freeL l).length none (freeL l).length 1,.int .i64 0],H ++ [.arr 1 (sls (adr (freeL l) (H.length+1))) true mx] ++ (freeL l).map bI):=by
  obtain ⟨mx,h⟩:=recv_deep (freeL l) 0 H
  refine ⟨mx,fun k=>?_⟩
  have hd:mapO decI (l.map encI)=some l:=mapO_map decI_enc l
  unfold argI at h1
  rw [prim_call (pol:=pol') (g:=42) (F:=free42d) hp (rs:=[.imm .arg 1 (l.map encI)]) (by simp only [mapO,h1]) (res:=.tuple [.own 1 (rowsD (freeL l)),.int .i64 0]) (by simp only [free42d,liF,hd]; rw [if_pos hg]; rfl),h]
theorem arg_sl5 {H:Heap} {l:List Int} {b:Nat} (hb:H[b]?=some (bI l)):toArg H 5 (.sl b 0 l.length none l.length 1)=some (encR l):=by
  have e:toArg H 5 (.sl b 0 l.length none l.length 1)=if l.length=0 then some (.imm .arg 1 []) else match view H b 0 l.length l.length 1 with | some l=>(match mapO (toArg H 4) l with | some l=>some (.imm .arg 1 l) | none=>none) | none=>none:=rfl
  rw [e]
  split
  · rename_i h0
    rw [List.length_eq_zero_iff.1 h0]; rfl
  · have hv:=view_full hb (n:=l.length) (by simp)
    have hm:mapO (toArg H 4) (l.map encI)=some (l.map encI):=mapO_self (f:=toArg H 4) (g:=encI) (fun _=>rfl) l
    rw [hv]
    simp only [hm]
    rfl
theorem argR_deep {H:Heap} {R:List (List Int)} {b n m mx:Nat} (hm:R.length=m) (hb:H[b]?=some (.arr 1 (sls (adr R n)) true mx)) (hr:∀ i,i < R.length → H[n+i]?=some (bI (R.getD i []))):argR H (.sl b 0 m none m 1) R:=by
  subst hm
  unfold argR
  have e:toArg H 6 (.sl b 0 R.length none R.length 1)=if R.length=0 then some (.imm .arg 1 []) else match view H b 0 R.length R.length 1 with | some l=>(match mapO (toArg H 5) l with | some l=>some (.imm .arg 1 l) | none=>none) | none=>none:=rfl
  rw [e]
  split
  · rename_i h0
    rw [List.length_eq_zero_iff.1 h0]; rfl
  · have hv:=view_full hb (n:=R.length) (by rw [sls_len,adr_len])
    have key:∀ (R:List (List Int)) (n:Nat),(∀ i,i < R.length → H[n+i]?=some (bI (R.getD i []))) → mapO (toArg H 5) (sls (adr R n))=some (R.map encR):=by
      intro R
      induction R with
      | nil=>intro n _; rfl
      | cons r R ih =>
        intro n h
        have h0:=h 0 (by simp)
        have h1:=ih (n+1) fun i hi=>by
          have:=h (i+1) (by simpa using hi)
          rw [List.getD_cons_succ] at this
          rw [show n+1+i=n+(i+1) by omega]; exact this
        show mapO (toArg H 5) (.sl n 0 r.length none r.length 1 :: sls (adr R (n+1)))=_
        have a5:=arg_sl5 (H:=H) (l:=r) (b:=n) h0
        simp only [mapO,a5,h1]
        rfl
    rw [hv]
    simp only [key R n hr]
theorem app_rows {H:Heap} {v:HV} {xs:List HV} {fb q mx:Nat} (hs:H[fb]?=some (.arr 1 xs true mx)) (hq:xs.length=q) :
    builtinV Tp .append [35,35] [v,.sl fb 0 q none q 1] H=appV H 1 24 v xs:=by
  have hi:=info22b
  have hsrc:srcOf H (.sl fb 0 q none q 1)=some (xs,1):=by
    simp only [srcOf]
    split
    · rename_i h0
      rw [List.length_eq_zero_iff.1 (hq.trans h0)]
    · rw [view_full hs hq]; rfl
  cases hinf:Tp.info? 22 with
  | none=>rw [hinf] at hi; cases hi
  | some inf =>
    rw [hinf] at hi
    simp only [Option.map,Option.some.injEq,Prod.mk.injEq] at hi
    obtain ⟨e1,e2,e3⟩:=hi
    simp only [builtinV,u35,hinf,hsrc,e1,e2,e3]
    rw [if_pos ⟨.inl trivial,by omega,trivial⟩]
theorem app_first {H:Heap} {xs:List HV} {fb q mx:Nat} (hs:H[fb]?=some (.arr 1 xs true mx)) (hq:xs.length=q) (h0:0 < q) (h1:q ≤ 1000) :
    builtinV Tp .append [35,35] [.imm .lit 1 [],.sl fb 0 q none q 1] H=some (.sl H.length 0 q none q 1,H ++ [.arr 1 xs true (bndL xs)]):=by
  rw [app_rows hs hq]
  have hx:xs ≠ []:=fun e=>by rw [e] at hq; simp at hq; omega
  simp only [appV,if_neg hx]
  rw [if_pos ⟨.inl trivial,by simp only [roomMax,List.length_nil]; omega⟩]
  simp [hq]
theorem app_second {H:Heap} {els xs:List HV} {ab qa sb qs ma ms:Nat} (ha:H[ab]?=some (.arr 1 els true ma)) (hqa:els.length=qa) (hs:H[sb]?=some (.arr 1 xs true ms)) (hqs:xs.length=qs) (h1:qa+qs ≤ 1000) :
    ∃ H',builtinV Tp .append [35,35] [.sl ab 0 qa none qa 1,.sl sb 0 qs none qs 1] H=some (.sl ab 0 (qa+qs) none (qa+qs) 1,H')∧H'.length=H.length∧(∀ k,k ≠ ab → H'[k]?=H[k]?)∧∃ mx,H'[ab]?=some (.arr 1 (els ++ xs) true mx):=by
  rw [app_rows hs hqs]
  by_cases hx:xs=[]
  · subst hx
    have:qs=0:=by simpa using hqs.symm
    subst this
    refine ⟨H,by simp only [appV,if_true,Nat.add_zero],rfl,fun _ _=>rfl,ma,by rw [List.append_nil]; exact ha⟩
  · refine ⟨_,app_any ha hqa hx (by simp only [roomMax]; omega) |>.trans (by rw [hqs]),by simp,fun k hk=>List.getElem?_set_ne (by omega),_,List.getElem?_set_self ?_⟩
    rcases Nat.lt_or_ge ab H.length with h | h
    · exact h
    · rw [List.getElem?_eq_none h] at ha; cases ha
end Go.Proofs.Ytaibmipamkaljaa
end
section
open Go Go.HL
namespace Go.Proofs.Ytaibmipamkaljaa
open Go.Proofs.Try renaming prog → Tp
open Go.HL.HV renaming undef → Ud
theorem ints13 {pol':Pol} (hp:pol'.prim 17=some ints17) {a:List Int} {v1 v2:HV} {H:Heap} (h1:argI H v1 a) (h2:argI H v2 a) (hl:a.length ≤ 1000):∀ k,callN Tp pol' (k+1) 17 [v1,v2] H=some (.bool true,H):=fun k=>by
  rw [ints_at hp h1 h2 hl,decide_eq_true (rfl:a=a)]
theorem tables_at {pol':Pol} (hp:pol'.prim 45=some tables45) {A:List (List Int)} {v1 v2:HV} {H:Heap} (h1:argR H v1 A) (h2:argR H v2 A) (hA:A.length ≤ 1000∧∀ r ∈ A,r.length ≤ 1000) :
    ∀ k,callN Tp pol' (k+1) 45 [v1,v2] H=some (.bool true,H):=fun k=>by
  have hd:mapO decR (A.map encR)=some A:=mapO_map decR_enc A
  unfold argR at h1 h2
  rw [prim_call (pol:=pol') (g:=45) (F:=tables45) hp (rs:=[.imm .arg 1 (A.map encR),.imm .arg 1 (A.map encR)]) (by simp only [mapO,h1,h2]) (res:=.bool (decide (A=A))) (by simp only [tables45,rrF,hd]; rw [if_pos hA]),decide_eq_true (rfl:A=A)]
  rfl
theorem rsums_at {pol':Pol} (hp:pol'.prim 46=some rsums46) {l:List Int} {R:List (List Int)} {v1 v2:HV} {H:Heap} (h1:argI H v1 l) (h2:argR H v2 R) (hg:(newGroupT l).2=true) (hR:listB l R=true) :
    ∀ k,callN Tp pol' (k+1) 46 [v1,v2] H=some (.sl H.length 0 (sumsL l (sumS (grG l) (els l R))).length none (sumsL l (sumS (grG l) (els l R))).length 1,H ++ [bR (sumsL l (sumS (grG l) (els l R)))]):=fun k=>by
  have hd:mapO decI (l.map encI)=some l:=mapO_map decI_enc l
  have hd2:mapO decR (R.map encR)=some R:=mapO_map decR_enc R
  unfold argI at h1
  unfold argR at h2
  rw [prim_call (pol:=pol') (g:=46) (F:=rsums46) hp (rs:=[.imm .arg 1 (l.map encI),.imm .arg 1 (R.map encR)]) (by simp only [mapO,h1,h2]) (res:=.own 1 ((sumsL l (sumS (grG l) (els l R))).map encO)) (by simp only [rsums46,lrF,hd,hd2]; rw [if_pos ⟨hg,hR⟩]),recv_rows]
theorem sumsL_ok {gl:List Int} (hg:(newGroupT gl).2=true) (F:List El):(sumsL gl F).length ≤ 900∧∀ r ∈ sumsL gl F,r.length ≤ 2:=by
  have hs:=size_bnd hg
  refine ⟨?_,fun r hr=>?_⟩
  · rw [sumsL,List.length_map]
    have:=List.length_filter_le (fun (c:Nat)=>decide (tE gl (c:Int) ∈ F)) (List.range (sizeT gl).toNat)
    rw [List.length_range] at this
    omega
  · obtain ⟨c,_,rfl⟩:=List.mem_map.1 hr
    rw [← lst_tE hg,lst_len hg]
    have:=grp_len hg
    omega
theorem tab_id {F:List (List Int)} (h1:F.length ≤ 61) (h2:∀ x ∈ F,x.length ≤ 3):tabT F=F:=by
  rw [tabT,List.take_of_length_le h1]
  have:F.map (fun r=>r.take 3)=F.map id:=List.map_congr_left fun r hr=>List.take_of_length_le (h2 r hr)
  rw [this,List.map_id]
theorem ixo22 {b m i:Nat} (h:i < m):idxV Tp 22 (.sl b 0 m none m 1) (.int .i64 (i:Int))=some (.ptr b i 0 m):=by
  have:=idx_sl (P:=Tp) (t:=22) (b:=b) (len:=m) (tot:=m) (cap:=none) (ik:=.i64) (n:=(i:Int)) u22 z3 (by omega) (by omega)
  rwa [Int.toNat_natCast] at this
theorem ixo35 {b m i:Nat} (h:i < m):idxV Tp 35 (.sl b 0 m none m 1) (.int .i64 (i:Int))=some (.ptr b i 0 m):=by
  have:=idx_sl (P:=Tp) (t:=35) (b:=b) (len:=m) (tot:=m) (cap:=none) (ik:=.i64) (n:=(i:Int)) u35 z22 (by omega) (by omega)
  rwa [Int.toNat_natCast] at this
theorem st22 {H:Heap} {b j n:Nat} {x:List Int} (hb:H[b]?=some (bI x)) (hx:x.length=n) (hj:j < n):storeV Tp H 3 (.ptr b j 0 n) (.int .i64 (-7))=some (H.set b (bI (x.set j (-7)))):=by
  subst hx; exact store_out hb hj (-7)
structure OwH (G:List Int) (O:List (List Int)) (ab N:Nat) (A:List (Nat × Nat)) (H:Heap):Prop where
  len:H.length=N
  g0:H[0]?=some (bI G)
  g1:H[1]?=some (bI G)
  g2:H[2]?=some (bR O)
  g3:H[3]?=some (bR O)
  abt:3 < ab
  all:∃ mx,H[ab]?=some (.arr 1 (sls A) true mx)
  row:∀ p ∈ A,3 < p.1∧p.1 ≠ ab∧∃ x:List Int,x.length=p.2∧H[p.1]?=some (bI x)
theorem bI_len {x y:List Int} (h:bI x=bI y):x.length=y.length:=by
  simp only [bI,Blk.arr.injEq,true_and,and_true] at h
  have:=congrArg List.length h
  simpa using this
theorem OwH.set {G:List Int} {O:List (List Int)} {ab N:Nat} {A:List (Nat × Nat)} {H:Heap} (h:OwH G O ab N A H) {b:Nat} {x:List Int} (hb:H[b]?=some (bI x)) (h3:3 < b) (hn:b ≠ ab) (j:Nat) (v:Int):OwH G O ab N A (H.set b (bI (x.set j v))):=by
  have hlt:b < H.length:=by
    rcases Nat.lt_or_ge b H.length with h | h
    · exact h
    · rw [List.getElem?_eq_none h] at hb; cases hb
  refine ⟨by simp [h.len],?_,?_,?_,?_,h.abt,?_,fun p hp=>?_⟩
  · rw [List.getElem?_set_ne (by omega)]; exact h.g0
  · rw [List.getElem?_set_ne (by omega)]; exact h.g1
  · rw [List.getElem?_set_ne (by omega)]; exact h.g2
  · rw [List.getElem?_set_ne (by omega)]; exact h.g3
  · rw [List.getElem?_set_ne hn]; exact h.all
  · obtain ⟨r1,r2,y,r3,r4⟩:=h.row p hp
    refine ⟨r1,r2,?_⟩
    by_cases e:b=p.1
    · subst e
      rw [hb] at r4
      exact ⟨x.set j v,by rw [List.length_set,bI_len (Option.some.inj r4)]; exact r3,List.getElem?_set_self hlt⟩
    · exact ⟨y,r3,by rw [List.getElem?_set_ne e]; exact r4⟩
section
variable {l0:List Int} {R1:List (List Int)} {p0 p1 p2 p3:Nat}
abbrev soZ (l0:List Int) (R1:List (List Int)) (p0 p1 p2 p3 p4 fb qf sb qs:Nat) (v15:HV):Env:=(env13 (.imm .arg 1 (l0.map encI)) (.imm .arg 1 (R1.map encR)) (.bool false) (.sl 0 0 p0 none p0 1) (.sl 1 0 p1 none p1 1) (.sl 2 0 p2 none p2 1) (.sl 3 0 p3 none p3 1) (.sl 4 0 p4 none p4 1) (.sl fb 0 qf none qf 1) (.int .i64 0) (.sl sb 0 qs none qs 1) (.int .i64 0) v15 Ud Ud Ud Ud Ud Ud Ud)
abbrev soE (l0:List Int) (R1:List (List Int)) (p0 p1 p2 p3 ab qa:Nat) (v17 v18:HV):Env:=(env13 (.imm .arg 1 (l0.map encI)) (.imm .arg 1 (R1.map encR)) (.bool false) (.sl 0 0 p0 none p0 1) (.sl 1 0 p1 none p1 1) (.sl 2 0 p2 none p2 1) (.sl 3 0 p3 none p3 1) Ud Ud (.int .i64 0) Ud (.int .i64 0) Ud (.sl ab 0 qa none qa 1) v17 v18 Ud Ud Ud Ud)
theorem own_z {p4 fb qf sb qs:Nat} (hp:p4 ≤ 1000):∀ k i (H:Heap),i+k=p4 → (∃ x:List Int,x.length=p4∧H[4]?=some (bI x)) →
    ∃ H' y15,RT polL13 13 (sub [1,1,1,1,1,1,1,1,0,1,0] B13) (soZ l0 R1 p0 p1 p2 p3 p4 fb qf sb qs (.int .i64 (i:Int))) H (.exit 0) (soZ l0 R1 p0 p1 p2 p3 p4 fb qf sb qs y15) H'∧H'.length=H.length∧∀ k,k ≠ 4 → H'[k]?=H[k]?:=by
  intro k
  induction k with
  | zero =>
    intro i H hi _
    have s:=so_l_1 (l0.map encI) (R1.map encR) 0 H p0 p1 p2 p3 p4 fb qf sb qs i (y16:=Ud) (y17:=Ud) (y18:=Ud) (y19:=Ud) (y20:=Ud) (y21:=Ud) (y22:=Ud) (by omega)
    exact ⟨H,_,lpo (s) (c:=sub [1,1,1,1,1,1,1,1,0,1,0] B13),rfl,fun _ _=>rfl⟩
  | succ k ih =>
    rintro i H hi ⟨x,hx,hb⟩
    have hst:=st22 (j:=i) hb hx (by omega)
    have s:=so_l_0 (l0.map encI) (R1.map encR) 0 H p0 p1 p2 p3 p4 fb qf sb qs i (y16:=Ud) (y17:=Ud) (y18:=Ud) (y19:=Ud) (y20:=Ud) (y21:=Ud) (y22:=Ud) (by omega) (ixo22 (by omega)) hst
    rw [wrap_succ (by omega)] at s
    have hlt:4 < H.length:=by
      rcases Nat.lt_or_ge 4 H.length with h | h
      · exact h
      · rw [List.getElem?_eq_none h] at hb; cases hb
    obtain ⟨H',y15,r,h1,h2⟩:=ih (i+1) _ (by omega) ⟨x.set i (-7),by simp [hx],List.getElem?_set_self hlt⟩
    exact ⟨H',y15,lop (s) (gc_eq _ (by simp)) (r),by rw [h1]; simp,fun k hk=>by rw [h2 k hk,List.getElem?_set_ne (by omega)]⟩
end
section
variable {l0:List Int} {R1:List (List Int)} {p0 p1 p2 p3:Nat}
variable {G:List Int} {O:List (List Int)} {ab N:Nat} {A:List (Nat × Nat)}
theorem OwH.ld {H:Heap} (h:OwH G O ab N A H) {i:Nat} (hi:i < A.length):loadV Tp H 22 (.ptr ab i 0 A.length)=some (.sl (A.getD i (0,0)).1 0 (A.getD i (0,0)).2 none (A.getD i (0,0)).2 1):=by
  obtain ⟨mx,hb⟩:=h.all
  exact load_elem (b:=ab) hb (by rw [sls_len]) (by rw [sls,List.getElem?_map,List.getElem?_eq_getElem hi]; simp [List.getD,List.getElem?_eq_getElem hi]) rfl a22 i22
theorem own_in (hA:∀ p ∈ A,p.2 ≤ 1000) {i:Nat} (hi:i < A.length):∀ k j (H:Heap),j+k=(A.getD i (0,0)).2 → OwH G O ab N A H →
    ∃ H' y18,RT polL13 13 (sub [1,1,1,1,1,1,1,1,1,1,0,1,0,0,1,0,0,1,0] B13) (soE l0 R1 p0 p1 p2 p3 ab A.length (.int .i64 (i:Int)) (.int .i64 (j:Int))) H (.exit 4) (soE l0 R1 p0 p1 p2 p3 ab A.length (.int .i64 (i:Int)) y18) H'∧OwH G O ab N A H':=by
  have hm:A.getD i (0,0) ∈ A:=by rw [List.getD,List.getElem?_eq_getElem hi]; exact List.getElem_mem hi
  have hz:=hA _ hm
  intro k
  induction k with
  | zero =>
    intro j H hj hH
    have s:=so_r_1 (l0.map encI) (R1.map encR) 0 H p0 p1 p2 p3 ab A.length i j (A.getD i (0,0)).1 (A.getD i (0,0)).2 (y9:=Ud) (y11:=Ud) (y13:=Ud) (y15:=Ud) (y19:=Ud) (y20:=Ud) (y21:=Ud) (y22:=Ud) (ixo35 hi) (hH.ld hi) (by omega)
    exact ⟨H,_,lpo (s) (c:=sub [1,1,1,1,1,1,1,1,1,1,0,1,0,0,1,0,0,1,0] B13),hH⟩
  | succ k ih =>
    intro j H hj hH
    obtain ⟨r1,r2,x,hx,hb⟩:=hH.row _ hm
    have hst:=st22 (j:=j) hb hx (by omega)
    have s:=so_r_0 (l0.map encI) (R1.map encR) 0 H p0 p1 p2 p3 ab A.length i j (A.getD i (0,0)).1 (A.getD i (0,0)).2 (y9:=Ud) (y11:=Ud) (y13:=Ud) (y15:=Ud) (y19:=Ud) (y20:=Ud) (y21:=Ud) (y22:=Ud) (ixo35 hi) (hH.ld hi) (by omega) (ixo35 hi) (hH.ld hi) (ixo22 (by omega)) hst
    rw [wrap_succ (by omega)] at s
    obtain ⟨H',y18,r,hr⟩:=ih (j+1) _ (by omega) (hH.set hb r1 r2 j (-7))
    exact ⟨H',y18,lop (s) (gc_eq _ (by simp)) (r),hr⟩
theorem own_out (hA:∀ p ∈ A,p.2 ≤ 1000) (hAl:A.length ≤ 1000):∀ (k i:Nat) (H:Heap),i+k=A.length → OwH G O ab N A H →
    ∃ H' y17 y18,RT polL13 13 (sub [1,1,1,1,1,1,1,1,1,1,0,1,0] B13) (soE l0 R1 p0 p1 p2 p3 ab A.length (.int .i64 (i:Int)) Ud) H (.exit 2) (soE l0 R1 p0 p1 p2 p3 ab A.length y17 y18) H'∧OwH G O ab N A H':=by
  intro k
  induction k with
  | zero =>
    intro i H hi hH
    have s:=so_o_1 (l0.map encI) (R1.map encR) 0 H p0 p1 p2 p3 ab A.length i (y9:=Ud) (y11:=Ud) (y13:=Ud) (y15:=Ud) (y18:=Ud) (y19:=Ud) (y20:=Ud) (y21:=Ud) (y22:=Ud) (by omega)
    exact ⟨H,_,_,lpo (sqo (s) (c:=sub [1,1,1,1,1,1,1,1,1,1,0,1,0,0] B13) (b:=sub [1,1,1,1,1,1,1,1,1,1,0,1,0,0,1] B13)) (c:=sub [1,1,1,1,1,1,1,1,1,1,0,1,0] B13),hH⟩
  | succ k ih =>
    intro i H hi hH
    have hlt:i < A.length:=by omega
    have s1:=so_o_0 (l0.map encI) (R1.map encR) 0 H p0 p1 p2 p3 ab A.length i (y9:=Ud) (y11:=Ud) (y13:=Ud) (y15:=Ud) (y18:=Ud) (y19:=Ud) (y20:=Ud) (y21:=Ud) (y22:=Ud) (by omega)
    have s2:=so_q_0 (l0.map encI) (R1.map encR) 0 H p0 p1 p2 p3 ab A.length i (y9:=Ud) (y11:=Ud) (y13:=Ud) (y15:=Ud) (y18:=Ud) (y19:=Ud) (y20:=Ud) (y21:=Ud) (y22:=Ud)
    obtain ⟨H1,z18,r1,hH1⟩:=own_in (l0:=l0) (R1:=R1) (p0:=p0) (p1:=p1) (p2:=p2) (p3:=p3) hA hlt (A.getD i (0,0)).2 0 H (by omega) hH
    have s3:=so_s_0 (l0.map encI) (R1.map encR) 0 H1 p0 p1 p2 p3 ab A.length i (y18:=z18) (y9:=Ud) (y11:=Ud) (y13:=Ud) (y15:=Ud) (y19:=Ud) (y20:=Ud) (y21:=Ud) (y22:=Ud)
    rw [wrap_succ (by omega)] at s3
    obtain ⟨H',y17,y18,r,hr⟩:=ih (i+1) H1 (by omega) hH1
    exact ⟨H',y17,y18,lop (sq (s1) (sq (RunsTo.block_normal (i:=3) (c:=sub [1,1,1,1,1,1,1,1,1,1,0,1,0,0,1,0] B13) (sq (s2) (bke (c:=sub [1,1,1,1,1,1,1,1,1,1,0,1,0,0,1,0,0,1] B13) (lpi (e0:=(soE l0 R1 p0 p1 p2 p3 ab A.length (.int .i64 (i:Int)) (.int .i64 ((0:Nat):Int)))) r1 (b:=sub [1,1,1,1,1,1,1,1,1,1,0,1,0,0,1,0,0,1,0,0] B13))) (c:=sub [1,1,1,1,1,1,1,1,1,1,0,1,0,0,1,0,0] B13)) (by kernel_rfl)) (s3) (c:=sub [1,1,1,1,1,1,1,1,1,1,0,1,0,0,1] B13)) (c:=sub [1,1,1,1,1,1,1,1,1,1,0,1,0,0] B13)) (gc_eq _ (by rw [hH.len,hH1.len])) (r),hr⟩
end
theorem get_l {H X:Heap} {k:Nat} {B:Blk} (h:H[k]?=some B):(H ++ X)[k]?=some B:=by
  rcases Nat.lt_or_ge k H.length with c | c
  · rw [List.getElem?_append_left c]; exact h
  · rw [List.getElem?_eq_none c] at h; cases h
theorem free_pos {gl:List Int} (hg:(newGroupT gl).2=true):0 < (freeL gl).length:=by
  rcases grp_cases hg with ⟨a,rfl,h1,h2⟩ | ⟨a,b,rfl,h1,h2,h3,h4,h5,h6⟩
  · simp only [freeL,List.length_replicate]; omega
  · simp only [freeL,List.length_append,List.length_replicate]; omega
theorem rows_get (H:Heap) (B:Blk) (R:List (List Int)):∀ i,i < R.length → (H ++ [B] ++ R.map bI)[H.length+1+i]?=some (bI (R.getD i [])):=fun i hi=>by
  rw [List.getElem?_append_right (by simp)]
  simp only [List.length_append,List.length_singleton]
  rw [show H.length+1+i - (H.length+1)=i by omega,List.getElem?_map,List.getElem?_eq_getElem hi]
  simp [List.getD,List.getElem?_eq_getElem hi]
theorem hd_get (H:Heap) (B:Blk) (X:Heap):(H ++ [B] ++ X)[H.length]?=some B:=by
  rw [List.append_assoc,List.getElem?_append_right (Nat.le_refl _),Nat.sub_self]; rfl
theorem sumsOwn_law (l0:List Int) (R1:List (List Int)):∃ E H,RT polL13 13 B13 (args0 [.imm .arg 1 (l0.map encI),.imm .arg 1 (R1.map encR)]) [] .ret E H∧E.get 4=.bool true:=by
  obtain ⟨g,e,hG⟩:=grp_L l0
  have hpos:=hG.pos
  obtain ⟨hgg,hg⟩:=grG_eq hG
  have c23:=group_at (pol':=polL13) (by kernel_rfl) l0 []
  have c24:=elements24_at (pol':=polL13) (by kernel_rfl) (gl:=grpT l0) (R:=R1) (v1:=.sl 0 0 (grpT l0).length none (grpT l0).length 1) (v2:=.imm .arg 1 (R1.map encR)) (c:=20) (H:=[bI (grpT l0),bI (grpT l0)]) (argI_sl rfl rfl) (argR_imm _ _) ⟨hpos.1,by omega,by rw [List.length_take]; omega,by omega⟩
  have hR:=rowsE_el hG R1 20
  have hl:=rowsE_len (grpT l0) R1 20
  have hgl:=grp_len hg
  have hOr:∀ x ∈ rowsE (grpT l0) R1 20,x.length=(grpT l0).length:=fun x hx=>by
    obtain ⟨r,_,rfl⟩:=List.mem_map.1 hx
    simp [rowE]
  have a:=so_a_0 (l0.map encI) (R1.map encR) 0
  generalize grpT l0=G at *
  generalize rowsE G R1 20=O at *
  have hl':O.length ≤ 20:=hl
  have hlB:=listB_iff.2 ⟨hR,show O.length ≤ 60 by omega⟩
  have hOT:tabT O=O:=tab_id (by omega) fun x hx=>by rw [hOr x hx]; omega
  have hGT:G.take 110=G:=List.take_of_length_le (by omega)
  have c14:=list_at (pol':=polL13) (by kernel_rfl) (l:=G) (v:=.sl 0 0 G.length none G.length 1) (H:=[bI G]) (argI_sl rfl rfl)
  rw [hGT] at c14
  have c33:=table_at (pol':=polL13) (by kernel_rfl) (R:=O) (v:=.sl 2 0 O.length none O.length 1) (H:=[bI G,bI G,bR O]) (argR_sl rfl rfl)
  rw [hOT] at c33
  have c26:=zero_at (pol':=polL13) (by kernel_rfl) (l:=G) (R:=O) (H:=[bI G,bI G,bR O,bR O]) (v1:=.sl 0 0 G.length none G.length 1) (v2:=.sl 2 0 O.length none O.length 1) (argI_sl rfl rfl) (argR_sl rfl rfl) (by omega)
  have hZl:(zeroT G O).1.length ≤ 1000:=by
    rcases zero_cases hg hR (by omega) with ⟨h1,_⟩ | ⟨o,k1,k2,k3,k4,k5⟩
    · rw [h1]; simp
    · rw [k5]
      have hall:∀ x ∈ els G O,elOk (grG G) x:=fun x hx=>by
        obtain ⟨r,hr,rfl⟩:=List.mem_map.1 hx
        exact eE_ok hg (hR r hr)
      have pl:=partT_len (grG_ok hg) (els G O) 0 ((o:Int),(0,0)) hall k3
      show (partI _ _ _).length ≤ 1000
      simp only [partI,List.length_map]
      omega
  generalize (zeroT G O).1=Zz at *
  generalize (zeroT G O).2=ez at *
  obtain ⟨f1,f2,f3⟩:=free_len hg
  have f4:=free_el hg
  have f5:=free_pos hg
  obtain ⟨mf,c42⟩:=freeD_at (pol':=polL13) (by kernel_rfl) (l:=G) (v1:=.sl 0 0 G.length none G.length 1) (H:=[bI G,bI G,bR O,bR O,bI Zz]) (argI_sl rfl rfl) hg
  have fB:listB G (freeL G)=true:=listB_iff.2 ⟨f4,by omega⟩
  have frD:=fun (H:Heap) (h0:H[0]?=some (bI G))=>freeD_at (pol':=polL13) (by kernel_rfl) (l:=G) (v1:=.sl 0 0 G.length none G.length 1) (H:=H) (argI_sl rfl h0) hg
  have smD:=fun (H:Heap) (h0:H[0]?=some (bI G)) (h2:H[2]?=some (bR O))=>sumsD_at (pol':=polL13) (by kernel_rfl) (l:=G) (R:=O) (v1:=.sl 0 0 G.length none G.length 1) (v2:=.sl 2 0 O.length none O.length 1) (H:=H) (argI_sl rfl h0) (argR_sl rfl h2) (by omega)
  rw [sumsT_B hg hlB] at smD
  have rsm:=fun (H:Heap) (h1:H[1]?=some (bI G)) (h3:H[3]?=some (bR O))=>rsums_at (pol':=polL13) (by kernel_rfl) (l:=G) (R:=O) (v1:=.sl 1 0 G.length none G.length 1) (v2:=.sl 3 0 O.length none O.length 1) (H:=H) (argI_sl rfl h1) (argR_sl rfl h3) hg hlB
  obtain ⟨s1,s2⟩:=sumsL_ok hg (sumS (grG G) (els G O))
  generalize sumsL G (sumS (grG G) (els G O))=S at *
  generalize freeL G=F at *
  -- the calls
  have b:=so_b_0 (l0.map encI) (R1.map encR) 0 (p0:=G.length) (h0:=G.map encI) (y5:=Ud) (y6:=Ud) (y7:=Ud) (y8:=Ud) (y9:=Ud) (y11:=Ud) (y12:=Ud) (y13:=Ud) (y14:=Ud) (y15:=Ud) (y16:=Ud) (y17:=Ud) (y18:=Ud) (y19:=Ud) (y20:=Ud) (y21:=Ud) (y22:=Ud) c23
  have c:=so_c_0 (l0.map encI) (R1.map encR) 0 G.length (G.map encI) (p1:=G.length) (h1:=G.map encI) (y6:=Ud) (y7:=Ud) (y8:=Ud) (y9:=Ud) (y11:=Ud) (y12:=Ud) (y13:=Ud) (y14:=Ud) (y15:=Ud) (y16:=Ud) (y17:=Ud) (y18:=Ud) (y19:=Ud) (y20:=Ud) (y21:=Ud) (y22:=Ud) c14
  have d:=so_d_0 (l0.map encI) (R1.map encR) 0 G.length (G.map encI) G.length (G.map encI) (p2:=O.length) (h2:=O.map encO) (y7:=Ud) (y8:=Ud) (y9:=Ud) (y11:=Ud) (y12:=Ud) (y13:=Ud) (y14:=Ud) (y15:=Ud) (y16:=Ud) (y17:=Ud) (y18:=Ud) (y19:=Ud) (y20:=Ud) (y21:=Ud) (y22:=Ud) c24
  have e1:=so_e_0 (l0.map encI) (R1.map encR) 0 G.length (G.map encI) G.length (G.map encI) O.length (O.map encO) (p3:=O.length) (h3:=O.map encO) (y8:=Ud) (y9:=Ud) (y11:=Ud) (y12:=Ud) (y13:=Ud) (y14:=Ud) (y15:=Ud) (y16:=Ud) (y17:=Ud) (y18:=Ud) (y19:=Ud) (y20:=Ud) (y21:=Ud) (y22:=Ud) c33
  have f:=so_f_0 (l0.map encI) (R1.map encR) ez G.length (G.map encI) G.length (G.map encI) O.length (O.map encO) O.length (O.map encO) (p4:=Zz.length) (h4:=Zz.map encI) (y9:=Ud) (y11:=Ud) (y12:=Ud) (y13:=Ud) (y14:=Ud) (y15:=Ud) (y16:=Ud) (y17:=Ud) (y18:=Ud) (y19:=Ud) (y20:=Ud) (y21:=Ud) (y22:=Ud) c26
  have gg:=so_g_0 (l0.map encI) (R1.map encR) 0 [bI G,bI G,bR O,bR O,bI Zz] G.length G.length O.length O.length Zz.length 5 F.length (y11:=Ud) (y12:=Ud) (y13:=Ud) (y14:=Ud) (y15:=Ud) (y16:=Ud) (y17:=Ud) (y18:=Ud) (y19:=Ud) (y20:=Ud) (y21:=Ud) (y22:=Ud) c42
  generalize hH6:([bI G,bI G,bR O,bR O,bI Zz]:Heap) ++ [Blk.arr 1 (sls (adr F (([bI G,bI G,bR O,bR O,bI Zz]:Heap).length+1))) true mf] ++ F.map bI=H6 at gg
  have h6:∀ k B,([bI G,bI G,bR O,bR O,bI Zz]:Heap)[k]?=some B → H6[k]?=some B:=fun k B h=>by rw [← hH6,List.append_assoc]; exact get_l h
  have h6f:H6[5]?=some (.arr 1 (sls (adr F 6)) true mf):=by rw [← hH6]; exact hd_get _ _ _
  have h6r:∀ i,i < F.length → H6[6+i]?=some (bI (F.getD i [])):=fun i hi=>by rw [← hH6]; exact rows_get _ _ F i hi
  obtain ⟨ms,c39⟩:=smD H6 (h6 0 _ rfl) (h6 2 _ rfl)
  have hh:=so_h_0 (l0.map encI) (R1.map encR) 0 H6 G.length G.length O.length O.length Zz.length 5 F.length H6.length S.length (y13:=Ud) (y14:=Ud) (y15:=Ud) (y16:=Ud) (y17:=Ud) (y18:=Ud) (y19:=Ud) (y20:=Ud) (y21:=Ud) (y22:=Ud) c39
  have hs6:=hd_get H6 (.arr 1 (sls (adr S (H6.length+1))) true ms) (S.map bI)
  have hr6:=rows_get H6 (.arr 1 (sls (adr S (H6.length+1))) true ms) S
  generalize hH7:H6 ++ [Blk.arr 1 (sls (adr S (H6.length+1))) true ms] ++ S.map bI=H7 at hh hs6 hr6
  have h7:∀ k B,H6[k]?=some B → H7[k]?=some B:=fun k B h=>by rw [← hH7,List.append_assoc]; exact get_l h
  have ii:=so_i_0 (l0.map encI) (R1.map encR) 0 H7 G.length G.length O.length O.length Zz.length 5 F.length H6.length S.length (y15:=Ud) (y16:=Ud) (y17:=Ud) (y18:=Ud) (y19:=Ud) (y20:=Ud) (y21:=Ud) (y22:=Ud)
  obtain ⟨H8,y15,rz,z1,z2⟩:=own_z (l0:=l0) (R1:=R1) (p0:=G.length) (p1:=G.length) (p2:=O.length) (p3:=O.length) (fb:=5) (qf:=F.length) (sb:=H6.length) (qs:=S.length) hZl Zz.length 0 H7 (by omega) ⟨Zz,rfl,h7 4 _ (h6 4 _ rfl)⟩
  have h8:∀ k B,k ≠ 4 → H6[k]?=some B → H8[k]?=some B:=fun k B hk h=>by rw [z2 k hk]; exact h7 k B h
  have h6l:5 < H6.length:=by rw [← hH6]; simp
  have ap1:=app_first (h8 5 _ (by omega) h6f) (by rw [sls_len,adr_len]) f5 (by omega)
  have h9s:(H8 ++ [Blk.arr 1 (sls (adr F 6)) true (bndL (sls (adr F 6)))])[H6.length]?=some (.arr 1 (sls (adr S (H6.length+1))) true ms):=get_l (by rw [z2 _ (by omega)]; exact hs6)
  obtain ⟨H10,ap2,k1,k2,m10,k3⟩:=app_second (H:=H8 ++ [Blk.arr 1 (sls (adr F 6)) true (bndL (sls (adr F 6)))]) (ab:=H8.length) (qa:=F.length) (sb:=H6.length) (qs:=S.length) (get_app _ _) (by rw [sls_len,adr_len]) h9s (by rw [sls_len,adr_len]) (by omega)
  have m:=so_m_0 (l0.map encI) (R1.map encR) 0 H8 G.length G.length O.length O.length Zz.length 5 F.length H6.length S.length H8.length (F.length+S.length) (y15:=y15) (y16:=Ud) (y17:=Ud) (y18:=Ud) (y19:=Ud) (y20:=Ud) (y21:=Ud) (y22:=Ud) ap1 ap2
  have n:=so_n_0 (l0.map encI) (R1.map encR) 0 H10 G.length G.length O.length O.length H8.length (F.length+S.length) (y9:=.sl 4 0 Zz.length none Zz.length 1) (y11:=.sl 5 0 F.length none F.length 1) (y13:=.sl H6.length 0 S.length none S.length 1) (y15:=y15) (y17:=Ud) (y18:=Ud) (y19:=Ud) (y20:=Ud) (y21:=Ud) (y22:=Ud)
  have h78:H7.length=H6.length+1+S.length:=by rw [← hH7]; simp; omega
  have h66:H6.length=6+F.length:=by rw [← hH6]; simp; omega
  have h10:∀ k B,k ≠ 4 → H6[k]?=some B → H10[k]?=some B:=fun k B hk h=>by
    have hk6:k < H6.length:=by
      rcases Nat.lt_or_ge k H6.length with c | c
      · exact c
      · rw [List.getElem?_eq_none c] at h; cases h
    rw [k2 k (by omega)]; exact get_l (h8 k B hk h)
  have hall:OwH G O H8.length (H8.length+1) (adr F 6 ++ adr S (H6.length+1)) H10:=by
    refine ⟨by rw [k1]; simp,h10 0 _ (by omega) (h6 0 _ rfl),h10 1 _ (by omega) (h6 1 _ rfl),h10 2 _ (by omega) (h6 2 _ rfl),h10 3 _ (by omega) (h6 3 _ rfl),by omega,⟨m10,?_⟩,fun p hp=>?_⟩
    · rw [k3,sls,sls,sls,List.map_append]
    · rcases List.mem_append.1 hp with hp | hp
      · obtain ⟨i,i1,rfl⟩:=adr_mem hp
        exact ⟨by simp; omega,by simp; omega,F.getD i [],rfl,h10 _ _ (by simp; omega) (h6r i i1)⟩
      · obtain ⟨i,i1,rfl⟩:=adr_mem hp
        refine ⟨by simp; omega,by simp; omega,S.getD i [],rfl,?_⟩
        simp only
        rw [k2 _ (by omega)]
        refine get_l ?_
        rw [z2 _ (by omega)]
        exact hr6 i i1
  have hAl:(adr F 6 ++ adr S (H6.length+1)).length=F.length+S.length:=by rw [List.length_append,adr_len,adr_len]
  have hAr:∀ p ∈ adr F 6 ++ adr S (H6.length+1),p.2 ≤ 1000:=fun p hp=>by
    rcases List.mem_append.1 hp with hp | hp
    · obtain ⟨i,i1,rfl⟩:=adr_mem hp
      have:=f3 (F.getD i []) (by rw [List.getD,List.getElem?_eq_getElem i1]; exact List.getElem_mem i1)
      simp only; omega
    · obtain ⟨i,i1,rfl⟩:=adr_mem hp
      have:=s2 (S.getD i []) (by rw [List.getD,List.getElem?_eq_getElem i1]; exact List.getElem_mem i1)
      simp only; omega
  generalize adr F 6 ++ adr S (H6.length+1)=A at hall hAl hAr
  rw [← hAl] at m n
  obtain ⟨H11,y17,y18,ro,hO⟩:=own_out (l0:=l0) (R1:=R1) (p0:=G.length) (p1:=G.length) (p2:=O.length) (p3:=O.length) hAr (by omega) A.length 0 H10 (by omega) hall
  obtain ⟨mt,t39⟩:=smD H11 hO.g0 hO.g2
  have t:=su2_t_0 (l0.map encI) (R1.map encR) H11 G.length G.length O.length O.length H11.length S.length (y16:=.sl H8.length 0 A.length none A.length 1) (y17:=y17) (y18:=y18) (y9:=Ud) (y11:=Ud) (y13:=Ud) (y15:=Ud) (y19:=Ud) (y20:=Ud) (y21:=Ud) (y22:=Ud) t39
  have ht12:=hd_get H11 (.arr 1 (sls (adr S (H11.length+1))) true mt) (S.map bI)
  have hr12:=rows_get H11 (.arr 1 (sls (adr S (H11.length+1))) true mt) S
  generalize hH12:H11 ++ [Blk.arr 1 (sls (adr S (H11.length+1))) true mt] ++ S.map bI=H12 at t ht12 hr12
  have h12:∀ k B,H11[k]?=some B → H12[k]?=some B:=fun k B h=>by rw [← hH12,List.append_assoc]; exact get_l h
  obtain ⟨mu,u42⟩:=frD H12 (h12 0 _ hO.g0)
  have u:=su2_u_0 (l0.map encI) (R1.map encR) H12 G.length G.length O.length O.length H11.length S.length H12.length F.length (y16:=.sl H8.length 0 A.length none A.length 1) (y17:=y17) (y18:=y18) (y9:=Ud) (y11:=Ud) (y13:=Ud) (y15:=Ud) (y21:=Ud) (y22:=Ud) u42
  have hu13:=hd_get H12 (.arr 1 (sls (adr F (H12.length+1))) true mu) (F.map bI)
  have hr13:=rows_get H12 (.arr 1 (sls (adr F (H12.length+1))) true mu) F
  generalize hH13:H12 ++ [Blk.arr 1 (sls (adr F (H12.length+1))) true mu] ++ F.map bI=H13 at u hu13 hr13
  have h13:∀ k B,H12[k]?=some B → H13[k]?=some B:=fun k B h=>by rw [← hH13,List.append_assoc]; exact get_l h
  have q1:=ints13 (pol':=polL13) (by kernel_rfl) (a:=G) (v1:=.sl 0 0 G.length none G.length 1) (v2:=.sl 1 0 G.length none G.length 1) (H:=H13) (argI_sl rfl (h13 _ _ (h12 _ _ hO.g0))) (argI_sl rfl (h13 _ _ (h12 _ _ hO.g1))) (by omega)
  have q2:=tables_at (pol':=polL13) (by kernel_rfl) (A:=O) (v1:=.sl 2 0 O.length none O.length 1) (v2:=.sl 3 0 O.length none O.length 1) (H:=H13) (argR_sl rfl (h13 _ _ (h12 _ _ hO.g2))) (argR_sl rfl (h13 _ _ (h12 _ _ hO.g3))) ⟨by omega,fun r hr=>by rw [hOr r hr]; omega⟩
  have q3:=rsm H13 (h13 _ _ (h12 _ _ hO.g1)) (h13 _ _ (h12 _ _ hO.g3))
  have q4:=tables_at (pol':=polL13) (by kernel_rfl) (A:=S) (v1:=.sl H11.length 0 S.length none S.length 1) (v2:=.sl H13.length 0 S.length none S.length 1) (H:=H13 ++ [bR S]) (argR_deep (n:=H11.length+1) rfl (get_l (h13 _ _ ht12)) fun i hi=>get_l (h13 _ _ (hr12 i hi))) (argR_sl rfl (get_app _ _)) ⟨by omega,fun r hr=>by have:=s2 r hr; omega⟩
  have q5:=list36_at (pol':=polL13) (by kernel_rfl) (gl:=G) (R:=F) (v1:=.sl 1 0 G.length none G.length 1) (v2:=.sl H12.length 0 F.length none F.length 1) (H:=H13 ++ [bR S]) (argI_sl rfl (get_l (h13 _ _ (h12 _ _ hO.g1)))) (argR_deep (n:=H12.length+1) rfl (get_l hu13) fun i hi=>get_l (hr13 i hi)) ⟨by omega,by omega⟩
  rw [fB] at q5
  have q6:=awake_at (pol':=polL13) (by kernel_rfl) (H13 ++ [bR S])
  have v:=su2_v_0 (l0.map encI) (R1.map encR) H13 G.length G.length O.length O.length H11.length S.length H12.length F.length H13.length S.length (y16:=.sl H8.length 0 A.length none A.length 1) (y17:=y17) (y18:=y18) (y9:=Ud) (y11:=Ud) (y13:=Ud) (y15:=Ud) q1 q2 q3 q4 q5 q6
  exact ⟨_,_,sq (a) (sq (b) (sq (c) (sq (d) (sq (e1) (sq (f) (sq (gg) (sq (hh) (sq (sq (ii) (bke (c:=sub [1,1,1,1,1,1,1,1,0,1] B13) (lpi (e0:=(soZ l0 R1 G.length G.length O.length O.length Zz.length 5 F.length H6.length S.length (.int .i64 ((0:Nat):Int)))) rz (b:=sub [1,1,1,1,1,1,1,1,0,1,0,0] B13))) (c:=sub [1,1,1,1,1,1,1,1,0] B13)) (sq (m) (sq (sq (n) (bke (c:=sub [1,1,1,1,1,1,1,1,1,1,0,1] B13) (lpi (e0:=(env13 (.imm .arg 1 (l0.map encI)) (.imm .arg 1 (R1.map encR)) (.bool false) (.sl 0 0 G.length none G.length 1) (.sl 1 0 G.length none G.length 1) (.sl 2 0 O.length none O.length 1) (.sl 3 0 O.length none O.length 1) (.sl 4 0 Zz.length none Zz.length 1) (.sl 5 0 F.length none F.length 1) (.int .i64 0) (.sl H6.length 0 S.length none S.length 1) (.int .i64 0) y15 (.sl H8.length 0 A.length none A.length 1) (.int .i64 ((0:Nat):Int)) Ud Ud Ud Ud Ud)) ro (b:=sub [1,1,1,1,1,1,1,1,1,1,0,1,0,0] B13))) (c:=sub [1,1,1,1,1,1,1,1,1,1,0] B13)) (sq (t) (sq (u) (v) (c:=sub [1,1,1,1,1,1,1,1,1,1,1,1] B13)) (c:=sub [1,1,1,1,1,1,1,1,1,1,1] B13)) (c:=sub [1,1,1,1,1,1,1,1,1,1] B13)) (c:=sub [1,1,1,1,1,1,1,1,1] B13)) (c:=sub [1,1,1,1,1,1,1,1] B13)) (c:=sub [1,1,1,1,1,1,1] B13)) (c:=sub [1,1,1,1,1,1] B13)) (c:=sub [1,1,1,1,1] B13)) (c:=sub [1,1,1,1] B13)) (c:=sub [1,1,1] B13)) (c:=sub [1,1] B13)) (c:=sub [1] B13)) (c:=B13),rfl⟩
end Go.Proofs.Ytaibmipamkaljaa
end
section
namespace Go.HL
open Go.ChangeShapes Go.WideShapes Go.ChangeAt Go.RowKit Go.Deep
theorem okNil (w:World) (r:Nat):okOf Ctx.nil w.heap.size false r:=by
  refine ⟨fun hM=>?_,by simp⟩
  obtain ⟨b,y,h1,_,_⟩:=M_iff.1 hM
  simp [Ctx.nil] at h1
theorem cell_lt {w:World} {a:Addr} {v:Value} (h:w.cell? a=some v):a.block < w.heap.size:=by
  rcases Nat.lt_or_ge a.block w.heap.size with hl | hl
  · exact hl
  · have:w.heap[a.block]?=none:=by simp [hl]
    simp [World.cell?,this] at h
end Go.HL
end
section
namespace Go.HL
open Go.ChangeShapes Go.WideShapes Go.ChangeAt Go.RowKit Go.Deep
theorem arg_ints_ok {H:Type} {enc:TypeId × Value → H} {P:Program} {W:World} {base:Nat} {t q:TypeId} {v:Value} {d:DataW H} {ps:List MemPlace} (ht:P.underlying t=some (.slice q)) (hq:P.underlying q=some (.int .i64)) (cq:P.cellsOf q=1)
    (hval:Value.okWide P W .any base t v) (hd:DataW.Trod enc P W 0 (fun _=>true) true t v d ps):∃ l:List Int,V W (okOf Ctx.nil W.heap.size) Ctx.nil (.imm .arg 1 (l.map encI)) v:=by
  obtain ⟨a,len,cap,rfl⟩:=okWide_slice ht hval
  obtain ⟨fuel,hf⟩:=hd
  rcases open_slice ht hf with ⟨h0,_⟩ | ⟨a',len',cap',m,n,D,Pl,h0,hb,hl,hm,hmm,hx,hel⟩
  · simp [Value.cells] at h0
    obtain ⟨rfl,rfl,rfl⟩:=h0
    exact ⟨[],.imm .arg 1 [] none 0 (fun _=>.bool false) (by simp) (by simp) (by simp) (by simp) (by simp) (by simp)⟩
  · simp [Value.cells] at h0
    obtain ⟨rfl,rfl,rfl⟩:=h0
    have hlm:len ≤ m:=by rw [hmm]; split <;> omega
    have each:∀ i,i < len → ∃ z:Int,W.cell? (a'.add i)=some (.int .i64 z):=by
      intro i hi
      obtain ⟨cs',h1,h2⟩:=hel i (by omega)
      rw [cq] at h1
      obtain ⟨_,hlen,hcell⟩:=World.cells?_some h1
      match cs',hlen with
      | [v0],_ =>
        obtain ⟨z0,e0,_,_⟩:=DataW.trod_int hq h2
        simp at e0
        subst e0
        have c0:=hcell 0 (by omega)
        rw [add_add] at c0
        exact ⟨z0,by simpa using c0⟩
    obtain ⟨f,hf⟩:=choose_lt each
    refine ⟨(List.range len).map f,?_⟩
    have hlen:(((List.range len).map f).map encI).length=len:=by simp
    have key:=V.imm (w:=W) (ok:=okOf Ctx.nil W.heap.size) (c:=Ctx.nil) .arg 1 (((List.range len).map f).map encI) (some a') cap (fun j=>.int .i64 (f j))
      (by rw [hlen]; exact hl) (by simp) ?_ ?_ ?_ ?_
    · rw [hlen] at key; exact key
    · intro hne
      have h0:0 < len:=by
        rcases Nat.eq_zero_or_pos len with h | h
        · subst h; simp at hne
        · exact h
      obtain ⟨b,off,spot⟩:=a'
      have hspot:spot=none:=by simpa [Addr.add] using World.cell?_spot (hf 0 h0)
      subst hspot
      refine ⟨b,off,rfl,by simpa [Addr.add] using cell_lt (hf 0 h0),okNil W b,fun j hj=>?_⟩
      rw [hlen] at hj
      have c0:=hf j (by omega)
      rw [add_plain] at c0
      exact c0
    · intro v hv
      obtain ⟨p,_,rfl⟩:=List.mem_map.1 hv
      rfl
    · intro v hv
      obtain ⟨p,_,rfl⟩:=List.mem_map.1 hv
      rfl
    · intro i v j x hi hj
      have hil:i < len:=by have:=lt_of_get hi; rw [hlen] at this; exact this
      have:v=encI (f i):=by
        rw [List.getElem?_map,List.getElem?_map,List.getElem?_range hil] at hi
        simpa using hi.symm
      subst this
      have hjx:j < 1:=lt_of_get hj
      match j,hjx,hj with
      | 0,_,hj =>
        simp [encI,cellsOf] at hj
        subst hj
        have e1:i * 1+0=i:=by omega
        rw [e1]
        exact V.int _ _
end Go.HL
end
section
namespace Go.HL
open Go.ChangeShapes Go.WideShapes Go.ChangeAt Go.RowKit Go.Deep
theorem ints_cells {H:Type} {enc:TypeId × Value → H} {P:Program} {W:World} {base fuel:Nat} {sp:Nat → Bool} {held:Bool} {t q:TypeId} {cs:List Value} {x:DataW H × List MemPlace} (ht:P.underlying t=some (.slice q)) (hq:P.underlying q=some (.int .i64)) (cq:P.cellsOf q=1)
    (hf:DataW.trod enc P W base sp held fuel t cs=some x):∃ (l:List Int) (v:Value),cs=[v]∧V W (okOf Ctx.nil W.heap.size) Ctx.nil (.imm .arg 1 (l.map encI)) v:=by
  rcases open_slice ht hf with ⟨h0,_⟩ | ⟨a',len,cap,m,n,D,Pl,h0,hb,hl,hm,hmm,hx,hel⟩
  · exact ⟨[],_,h0,.imm .arg 1 [] none 0 (fun _=>.bool false) (by simp) (by simp) (by simp) (by simp) (by simp) (by simp)⟩
  · subst h0
    have hlm:len ≤ m:=by rw [hmm]; split <;> omega
    have each:∀ i,i < len → ∃ z:Int,W.cell? (a'.add i)=some (.int .i64 z):=by
      intro i hi
      obtain ⟨cs',h1,h2⟩:=hel i (by omega)
      rw [cq] at h1
      obtain ⟨_,hlen,hcell⟩:=World.cells?_some h1
      match cs',hlen with
      | [v0],_ =>
        obtain ⟨z0,e0,_,_⟩:=DataW.trod_int hq h2
        simp at e0
        subst e0
        have c0:=hcell 0 (by omega)
        rw [add_add] at c0
        exact ⟨z0,by simpa using c0⟩
    obtain ⟨f,hf⟩:=choose_lt each
    refine ⟨(List.range len).map f,_,rfl,?_⟩
    have hlen:(((List.range len).map f).map encI).length=len:=by simp
    have key:=V.imm (w:=W) (ok:=okOf Ctx.nil W.heap.size) (c:=Ctx.nil) .arg 1 (((List.range len).map f).map encI) (some a') cap (fun j=>.int .i64 (f j))
      (by rw [hlen]; exact hl) (by simp) ?_ ?_ ?_ ?_
    · rw [hlen] at key; exact key
    · intro hne
      have h0:0 < len:=by
        rcases Nat.eq_zero_or_pos len with h | h
        · subst h; simp at hne
        · exact h
      obtain ⟨b,off,spot⟩:=a'
      have hspot:spot=none:=by simpa [Addr.add] using World.cell?_spot (hf 0 h0)
      subst hspot
      refine ⟨b,off,rfl,by simpa [Addr.add] using cell_lt (hf 0 h0),okNil W b,fun j hj=>?_⟩
      rw [hlen] at hj
      have c0:=hf j (by omega)
      rw [add_plain] at c0
      exact c0
    · intro v hv
      obtain ⟨p,_,rfl⟩:=List.mem_map.1 hv
      rfl
    · intro v hv
      obtain ⟨p,_,rfl⟩:=List.mem_map.1 hv
      rfl
    · intro i v j x hi hj
      have hil:i < len:=by have:=lt_of_get hi; rw [hlen] at this; exact this
      have:v=encI (f i):=by
        rw [List.getElem?_map,List.getElem?_map,List.getElem?_range hil] at hi
        simpa using hi.symm
      subst this
      have hjx:j < 1:=lt_of_get hj
      match j,hjx,hj with
      | 0,_,hj =>
        simp [encI,cellsOf] at hj
        subst hj
        have e1:i * 1+0=i:=by omega
        rw [e1]
        exact V.int _ _
def encRH (r:List Int):HV:=.imm .arg 1 (r.map encI)
theorem rows_cells {H:Type} {enc:TypeId × Value → H} {P:Program} {W:World} {base fuel:Nat} {sp:Nat → Bool} {held:Bool} {s t q:TypeId} {cs:List Value} {x:DataW H × List MemPlace} (hs:P.underlying s=some (.slice t)) (ct:P.cellsOf t=1) (ht:P.underlying t=some (.slice q)) (hq:P.underlying q=some (.int .i64)) (cq:P.cellsOf q=1)
    (hf:DataW.trod enc P W base sp held fuel s cs=some x):∃ (R:List (List Int)) (v:Value),cs=[v]∧V W (okOf Ctx.nil W.heap.size) Ctx.nil (.imm .arg 1 (R.map encRH)) v:=by
  rcases open_slice hs hf with ⟨h0,_⟩ | ⟨a',len,cap,m,n,D,Pl,h0,hb,hl,hm,hmm,hx,hel⟩
  · exact ⟨[],_,h0,.imm .arg 1 [] none 0 (fun _=>.bool false) (by simp) (by simp) (by simp) (by simp) (by simp) (by simp)⟩
  · subst h0
    have hlm:len ≤ m:=by rw [hmm]; split <;> omega
    have each:∀ i,i < len → ∃ p:List Int × Value,W.cell? (a'.add i)=some p.2∧V W (okOf Ctx.nil W.heap.size) Ctx.nil (encRH p.1) p.2:=by
      intro i hi
      obtain ⟨cs',h1,h2⟩:=hel i (by omega)
      rw [ct,Nat.mul_one] at h1
      obtain ⟨_,hlen,hcell⟩:=World.cells?_some h1
      obtain ⟨l,v,rfl,hV⟩:=ints_cells ht hq cq h2
      have c0:=hcell 0 (by omega)
      rw [add_add] at c0
      exact ⟨(l,v),by simpa using c0,hV⟩
    obtain ⟨f,hf⟩:=choose_lt each
    refine ⟨(List.range len).map fun i=>(f i).1,_,rfl,?_⟩
    have hlen:(((List.range len).map fun i=>(f i).1).map encRH).length=len:=by simp
    have key:=V.imm (w:=W) (ok:=okOf Ctx.nil W.heap.size) (c:=Ctx.nil) .arg 1 (((List.range len).map fun i=>(f i).1).map encRH) (some a') cap (fun j=>(f j).2)
      (by rw [hlen]; exact hl) (by simp) ?_ ?_ ?_ ?_
    · rw [hlen] at key; exact key
    · intro hne
      have h0:0 < len:=by
        rcases Nat.eq_zero_or_pos len with h | h
        · subst h; simp at hne
        · exact h
      obtain ⟨b,off,spot⟩:=a'
      have hspot:spot=none:=by simpa [Addr.add] using World.cell?_spot (hf 0 h0).1
      subst hspot
      refine ⟨b,off,rfl,by simpa [Addr.add] using cell_lt (hf 0 h0).1,okNil W b,fun j hj=>?_⟩
      rw [hlen,Nat.mul_one] at hj
      have c0:=(hf j hj).1
      rw [add_plain] at c0
      exact c0
    · intro v hv
      obtain ⟨p,_,rfl⟩:=List.mem_map.1 hv
      rfl
    · intro v hv
      obtain ⟨p,_,rfl⟩:=List.mem_map.1 hv
      rfl
    · intro i v j x hi hj
      have hil:i < len:=by have:=lt_of_get hi; rw [hlen] at this; exact this
      have:v=encRH (f i).1:=by
        rw [List.getElem?_map,List.getElem?_map,List.getElem?_range hil] at hi
        simpa using hi.symm
      subst this
      have hjx:j < 1:=lt_of_get hj
      obtain rfl:j=0:=by omega
      simp [encRH,cellsOf] at hj
      subst hj
      have e1:i * 1+0=i:=by omega
      rw [e1]
      exact (hf i hil).2
theorem arg_rows_ok {H:Type} {enc:TypeId × Value → H} {P:Program} {W:World} {base:Nat} {s t q:TypeId} {v:Value} {d:DataW H} {ps:List MemPlace} (hs:P.underlying s=some (.slice t)) (ct:P.cellsOf t=1) (ht:P.underlying t=some (.slice q)) (hq:P.underlying q=some (.int .i64)) (cq:P.cellsOf q=1)
    (hval:Value.okWide P W .any base s v) (hd:DataW.Trod enc P W 0 (fun _=>true) true s v d ps):∃ R:List (List Int),V W (okOf Ctx.nil W.heap.size) Ctx.nil (.imm .arg 1 (R.map encRH)) v:=by
  obtain ⟨a,len,cap,rfl⟩:=okWide_slice hs hval
  obtain ⟨fuel,hf⟩:=hd
  obtain ⟨R,v,hv,h⟩:=rows_cells hs ct ht hq cq hf
  simp [Value.cells] at hv
  subst hv
  exact ⟨R,h⟩
end Go.HL
end
