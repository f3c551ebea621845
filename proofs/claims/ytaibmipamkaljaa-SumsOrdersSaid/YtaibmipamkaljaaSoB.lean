/- A part of the proof. -/
import Derived.Test.YtaibmipamkaljaaSoA
set_option linter.unusedVariables false
set_option linter.unusedSimpArgs false
set_option linter.unnecessarySimpa false
section
open Go Go.HL
namespace Go.Proofs.Ytaibmipamkaljaa
set_option maxRecDepth 100000
open Go.Proofs.Try renaming prog → Tp
open Go.HL.HV renaming undef → Ud
noncomputable def B31:Code:=Try.f31.body.getD .skip
abbrev env31 (v0 v1 v4:HV):Env:=[(0,v0),(1,v1),(4,v4)]
theorem at_0 (l:List HV) (v:Int) (x0:Int) (g0:v < (l.length:Int)) (g1:idxV Tp 22 (.imm .arg 1 l) (.i v)=some (.vptr (.i x0))):RT pol 31 (sub [] B31) [(0,.imm .arg 1 l),(1,.i v)] [] .ret (env31 (.imm .arg 1 l) (.i v) (.i x0)) [] :=
  RunsTo.hin 0 60 [⟨1,3,.bool true,[]⟩,⟨2,2,.vptr (.i x0),[]⟩] fun kf hk=>⟨_,by kernel_rfl,(oB [] (decide_eq_true g0) (oP [] g1 .nil))⟩
theorem at_1 (l:List HV) (v:Int)(g0:¬ (v < (l.length:Int))):RT pol 31 (sub [] B31) [(0,.imm .arg 1 l),(1,.i v)] [] .ret (env31 (.imm .arg 1 l) (.i v) (.i 0)) [] :=
  RunsTo.hin 0 60 [⟨1,3,.bool false,[]⟩] fun kf hk=>⟨_,by kernel_rfl,(oB [] (decide_eq_false g0) .nil)⟩
theorem res31:Try.f31.results.toList=[.tmp 4]:=by kernel_rfl
theorem at_ok:PrimOk Tp 31 at31:=by
  refine primOk_pure (pol:=pol) (fn:=Try.f31) (cd:=B31) follows_mixed sound (by kernel_rfl) (by kernel_rfl) (fnok pol.prim _ _ (by kernel_rfl)) (by kernel_rfl) ?_
  intro args res h
  obtain ⟨l,v,rfl,hq⟩:=lnF_inv h
  clear h
  split at hq
  case isFalse=>cases hq
  rename_i hv
  cases hq
  by_cases c:v < (l.length:Int)
  · refine ⟨_,_,_,.int .i64 (l.getD v.toNat 0),at_0 (l.map encI) v (l.getD v.toNat 0) (by rw [List.length_map]; exact c) (gxi hv (by omega)),by simp,by simp only [resultsV,res31]; rfl,?_⟩
    rw [atT,if_pos c]; rfl
  · refine ⟨_,_,_,.int .i64 0,at_1 (l.map encI) v (by rw [List.length_map]; exact c),by simp,by simp only [resultsV,res31]; rfl,?_⟩
    rw [atT,if_neg c]; rfl
def polA:Pol:={ pol with prim:=fun g=>if g == 30 then some modF else if g == 31 then some at31 else none }
theorem soundA (n:Nat):CallSound Tp (callN Tp polA n):=sound_prim _ (fun g f h=>by
  split at h
  · rename_i hg; cases h; rw [eq_of_beq hg]; exact mod_ok
  split at h
  · rename_i hg; cases h; rw [eq_of_beq hg]; exact at_ok
  · cases h) n
theorem at_at {pol':Pol} (hp:pol'.prim 31=some at31) (l:List Int) {v:Int} (hv:0 ≤ v) (H:Heap):∀ k,callN Tp pol' (k+1) 31 [.imm .arg 1 (l.map encI),.int .i64 v] H=some (.int .i64 (atT l v),H):=fun k=>by
  have hX:=arg_li H l
  have hN:toArg H 6 (.int .i64 v)=some (.int .i64 v):=rfl
  have hd:mapO decI (l.map encI)=some l:=mapO_map decI_enc l
  rw [prim_call (pol:=pol') (g:=31) (F:=at31) hp (rs:=[.imm .arg 1 (l.map encI),.int .i64 v]) (by simp only [mapO,hX,hN]) (res:=.int .i64 (atT l v)) (by simp only [at31,lnF,hd,if_pos hv])]
  rfl
theorem mod_at {pol':Pol} (hp:pol'.prim 30=some modF) (a:Int) {n:Int} (h0:0 < n) (h1:n < 9223372036854775808) (H:Heap):∀ k,callN Tp pol' (k+1) 30 [.int .i64 a,.int .i64 n] H=some (.int .i64 (modW a n),H):=fun k=>by
  rw [prim_call (pol:=pol') (g:=30) (F:=modF) hp (rs:=[.int .i64 a,.int .i64 n]) rfl (res:=.int .i64 (modW a n)) (by simp only [modF]; rw [if_pos ⟨h0,h1⟩])]
  rfl
theorem quo3 {a b:Int} (hb:b ≠ 0):binV Tp .quo 3 (.int .i64 a) (.int .i64 b)=some (.int .i64 (IntKind.i64.wrap (a.tdiv b))):=by
  simp only [binV,intBin,if_neg hb,if_true]
theorem grpA_bnd (l:List Int):2 ≤ grpA l∧grpA l ≤ 12:=by
  have:=modW_bounds (atT l 1) 11 (by omega) (by omega)
  unfold grpA; omega
theorem div_bnd {a k:Int} (h:0 < k) (ha:0 ≤ a):0 ≤ a / k∧a / k ≤ a:=⟨Int.ediv_nonneg ha (by omega),Int.ediv_le_self _ ha⟩
theorem grpM_bnd (l:List Int):1 ≤ max 1 (min (24 / grpA l) (144 / (grpA l * grpA l)))∧max 1 (min (24 / grpA l) (144 / (grpA l * grpA l))) ≤ 24:=by
  have:=grpA_bnd l
  have:=(div_bnd (a:=24) (k:=grpA l) (by omega) (by omega)).2
  omega
theorem grpB_bnd (l:List Int):1 ≤ grpB l∧grpB l ≤ 24:=by
  have h1:=grpM_bnd l
  have:=modW_bounds (atT l 2) (max 1 (min (24 / grpA l) (144 / (grpA l * grpA l)))) (by omega) (by omega)
  unfold grpB; omega
noncomputable def B23:Code:=Try.f23.body.getD .skip
abbrev env23 (v0 v2 v3 v4:HV):Env:=[(0,v0),(2,v2),(3,v3),(4,v4)]
theorem gp_0 (l:List HV) (av0:Int) (md0:Int) (g0:(l.length:Int) < 1) (g1:∀ kf,callN Tp polA (kf+1) 31 [.imm .arg 1 l,.i 1] []=some (.i av0,[])) (g2:∀ kf,callN Tp polA (kf+1) 30 [.i av0,.i 23] []=some (.i md0,[])):RT polA 23 (sub [] B23) [(0,.imm .arg 1 l)] [] .ret (env23 (.imm .arg 1 l) (.sl 0 0 1 (some 1) 1 1) Ud Ud) [.arr 1 [.i (IntKind.i64.wrap (2+md0))] true 0] :=
  RunsTo.hin 0 60 [⟨1,2,.bool true,[]⟩,⟨2,1,.i av0,[]⟩,⟨2,2,.i md0,[]⟩] fun kf hk=>⟨_,by kernel_rfl,(oB [] (decide_eq_true g0) (oC (g1 kf) (oC (g2 kf) .nil)))⟩
theorem gp_1 (l:List HV) (x0:Int) (md0:Int) (av0:Int) (md1:Int) (g0:¬ ((l.length:Int) < 1)) (g1:idxV Tp 22 (.imm .arg 1 l) (.i 0)=some (.vptr (.i x0))) (g2:∀ kf,callN Tp polA (kf+1) 30 [.i x0,.i 2] []=some (.i md0,[])) (g3:md0=0) (g4:∀ kf,callN Tp polA (kf+1) 31 [.imm .arg 1 l,.i 1] []=some (.i av0,[])) (g5:∀ kf,callN Tp polA (kf+1) 30 [.i av0,.i 23] []=some (.i md1,[])):RT polA 23 (sub [] B23) [(0,.imm .arg 1 l)] [] .ret (env23 (.imm .arg 1 l) (.sl 0 0 1 (some 1) 1 1) Ud Ud) [.arr 1 [.i (IntKind.i64.wrap (2+md1))] true 0] :=
  RunsTo.hin 0 60 [⟨1,2,.bool false,[]⟩,⟨1,5,.vptr (.i x0),[]⟩,⟨1,7,.i md0,[]⟩,⟨1,8,.bool true,[]⟩,⟨2,1,.i av0,[]⟩,⟨2,2,.i md1,[]⟩] fun kf hk=>⟨_,by kernel_rfl,(oB [] (decide_eq_false g0) (oP [] g1 (oC (g2 kf) (oB [] (decide_eq_true g3) (oC (g4 kf) (oC (g5 kf) .nil))))))⟩
theorem gp_2 (l:List HV) (x0:Int) (md0:Int) (av0:Int) (md1:Int) (av1:Int) (md2:Int) (g0:¬ ((l.length:Int) < 1)) (g1:idxV Tp 22 (.imm .arg 1 l) (.i 0)=some (.vptr (.i x0))) (g2:∀ kf,callN Tp polA (kf+1) 30 [.i x0,.i 2] []=some (.i md0,[])) (g3:¬ (md0=0)) (g4:∀ kf,callN Tp polA (kf+1) 31 [.imm .arg 1 l,.i 1] []=some (.i av0,[])) (g5:∀ kf,callN Tp polA (kf+1) 30 [.i av0,.i 11] []=some (.i md1,[])) (g6:∀ kf,callN Tp polA (kf+1) 31 [.imm .arg 1 l,.i 2] []=some (.i av1,[])) (g7:binV Tp .quo 3 (.i 24) (.i (IntKind.i64.wrap (2+md1)))=some (.i (IntKind.i64.wrap ((24:Int).tdiv (IntKind.i64.wrap (2+md1)))))) (g8:binV Tp .quo 3 (.i 144) (.i (IntKind.i64.wrap (IntKind.i64.wrap (2+md1) * IntKind.i64.wrap (2+md1))))=some (.i (IntKind.i64.wrap ((144:Int).tdiv (IntKind.i64.wrap (IntKind.i64.wrap (2+md1) * IntKind.i64.wrap (2+md1))))))) (g9:∀ kf,callN Tp polA (kf+1) 30 [.i av1,.i (max 1 (min (IntKind.i64.wrap ((24:Int).tdiv (IntKind.i64.wrap (2+md1)))) (IntKind.i64.wrap ((144:Int).tdiv (IntKind.i64.wrap (IntKind.i64.wrap (2+md1) * IntKind.i64.wrap (2+md1)))))))] []=some (.i md2,[])):RT polA 23 (sub [] B23) [(0,.imm .arg 1 l)] [] .ret (env23 (.imm .arg 1 l) (.sl 0 0 2 (some 2) 2 1) (.i (IntKind.i64.wrap (2+md1))) (.i (IntKind.i64.wrap (1+md2)))) [.arr 1 [.i (IntKind.i64.wrap (2+md1)),.i (IntKind.i64.wrap (IntKind.i64.wrap (2+md1) * IntKind.i64.wrap (1+md2)))] true 0] :=
  RunsTo.hin 0 60 [⟨1,2,.bool false,[]⟩,⟨1,5,.vptr (.i x0),[]⟩,⟨1,7,.i md0,[]⟩,⟨1,8,.bool false,[]⟩,⟨3,1,.i av0,[]⟩,⟨3,2,.i md1,[]⟩,⟨4,1,.i av1,[]⟩,⟨4,3,.i (IntKind.i64.wrap ((24:Int).tdiv (IntKind.i64.wrap (2+md1)))),[]⟩,⟨4,7,.i (IntKind.i64.wrap ((144:Int).tdiv (IntKind.i64.wrap (IntKind.i64.wrap (2+md1) * IntKind.i64.wrap (2+md1))))),[]⟩,⟨4,10,.i md2,[]⟩] fun kf hk=>⟨_,by kernel_rfl,(oB [] (decide_eq_false g0) (oP [] g1 (oC (g2 kf) (oB [] (decide_eq_false g3) (oC (g4 kf) (oC (g5 kf) (oC (g6 kf) (oP [] g7 (oP [] g8 (oC (g9 kf) .nil))))))))))⟩
theorem res23:Try.f23.results.toList=[.tmp 2]:=by kernel_rfl
theorem group_ok:PrimOk Tp 23 group23:=by
  refine primOk_pure (pol:=polA) (fn:=Try.f23) (cd:=B23) follows_mixed soundA (by kernel_rfl) (by kernel_rfl) (fnok polA.prim _ _ (by kernel_rfl)) (by kernel_rfl) ?_
  intro args res h
  obtain ⟨l,rfl,hq⟩:=liF_inv h
  clear h
  cases hq
  have a1:=at_at (pol':=polA) (by kernel_rfl) l (v:=1) (by omega) []
  have a2:=at_at (pol':=polA) (by kernel_rfl) l (v:=2) (by omega) []
  have m23:=mod_at (pol':=polA) (by kernel_rfl) (atT l 1) (n:=23) (by omega) (by omega) []
  have b23:=modW_bounds (atT l 1) 23 (by omega) (by omega)
  have w23:IntKind.i64.wrap (2+modW (atT l 1) 23)=2+modW (atT l 1) 23:=wrap_id (by omega) (by omega)
  by_cases c:l.length < 1
  · have s:=gp_0 (l.map encI) _ _ (by rw [List.length_map]; omega) a1 m23
    rw [w23] at s
    refine ⟨_,_,_,.sl 0 0 1 (some 1) 1 1,s,by simp,by simp only [resultsV,res23]; rfl,?_⟩
    have e:grpT l=[2+modW (atT l 1) 23]:=by rw [grpT,if_pos (.inl c)]
    rw [e]; rfl
  · have m2:=mod_at (pol':=polA) (by kernel_rfl) (l.getD 0 0) (n:=2) (by omega) (by omega) []
    have g0:=gxi (l:=l) (y:=0) (by omega) (by show 0 < l.length; omega)
    by_cases d:modW (l.getD 0 0) 2=0
    · have s:=gp_1 (l.map encI) _ _ _ _ (by rw [List.length_map]; omega) g0 m2 d a1 m23
      rw [w23] at s
      refine ⟨_,_,_,.sl 0 0 1 (some 1) 1 1,s,by simp,by simp only [resultsV,res23]; rfl,?_⟩
      have e:grpT l=[2+modW (atT l 1) 23]:=by rw [grpT,if_pos (.inr d)]
      rw [e]; rfl
    · have m11:=mod_at (pol':=polA) (by kernel_rfl) (atT l 1) (n:=11) (by omega) (by omega) []
      obtain ⟨hA1,hA2⟩:=grpA_bnd l
      obtain ⟨hB1,hB2⟩:=grpB_bnd l
      obtain ⟨hM1,hM2⟩:=grpM_bnd l
      have wA:IntKind.i64.wrap (2+modW (atT l 1) 11)=grpA l:=wrap_id (by unfold grpA at *; omega) (by unfold grpA at *; omega)
      have hAA:4 ≤ grpA l * grpA l∧grpA l * grpA l ≤ 144:=⟨Int.mul_le_mul hA1 hA1 (by omega) (by omega),Int.mul_le_mul hA2 hA2 (by omega) (by omega)⟩
      have wAA:IntKind.i64.wrap (grpA l * grpA l)=grpA l * grpA l:=wrap_id (by omega) (by omega)
      have t24:(24:Int).tdiv (grpA l)=24 / grpA l:=Int.tdiv_eq_ediv_of_nonneg (by omega)
      have t144:(144:Int).tdiv (grpA l * grpA l)=144 / (grpA l * grpA l):=Int.tdiv_eq_ediv_of_nonneg (by omega)
      have k1:=div_bnd (a:=24) (k:=grpA l) (by omega) (by omega)
      have k2:=div_bnd (a:=144) (k:=grpA l * grpA l) (by omega) (by omega)
      have w24:IntKind.i64.wrap (24 / grpA l)=24 / grpA l:=wrap_id (by omega) (by omega)
      have w144:IntKind.i64.wrap (144 / (grpA l * grpA l))=144 / (grpA l * grpA l):=wrap_id (by omega) (by omega)
      have mB:=mod_at (pol':=polA) (by kernel_rfl) (atT l 2) (n:=max 1 (min (24 / grpA l) (144 / (grpA l * grpA l)))) (by omega) (by omega) []
      have wB:IntKind.i64.wrap (1+modW (atT l 2) (max 1 (min (24 / grpA l) (144 / (grpA l * grpA l)))))=grpB l:=wrap_id (by unfold grpB at *; omega) (by unfold grpB at *; omega)
      have hAB:0 ≤ grpA l * grpB l∧grpA l * grpB l ≤ 12 * 24:=⟨Int.mul_nonneg (by omega) (by omega),Int.mul_le_mul hA2 hB2 (by omega) (by omega)⟩
      have wAB:IntKind.i64.wrap (grpA l * grpB l)=grpA l * grpB l:=wrap_id (by omega) (by omega)
      have s:=gp_2 (l.map encI) _ (modW (l.getD 0 0) 2) (atT l 1) (modW (atT l 1) 11) (atT l 2) (modW (atT l 2) (max 1 (min (24 / grpA l) (144 / (grpA l * grpA l))))) (by rw [List.length_map]; omega) g0 m2 d a1 m11 a2 (by rw [wA]; exact quo3 (by omega)) (by rw [wA,wAA]; exact quo3 (by omega)) (by rw [wA,wAA,t24,t144,w24,w144]; exact mB)
      rw [wA,wB,wAB] at s
      refine ⟨_,_,_,.sl 0 0 2 (some 2) 2 1,s,by simp,by simp only [resultsV,res23]; rfl,?_⟩
      have e:grpT l=[grpA l,grpA l * grpB l]:=by rw [grpT,if_neg (by rintro (h | h); exact c h; exact d h)]
      rw [e]; rfl
end Go.Proofs.Ytaibmipamkaljaa
end
section
open Go Go.HL
namespace Go.Proofs.Ytaibmipamkaljaa
theorem lit_seal' {P:Program} {H:Heap} {t e k b p mx bt:Nat} {zv:HV} {els:List HV} (ht:P.underlying t=some (.slice e)) (hI:(P.info? e).map (fun i=>(i.size,i.bytes,i.zero.map ofConst))=some (1,bt,some zv)) (hc:(cellsOf zv).all cellV=true) (hs:(cellsOf zv).length=1)
    (hb:H[b]?=some (.arr k els true mx)) (hp:els.length=p) (hr:resPL els=true) :
    ∃ w,litV P true false t 1 [(0,.sl b 0 p none p k)] H=some (.imm .lit 1 [.imm .own k els],H.set b (.arr k els w mx)):=by
  by_cases h0:p=0
  · subst h0
    have hn:els=[]:=List.length_eq_zero_iff.1 hp
    subst hn
    refine ⟨true,?_⟩
    have hH:H.set b (.arr k [] true mx)=H:=by
      apply List.ext_getElem?
      intro i
      rw [List.getElem?_set]
      split
      · rename_i hi
        subst hi
        split
        · exact hb.symm
        · rename_i hlt; exact absurd (lt_of_get hb) hlt
      · rfl
    rw [hH]
    cases hi:P.info? e with
    | none=>rw [hi] at hI; cases hI
    | some i =>
      rw [hi] at hI
      simp only [Option.map_some,Option.some.injEq,Prod.mk.injEq] at hI
      obtain ⟨h1,rfl,hz⟩:=hI
      cases hz2:i.zero with
      | none=>rw [hz2] at hz; cases hz
      | some z =>
        rw [hz2] at hz
        simp only [Option.map_some,Option.some.injEq] at hz
        subst hz
        have hse:seals [.sl b 0 0 none 0 k] H=some ([.imm .own k []],H):=by simp only [seals,seal1,if_true]
        simp only [litV,ht,hi,hz2,if_true,List.map_cons,List.map_nil,hse,h1]
        rw [if_pos ⟨by omega,hs,hc,by omega,by simp [cellsOf,cellV],by simp⟩]
        simp [bndL,bnd]
  · exact ⟨false,lit_seal ht hI hc hs hb hp h0 hr⟩
theorem res_O (r:List Int):resP (encO r)=true:=by
  have:resPL (r.map encI)=true:=ints_res r
  simp only [encO,resP,this]; rfl
theorem frz_O {H:Heap} {no:List Nat} (r:List Int):frz H no 4 (encO r)=some (encO r):=by
  show (if resP (encO r) then some (encO r) else none)=_
  rw [res_O]; rfl
theorem encO_bnd:∀ (l:List (List Int)),bndL (l.map encO)=0
  | []=>rfl
  | e :: l=>by simp only [List.map_cons,bndL,encO,bnd,encO_bnd l]; rfl
theorem res_rs {H:Heap} {b k:Nat} {R:List (List Int)} (hb:H[b]?=some (.arr 1 (R.map encO) true 0)) (hk:R.length=k):toRes H false (.sl b 0 k none k 1)=some (.own 1 (R.map encO)):=by
  have hr:=resCell_sl (H:=H) (no:=[b]) (b:=b) (k:=1) (m:=k) (cap:=none) (els:=R.map encO) hb (by simpa using hk) (mapO_self (fun r=>frz_O r) _)
  have ho:ownedAll H false (.sl b 0 k none k 1)=[b]:=by simp [ownedAll,cellsOf,owned,hb]
  simp only [toRes,ho,List.nodup_cons,List.not_mem_nil,not_false_eq_true,List.nodup_nil,and_self,if_true,resVal,hr]
theorem app_O {H:Heap} {b:Nat} {R:List (List Int)} (hb:H[b]?=some (.arr 1 (R.map encO) true 0)) (hlen:R.length ≤ 1000) (r:List Int) :
    appV H 1 24 (.sl b 0 R.length none R.length 1) [encO r]=some (.sl b 0 (R.length+1) none (R.length+1) 1,H.set b (.arr 1 ((R ++ [r]).map encO) true 0)):=by
  have:=app_sl (H:=H) (k:=1) (bytes:=24) (b:=b) (n:=R.length) (mx:=0) (els:=R.map encO) (xs:=[encO r]) hb (by simp) (by simp) (by simp only [roomMax,List.length_singleton]; omega) (encO_bnd [r])
  rw [this]
  simp only [List.map_append,List.map_cons,List.map_nil,List.length_singleton]
def rowE (gl r:List Int):List Int:=(List.range gl.length).map fun (j:Nat)=>modW (atT r (j:Int)) (gl.getD j 0)
def rowsE (gl:List Int) (R:List (List Int)) (c:Int):List (List Int):=(R.take c.toNat).map (rowE gl)
def posG (gl:List Int):Bool:=gl.all fun v=>decide (0 < v∧v < 9223372036854775808)
def rowsF (f:List Int → List (List Int) → Int → Option HV):List HV → Option HV
  | [.imm .arg 1 la,.imm .arg 1 rw,.int .i64 c]=>(match mapO decI la,mapO decR rw with | some l,some R=>f l R c | _,_=>none)
  | _=>none
theorem rowsF_inv {f:List Int → List (List Int) → Int → Option HV} {args:List HV} {res:HV} (h:rowsF f args=some res):∃ l R c,args=[.imm .arg 1 (l.map encI),.imm .arg 1 (R.map encR),.int .i64 c]∧f l R c=some res:=by
  unfold rowsF at h
  split at h
  · rename_i la rw_ c
    split at h
    · rename_i l R hl hR
      exact ⟨l,R,c,by rw [mapO_inv decI_inv hl,mapO_inv decR_inv hR],h⟩
    · cases h
  · cases h
def elements24:List HV → Option HV:=rowsF fun gl R c=>if posG gl=true∧gl.length ≤ 1000∧R.length ≤ 900∧0 ≤ c then some (.own 1 ((rowsE gl R c).map encO)) else none
end Go.Proofs.Ytaibmipamkaljaa
end
section
open Go Go.HL
namespace Go.Proofs.Ytaibmipamkaljaa
set_option maxRecDepth 100000
open Go.Proofs.Try renaming prog → Tp
open Go.HL.HV renaming undef → Ud
noncomputable def B24:Code:=Try.f24.body.getD .skip
abbrev env24 (v0 v1 v2 v6 v7 v8 v9 v10:HV):Env:=[(0,v0),(1,v1),(2,v2),(6,v6),(7,v7),(8,v8),(9,v9),(10,v10)]
theorem el_a_0 (gl rw:List HV) (c:Int) :RT polA 24 (sub [0] B24) [(0,.imm .arg 1 gl),(1,.imm .arg 1 rw),(2,.i c)] [] .normal (env24 (.imm .arg 1 gl) (.imm .arg 1 rw) (.i c) (.imm .lit 1 []) Ud Ud Ud Ud) [] :=
  RunsTo.hin 0 60 [] fun kf hk=>⟨_,by kernel_rfl,.nil⟩
theorem el_b_0 (gl rw:List HV) (c:Int)  {y7 y8 y9 y10:HV}:RT polA 24 (sub [1,0] B24) (env24 (.imm .arg 1 gl) (.imm .arg 1 rw) (.i c) (.imm .lit 1 []) y7 y8 y9 y10) [] .normal (env24 (.imm .arg 1 gl) (.imm .arg 1 rw) (.i c) (.imm .lit 1 []) (.sl 0 0 0 none 0 1) y8 y9 y10) [.arr 1 [] true 0] :=
  RunsTo.hin 0 60 [] fun kf hk=>⟨_,by kernel_rfl,.nil⟩
theorem el_c_0 (gl rw:List HV) (c:Int) (p:Nat) (out:List HV) {y8 y9 y10:HV}:RT polA 24 (sub [1,1,0,0] B24) (env24 (.imm .arg 1 gl) (.imm .arg 1 rw) (.i c) (.imm .lit 1 []) (.sl 0 0 p none p 1) y8 y9 y10) [.arr 1 out true 0] .normal (env24 (.imm .arg 1 gl) (.imm .arg 1 rw) (.i c) (.imm .lit 1 []) (.sl 0 0 p none p 1) (.i 0) y9 y10) [.arr 1 out true 0] :=
  RunsTo.hin 0 60 [] fun kf hk=>⟨_,by kernel_rfl,.nil⟩
theorem el_d_0 (gl rw:List HV) (c:Int) (p:Nat) (out:List HV) (i:Nat) {y9 y10:HV}(g0:(i:Int) < (rw.length:Int)) (g1:(i:Int) < c):RT polA 24 (sub [1,1,0,1,0,0,0] B24) (env24 (.imm .arg 1 gl) (.imm .arg 1 rw) (.i c) (.imm .lit 1 []) (.sl 0 0 p none p 1) (.i (i:Int)) y9 y10) [.arr 1 out true 0] .normal (env24 (.imm .arg 1 gl) (.imm .arg 1 rw) (.i c) (.imm .lit 1 []) (.sl 0 0 p none p 1) (.i (i:Int)) y9 y10) [.arr 1 out true 0] :=
  RunsTo.hin 0 60 [⟨3,3,.bool true,[.arr 1 out true 0]⟩,⟨3,7,.bool true,[.arr 1 out true 0]⟩] fun kf hk=>⟨_,by kernel_rfl,(oB [.arr 1 out true 0] (decide_eq_true g0) (oB [.arr 1 out true 0] (decide_eq_true g1) .nil))⟩
theorem el_d_1 (gl rw:List HV) (c:Int) (p:Nat) (out:List HV) (i:Nat) {y9 y10:HV}(g0:(i:Int) < (rw.length:Int)) (g1:¬ ((i:Int) < c)):RT polA 24 (sub [1,1,0,1,0,0,0] B24) (env24 (.imm .arg 1 gl) (.imm .arg 1 rw) (.i c) (.imm .lit 1 []) (.sl 0 0 p none p 1) (.i (i:Int)) y9 y10) [.arr 1 out true 0] (.exit 0) (env24 (.imm .arg 1 gl) (.imm .arg 1 rw) (.i c) (.imm .lit 1 []) (.sl 0 0 p none p 1) (.i (i:Int)) y9 y10) [.arr 1 out true 0] :=
  RunsTo.hin 0 60 [⟨3,3,.bool true,[.arr 1 out true 0]⟩,⟨3,7,.bool false,[.arr 1 out true 0]⟩] fun kf hk=>⟨_,by kernel_rfl,(oB [.arr 1 out true 0] (decide_eq_true g0) (oB [.arr 1 out true 0] (decide_eq_false g1) .nil))⟩
theorem el_d_2 (gl rw:List HV) (c:Int) (p:Nat) (out:List HV) (i:Nat) {y9 y10:HV}(g0:¬ ((i:Int) < (rw.length:Int))):RT polA 24 (sub [1,1,0,1,0,0,0] B24) (env24 (.imm .arg 1 gl) (.imm .arg 1 rw) (.i c) (.imm .lit 1 []) (.sl 0 0 p none p 1) (.i (i:Int)) y9 y10) [.arr 1 out true 0] (.exit 0) (env24 (.imm .arg 1 gl) (.imm .arg 1 rw) (.i c) (.imm .lit 1 []) (.sl 0 0 p none p 1) (.i (i:Int)) y9 y10) [.arr 1 out true 0] :=
  RunsTo.hin 0 60 [⟨3,3,.bool false,[.arr 1 out true 0]⟩] fun kf hk=>⟨_,by kernel_rfl,(oB [.arr 1 out true 0] (decide_eq_false g0) .nil)⟩
theorem el_e_0 (gl rw:List HV) (c:Int) (p:Nat) (out:List HV) (i:Nat) {y9 y10:HV}:RT polA 24 (sub [1,1,0,1,0,0,1,0,0,0] B24) (env24 (.imm .arg 1 gl) (.imm .arg 1 rw) (.i c) (.imm .lit 1 []) (.sl 0 0 p none p 1) (.i (i:Int)) y9 y10) [.arr 1 out true 0] .normal (env24 (.imm .arg 1 gl) (.imm .arg 1 rw) (.i c) (.imm .lit 1 []) (.sl 0 0 p none p 1) (.i (i:Int)) (.sl 1 0 0 none 0 1) y10) [.arr 1 out true 0,.arr 1 [] true 0] :=
  RunsTo.hin 0 60 [] fun kf hk=>⟨_,by kernel_rfl,.nil⟩
theorem el_f_0 (gl rw:List HV) (c:Int) (p:Nat) (out:List HV) (i:Nat) (q:Nat) (row:List HV) {y10:HV}:RT polA 24 (sub [1,1,0,1,0,0,1,0,0,1,0,0] B24) (env24 (.imm .arg 1 gl) (.imm .arg 1 rw) (.i c) (.imm .lit 1 []) (.sl 0 0 p none p 1) (.i (i:Int)) (.sl 1 0 q none q 1) y10) [.arr 1 out true 0,.arr 1 row true 0] .normal (env24 (.imm .arg 1 gl) (.imm .arg 1 rw) (.i c) (.imm .lit 1 []) (.sl 0 0 p none p 1) (.i (i:Int)) (.sl 1 0 q none q 1) (.i 0)) [.arr 1 out true 0,.arr 1 row true 0] :=
  RunsTo.hin 0 60 [] fun kf hk=>⟨_,by kernel_rfl,.nil⟩
theorem el_g_0 (gl rw:List HV) (c:Int) (p:Nat) (out:List HV) (i:Nat) (q:Nat) (row:List HV) (j:Nat) {l0:List HV} {av0:Int} {x0:Int} {md0:Int} (g0:(j:Int) < (gl.length:Int)) (g1:idxV Tp 35 (.imm .arg 1 rw) (.i (i:Int))=some (.vptr (.imm .arg 1 l0))) (g2:∀ kf,callN Tp polA (kf+1) 31 [.imm .arg 1 l0,.i (j:Int)] [.arr 1 out true 0,.arr 1 row true 0]=some (.i av0,[.arr 1 out true 0,.arr 1 row true 0])) (g3:idxV Tp 22 (.imm .arg 1 gl) (.i (j:Int))=some (.vptr (.i x0))) (g4:∀ kf,callN Tp polA (kf+1) 30 [.i av0,.i x0] [.arr 1 out true 0,.arr 1 row true 0]=some (.i md0,[.arr 1 out true 0,.arr 1 row true 0])) (g5:appV [.arr 1 out true 0,.arr 1 row true 0] 1 8 (.sl 1 0 q none q 1) [.i md0]=some (.sl 1 0 (q+1) none (q+1) 1,[.arr 1 out true 0,.arr 1 (row ++ [.i md0]) true 0])) (gS9:((same (.i x0) (.i x0) && sameH ([.arr 1 out true 0,.arr 1 row true 0]:Heap) [.arr 1 out true 0,.arr 1 row true 0] && sameH ([.arr 1 out true 0,.arr 1 row true 0]:Heap) [.arr 1 out true 0,.arr 1 row true 0]) && true)=true):RT polA 24 (sub [1,1,0,1,0,0,1,0,0,1,0,1,0,0] B24) (env24 (.imm .arg 1 gl) (.imm .arg 1 rw) (.i c) (.imm .lit 1 []) (.sl 0 0 p none p 1) (.i (i:Int)) (.sl 1 0 q none q 1) (.i (j:Int))) [.arr 1 out true 0,.arr 1 row true 0] .normal (env24 (.imm .arg 1 gl) (.imm .arg 1 rw) (.i c) (.imm .lit 1 []) (.sl 0 0 p none p 1) (.i (i:Int)) (.sl 1 0 (q+1) none (q+1) 1) (.i (IntKind.i64.wrap ((j:Int)+1)))) [.arr 1 out true 0,.arr 1 (row ++ [.i md0]) true 0] :=
  RunsTo.hin 0 60 [⟨7,3,.bool true,[.arr 1 out true 0,.arr 1 row true 0]⟩,⟨9,3,.vptr (.imm .arg 1 l0),[.arr 1 out true 0,.arr 1 row true 0]⟩,⟨9,6,.i av0,[.arr 1 out true 0,.arr 1 row true 0]⟩,⟨9,9,.vptr (.i x0),[.arr 1 out true 0,.arr 1 row true 0]⟩,⟨9,11,.i md0,[.arr 1 out true 0,.arr 1 row true 0]⟩,⟨9,13,.sl 1 0 (q+1) none (q+1) 1,[.arr 1 out true 0,.arr 1 (row ++ [.i md0]) true 0]⟩] fun kf hk=>⟨_,by kernel_rfl,(oB [.arr 1 out true 0,.arr 1 row true 0] (decide_eq_true g0) (oC (gS9) (oP [.arr 1 out true 0,.arr 1 row true 0] g1 (oC (g2 kf) (oP [.arr 1 out true 0,.arr 1 row true 0] g3 (oC (g4 kf) (oC (g5) .nil)))))))⟩
theorem el_g_1 (gl rw:List HV) (c:Int) (p:Nat) (out:List HV) (i:Nat) (q:Nat) (row:List HV) (j:Nat)(g0:¬ ((j:Int) < (gl.length:Int))):RT polA 24 (sub [1,1,0,1,0,0,1,0,0,1,0,1,0,0] B24) (env24 (.imm .arg 1 gl) (.imm .arg 1 rw) (.i c) (.imm .lit 1 []) (.sl 0 0 p none p 1) (.i (i:Int)) (.sl 1 0 q none q 1) (.i (j:Int))) [.arr 1 out true 0,.arr 1 row true 0] (.exit 2) (env24 (.imm .arg 1 gl) (.imm .arg 1 rw) (.i c) (.imm .lit 1 []) (.sl 0 0 p none p 1) (.i (i:Int)) (.sl 1 0 q none q 1) (.i (j:Int))) [.arr 1 out true 0,.arr 1 row true 0] :=
  RunsTo.hin 0 60 [⟨7,3,.bool false,[.arr 1 out true 0,.arr 1 row true 0]⟩] fun kf hk=>⟨_,by kernel_rfl,(oB [.arr 1 out true 0,.arr 1 row true 0] (decide_eq_false g0) .nil)⟩
theorem el_h_0 (gl rw:List HV) (c:Int) (p:Nat) (out:List HV) (i:Nat) (q:Nat) (row:List HV) (j:Nat) {w0:Bool} (g0:litV Tp true false 35 1 [(0,.sl 1 0 q none q 1)] [.arr 1 out true 0,.arr 1 row true 0]=some (.imm .lit 1 [.imm .own 1 row],[.arr 1 out true 0,.arr 1 row w0 0])) (g1:appV [.arr 1 out true 0,.arr 1 row w0 0] 1 24 (.sl 0 0 p none p 1) [.imm .own 1 row]=some (.sl 0 0 (p+1) none (p+1) 1,[.arr 1 (out ++ [.imm .own 1 row]) true 0,.arr 1 row w0 0])):RT polA 24 (sub [1,1,0,1,0,0,1,0,0,1,1] B24) (env24 (.imm .arg 1 gl) (.imm .arg 1 rw) (.i c) (.imm .lit 1 []) (.sl 0 0 p none p 1) (.i (i:Int)) (.sl 1 0 q none q 1) (.i (j:Int))) [.arr 1 out true 0,.arr 1 row true 0] .normal (env24 (.imm .arg 1 gl) (.imm .arg 1 rw) (.i c) (.imm .lit 1 []) (.sl 0 0 (p+1) none (p+1) 1) (.i (i:Int)) (.sl 1 0 q none q 1) (.i (j:Int))) [.arr 1 (out ++ [.imm .own 1 row]) true 0,.arr 1 row w0 0] :=
  RunsTo.hin 0 60 [⟨10,2,.imm .lit 1 [.imm .own 1 row],[.arr 1 out true 0,.arr 1 row w0 0]⟩,⟨10,3,.sl 0 0 (p+1) none (p+1) 1,[.arr 1 (out ++ [.imm .own 1 row]) true 0,.arr 1 row w0 0]⟩] fun kf hk=>⟨_,by kernel_rfl,(oC (g0) (oC (g1) .nil))⟩
theorem el_i_0 (gl rw:List HV) (c:Int) (p:Nat) (out:List HV) (i:Nat) (H:Heap) {y9 y10:HV}:RT polA 24 (sub [1,1,0,1,0,0,1,1] B24) (env24 (.imm .arg 1 gl) (.imm .arg 1 rw) (.i c) (.imm .lit 1 []) (.sl 0 0 p none p 1) (.i (i:Int)) y9 y10) H .normal (env24 (.imm .arg 1 gl) (.imm .arg 1 rw) (.i c) (.imm .lit 1 []) (.sl 0 0 p none p 1) (.i (IntKind.i64.wrap ((i:Int)+1))) y9 y10) H :=
  RunsTo.hin 0 60 [] fun kf hk=>⟨_,by kernel_rfl,.nil⟩
theorem el_j_0 (gl rw:List HV) (c:Int) (p:Nat) (out:List HV) (i:Nat) {y9 y10:HV}:RT polA 24 (sub [1,1,1] B24) (env24 (.imm .arg 1 gl) (.imm .arg 1 rw) (.i c) (.imm .lit 1 []) (.sl 0 0 p none p 1) (.i (i:Int)) y9 y10) [.arr 1 out true 0] .ret (env24 (.imm .arg 1 gl) (.imm .arg 1 rw) (.i c) (.sl 0 0 p none p 1) (.sl 0 0 p none p 1) (.i (i:Int)) y9 y10) [.arr 1 out true 0] :=
  RunsTo.hin 0 60 [] fun kf hk=>⟨_,by kernel_rfl,.nil⟩
end Go.Proofs.Ytaibmipamkaljaa
end
section
open Go Go.HL
namespace Go.Proofs.Ytaibmipamkaljaa
open Go.Proofs.Try renaming prog → Tp
open Go.HL.HV renaming undef → Ud
theorem res24:Try.f24.results.toList=[.tmp 6]:=by kernel_rfl
abbrev elE (gl:List Int) (R:List (List Int)) (c:Int) (p i:Nat) (v9 v10:HV):Env:=(env24 (.imm .arg 1 (gl.map encI)) (.imm .arg 1 (R.map encR)) (.int .i64 c) (.imm .lit 1 []) (.sl 0 0 p none p 1) (.int .i64 (i:Int)) v9 v10)
abbrev bO (R:List (List Int)):Blk:=.arr 1 (R.map encO) true 0
def rowP (gl r:List Int) (j:Nat):List Int:=(List.range j).map fun (j:Nat)=>modW (atT r (j:Int)) (gl.getD j 0)
theorem rowP_succ (gl r:List Int) (j:Nat):rowP gl r (j+1)=rowP gl r j ++ [modW (atT r (j:Int)) (gl.getD j 0)]:=by simp [rowP,List.range_succ]
theorem rowP_len (gl r:List Int) (j:Nat):(rowP gl r j).length=j:=by simp [rowP]
section
variable {gl:List Int} {R:List (List Int)} {c:Int}
theorem el_in (hp:posG gl=true) (hl:gl.length ≤ 1000) {i:Nat} (hi:i < R.length) (out:List (List Int)):∀ k j,j+k=gl.length →
    ∃ E,RT polA 24 (sub [1,1,0,1,0,0,1,0,0,1,0,1,0] B24) (elE gl R c out.length i (.sl 1 0 (rowP gl (R.getD i []) j).length none (rowP gl (R.getD i []) j).length 1) (.int .i64 (j:Int))) [bO out,bI (rowP gl (R.getD i []) j)] (.exit 2) E [bO out,bI (rowP gl (R.getD i []) gl.length)] ∧
      E=elE gl R c out.length i (.sl 1 0 (rowP gl (R.getD i []) gl.length).length none (rowP gl (R.getD i []) gl.length).length 1) (.int .i64 (gl.length:Int)):=by
  intro k
  induction k with
  | zero =>
    intro j hj
    have:j=gl.length:=by omega
    subst this
    have s:=el_g_1 (gl.map encI) (R.map encR) c out.length (out.map encO) i (rowP gl (R.getD i []) gl.length).length ((rowP gl (R.getD i []) gl.length).map encI) gl.length (by rw [List.length_map]; omega)
    exact ⟨_,lpo (s) (c:=sub [1,1,0,1,0,0,1,0,0,1,0,1,0] B24),rfl⟩
  | succ k ih =>
    intro j hj
    have hjl:j < gl.length:=by omega
    have hv:=(List.all_eq_true.1 hp) (gl.getD j 0) (by
      have:gl.getD j 0=gl[j]:=by simp [List.getD,List.getElem?_eq_getElem hjl]
      rw [this]; exact List.getElem_mem _)
    have hv:=of_decide_eq_true hv
    have a1:=at_at (pol':=polA) (by kernel_rfl) (R.getD i []) (v:=(j:Int)) (by omega) [bO out,bI (rowP gl (R.getD i []) j)]
    have m1:=mod_at (pol':=polA) (by kernel_rfl) (atT (R.getD i []) (j:Int)) hv.1 hv.2 [bO out,bI (rowP gl (R.getD i []) j)]
    have ap:=app_ints (H:=[bO out,bI (rowP gl (R.getD i []) j)]) (b:=1) (o:=rowP gl (R.getD i []) j) (xs:=[modW (atT (R.getD i []) (j:Int)) (gl.getD j 0)]) rfl (by rw [rowP_len]; simp only [List.length_singleton]; omega) (by simp)
    have hs1:sameH [bO out,bI (rowP gl (R.getD i []) j)] [bO out,bI (rowP gl (R.getD i []) j)]=true:=by
      have e1:∀ v ∈ out.map encO,same v v=true:=by
        intro v hv
        obtain ⟨r,_,rfl⟩:=List.mem_map.1 hv
        have:sameL (r.map encI) (r.map encI)=true:=sameL_all fun v hv=>by
          obtain ⟨a,_,rfl⟩:=List.mem_map.1 hv; simp [encI,same]
        simp [encO,same,this]
      have e2:∀ v ∈ (rowP gl (R.getD i []) j).map encI,same v v=true:=by
        intro v hv
        obtain ⟨a,_,rfl⟩:=List.mem_map.1 hv; simp [encI,same]
      have q1:=sameL_all e1
      have q2:=sameL_all e2
      simp only [bO,bI,sameH,q1,q2,beq_self_eq_true,Bool.and_self]
    have s:=el_g_0 (gl.map encI) (R.map encR) c out.length (out.map encO) i (rowP gl (R.getD i []) j).length ((rowP gl (R.getD i []) j).map encI) j (by rw [List.length_map]; omega) (gr hi) a1 (gx hjl) m1 (ap.trans (by rw [List.length_append,List.length_singleton]; simp only [bI,List.map_append]; rfl)) (by rw [hs1]; simp [same])
    rw [wrap_succ (by omega)] at s
    have e:(rowP gl (R.getD i []) j).map encI ++ [.int .i64 (modW (atT (R.getD i []) (j:Int)) (gl.getD j 0))]=(rowP gl (R.getD i []) (j+1)).map encI:=by rw [rowP_succ,List.map_append]; rfl
    rw [e,show (rowP gl (R.getD i []) j).length+1=(rowP gl (R.getD i []) (j+1)).length by rw [rowP_len,rowP_len]] at s
    obtain ⟨E,h1,h2⟩:=ih (j+1) (by omega)
    exact ⟨E,lop (s) (gc_eq _ rfl) (h1),h2⟩
theorem el_out (hp:posG gl=true) (hl:gl.length ≤ 1000) (hR:R.length ≤ 900) (hc:0 ≤ c):∀ k i (out:List (List Int)),i+k=(R.take c.toNat).length → out.length=i →
    ∃ i',RT polA 24 (sub [1,1,0,1,0] B24) (elE gl R c out.length i Ud Ud) [bO out] (.exit 0) (elE gl R c (out ++ ((R.take c.toNat).drop i).map (rowE gl)).length i' Ud Ud) [bO (out ++ ((R.take c.toNat).drop i).map (rowE gl))]:=by
  intro k
  induction k with
  | zero =>
    intro i out hi ho
    rw [List.length_take] at hi
    rw [List.drop_of_length_le (by rw [List.length_take]; omega),List.map_nil,List.append_nil]
    by_cases h:i < R.length
    · have s:=el_d_1 (gl.map encI) (R.map encR) c out.length (out.map encO) i (y9:=Ud) (y10:=Ud) (by rw [List.length_map]; omega) (by omega)
      exact ⟨i,lpo (sqo (s) (c:=sub [1,1,0,1,0,0] B24) (b:=sub [1,1,0,1,0,0,1] B24)) (c:=sub [1,1,0,1,0] B24)⟩
    · have s:=el_d_2 (gl.map encI) (R.map encR) c out.length (out.map encO) i (y9:=Ud) (y10:=Ud) (by rw [List.length_map]; omega)
      exact ⟨i,lpo (sqo (s) (c:=sub [1,1,0,1,0,0] B24) (b:=sub [1,1,0,1,0,0,1] B24)) (c:=sub [1,1,0,1,0] B24)⟩
  | succ k ih =>
    intro i out hi ho
    have hi2:=hi
    rw [List.length_take] at hi2
    have hil:i < R.length:=by omega
    have hd:(R.take c.toNat).drop i=R.getD i [] :: (R.take c.toNat).drop (i+1):=by
      rw [List.drop_eq_getElem_cons (by omega)]
      simp [List.getD,List.getElem?_eq_getElem hil,List.getElem_take]
    have d:=el_d_0 (gl.map encI) (R.map encR) c out.length (out.map encO) i (y9:=Ud) (y10:=Ud) (by rw [List.length_map]; omega) (by omega)
    have e:=el_e_0 (gl.map encI) (R.map encR) c out.length (out.map encO) i (y9:=Ud) (y10:=Ud)
    have f:=el_f_0 (gl.map encI) (R.map encR) c out.length (out.map encO) i 0 [] (y10:=Ud)
    obtain ⟨E,g,rfl⟩:=el_in (c:=c) hp hl hil out gl.length 0 (by omega)
    obtain ⟨w,lt⟩:=lit_seal' (P:=Tp) (H:=[bO out,bI (rowP gl (R.getD i []) gl.length)]) (t:=35) (e:=22) (k:=1) (b:=1) (p:=(rowP gl (R.getD i []) gl.length).length) (mx:=0) (bt:=24) (zv:=.imm .lit 0 []) (els:=(rowP gl (R.getD i []) gl.length).map encI) u35 (by kernel_rfl) (by kernel_rfl) (by kernel_rfl) rfl (by simp) (ints_res _)
    have ap:=app_O (H:=[bO out,.arr 1 ((rowP gl (R.getD i []) gl.length).map encI) w 0]) (b:=0) (R:=out) rfl (by omega) (rowP gl (R.getD i []) gl.length)
    have h:=el_h_0 (gl.map encI) (R.map encR) c out.length (out.map encO) i (rowP gl (R.getD i []) gl.length).length ((rowP gl (R.getD i []) gl.length).map encI) gl.length lt (ap.trans (by simp only [List.map_append]; rfl))
    have s3:=el_i_0 (gl.map encI) (R.map encR) c (out.length+1) (out.map encO) i [.arr 1 (out.map encO ++ [.imm .own 1 ((rowP gl (R.getD i []) gl.length).map encI)]) true 0,.arr 1 ((rowP gl (R.getD i []) gl.length).map encI) w 0] (y9:=.sl 1 0 (rowP gl (R.getD i []) gl.length).length none (rowP gl (R.getD i []) gl.length).length 1) (y10:=.int .i64 (gl.length:Int))
    rw [wrap_succ (by omega)] at s3
    obtain ⟨i',nx⟩:=ih (i+1) (out ++ [rowE gl (R.getD i [])]) (by omega) (by simp; omega)
    have hrow:rowP gl (R.getD i []) gl.length=rowE gl (R.getD i []):=rfl
    have hgc:gc [bO out].length (bndE (elE gl R c (out.length+1) (i+1) Ud Ud)) [.arr 1 (out.map encO ++ [.imm .own 1 ((rowP gl (R.getD i []) gl.length).map encI)]) true 0,.arr 1 ((rowP gl (R.getD i []) gl.length).map encI) w 0]=[bO (out ++ [rowE gl (R.getD i [])])]:=by
      have h1:bndE (elE gl R c (out.length+1) (i+1) Ud Ud) ≤ 1:=by simp only [bndE,bnd]; decide
      unfold gc
      have h3:max [bO out].length (max (bndE (elE gl R c (out.length+1) (i+1) Ud Ud)) (mxs [.arr 1 (out.map encO ++ [.imm .own 1 ((rowP gl (R.getD i []) gl.length).map encI)]) true 0,.arr 1 ((rowP gl (R.getD i []) gl.length).map encI) w 0]))=1:=by
        have:mxs [.arr 1 (out.map encO ++ [.imm .own 1 ((rowP gl (R.getD i []) gl.length).map encI)]) true 0,.arr 1 ((rowP gl (R.getD i []) gl.length).map encI) w 0]=0:=rfl
        rw [this]; simp only [List.length_cons,List.length_nil]; omega
      rw [h3,hrow]
      simp only [bO,List.map_append]
      rfl
    refine ⟨i',?_⟩
    rw [hd,List.map_cons,List.append_cons]
    rw [List.length_append,List.length_singleton] at nx
    have bl:=sq (d) (sq (RunsTo.block_normal (i:=1) (c:=sub [1,1,0,1,0,0,1,0] B24) (sq (e) (sq (sq (f) (bke (c:=sub [1,1,0,1,0,0,1,0,0,1,0,1] B24) (g)) (c:=sub [1,1,0,1,0,0,1,0,0,1,0] B24)) (h) (c:=sub [1,1,0,1,0,0,1,0,0,1] B24)) (c:=sub [1,1,0,1,0,0,1,0,0] B24)) (by kernel_rfl)) (s3) (c:=sub [1,1,0,1,0,0,1] B24)) (c:=sub [1,1,0,1,0,0] B24)
    exact lop (bl) hgc (nx)
theorem elements24_ok:PrimOk Tp 24 elements24:=by
  refine primOk_pure (pol:=polA) (fn:=Try.f24) (cd:=B24) follows_mixed soundA (by kernel_rfl) (by kernel_rfl) (fnok polA.prim _ _ (by kernel_rfl)) (by kernel_rfl) ?_
  intro args res h
  obtain ⟨gl,R,c,rfl,hq⟩:=rowsF_inv h
  clear h
  split at hq
  case isFalse=>cases hq
  rename_i hk
  cases hq
  obtain ⟨hp,hl,hR,hc⟩:=hk
  have a:=el_a_0 (gl.map encI) (R.map encR) c
  have b:=el_b_0 (gl.map encI) (R.map encR) c (y7:=Ud) (y8:=Ud) (y9:=Ud) (y10:=Ud)
  have d:=el_c_0 (gl.map encI) (R.map encR) c 0 [] (y8:=Ud) (y9:=Ud) (y10:=Ud)
  obtain ⟨i',lp⟩:=el_out hp hl hR hc (R.take c.toNat).length 0 [] (by omega) rfl
  rw [List.drop_zero,List.nil_append] at lp
  have z:=el_j_0 (gl.map encI) (R.map encR) c (rowsE gl R c).length ((rowsE gl R c).map encO) i' (y9:=Ud) (y10:=Ud)
  have u:=sq (a) (sq (b) (sq (sq (d) (bke (c:=sub [1,1,0,1] B24) (lp)) (c:=sub [1,1,0] B24)) (z) (c:=sub [1,1] B24)) (c:=sub [1] B24)) (c:=B24)
  exact ⟨_,_,_,.sl 0 0 (rowsE gl R c).length none (rowsE gl R c).length 1,u,by simp,by simp only [resultsV,res24]; rfl,res_rs rfl rfl⟩
end
end Go.Proofs.Ytaibmipamkaljaa
end
section
open Go Go.HL
namespace Go.Proofs.Ytaibmipamkaljaa
def GrL (gl:List Int) (g:Gr) (e:Int):Prop :=
  (∃ m,gl=[m]∧g=(m,1,1)∧e=m∧2 ≤ m∧m ≤ 24) ∨ (∃ a b,gl=[a,b]∧g=(a,b,2)∧e=b∧2 ≤ a∧a ≤ 12∧2 ≤ b∧b ≤ 24∧a * b ≤ 144∧b % a=0)
theorem grp_L (l:List Int):∃ g e,GrL (grpT l) g e:=by
  unfold grpT
  split
  · have:=modW_bounds (atT l 1) 23 (by omega) (by omega)
    exact ⟨_,_,.inl ⟨_,rfl,rfl,rfl,by omega,by omega⟩⟩
  · obtain ⟨hA1,hA2⟩:=grpA_bnd l
    obtain ⟨hB1,_⟩:=grpB_bnd l
    have hAA:4 ≤ grpA l * grpA l∧grpA l * grpA l ≤ 144:=⟨Int.mul_le_mul hA1 hA1 (by omega) (by omega),Int.mul_le_mul hA2 hA2 (by omega) (by omega)⟩
    have k1:1 ≤ 24 / grpA l:=(Int.le_ediv_iff_mul_le (by omega)).2 (by omega)
    have k2:1 ≤ 144 / (grpA l * grpA l):=(Int.le_ediv_iff_mul_le (by omega)).2 (by omega)
    have hb:=modW_bounds (atT l 2) (max 1 (min (24 / grpA l) (144 / (grpA l * grpA l)))) (by omega) (by obtain ⟨h1,h2⟩:=grpM_bnd l; omega)
    have hB:grpB l ≤ 24 / grpA l∧grpB l ≤ 144 / (grpA l * grpA l):=by unfold grpB; omega
    have q1:=(Int.le_ediv_iff_mul_le (by omega:0 < grpA l)).1 hB.1
    have q2:=(Int.le_ediv_iff_mul_le (by omega:0 < grpA l * grpA l)).1 hB.2
    have q3:2 * 1 ≤ grpA l * grpB l:=Int.mul_le_mul hA1 hB1 (by omega) (by omega)
    refine ⟨_,_,.inr ⟨grpA l,grpA l * grpB l,rfl,rfl,rfl,hA1,hA2,by omega,by rw [Int.mul_comm]; exact q1,?_,Int.mul_emod_right _ _⟩⟩
    rw [← Int.mul_assoc,Int.mul_comm]; exact q2
theorem GrL.new {gl:List Int} {g:Gr} {e:Int} (h:GrL gl g e):newGroupT gl=(g,true):=by
  rcases h with ⟨m,rfl,rfl,rfl,h1,h2⟩ | ⟨a,b,rfl,rfl,rfl,h1,h2,h3,h4,h5,h6⟩
  · simp only [newGroupT,in_t ⟨h1,h2⟩,if_true]
  · simp only [newGroupT,in_t (a:=a) (lo:=2) (hi:=24) ⟨h1,by omega⟩,in_t ⟨h3,h4⟩,Bool.and_self,if_true,decide_eq_true h5,decide_eq_true h6]
theorem GrL.ok {gl:List Int} {g:Gr} {e:Int} (h:GrL gl g e):grOk g:=by
  rcases h with ⟨m,rfl,rfl,rfl,h1,h2⟩ | ⟨a,b,rfl,rfl,rfl,h1,h2,h3,h4,h5,h6⟩
  · exact ⟨⟨by show 1 ≤ e; omega,by show e ≤ 1000; omega⟩,by show (1:Int) ≤ 1; omega,by show (1:Int) ≤ 1000; omega⟩
  · exact ⟨⟨by show 1 ≤ a; omega,by show a ≤ 1000; omega⟩,by show 1 ≤ e; omega,by show e ≤ 1000; omega⟩
theorem GrL.pos {gl:List Int} {g:Gr} {e:Int} (h:GrL gl g e):posG gl=true∧1 ≤ gl.length∧gl.length ≤ 2∧(∀ j,j < gl.length → 2 ≤ gl.getD j 0∧gl.getD j 0 ≤ 24)∧gl.getD (gl.length - 1) 0=e∧2 ≤ e∧e ≤ 24:=by
  rcases h with ⟨m,rfl,rfl,rfl,h1,h2⟩ | ⟨a,b,rfl,rfl,rfl,h1,h2,h3,h4,h5,h6⟩
  · refine ⟨?_,by simp,by simp,?_,rfl,h1,h2⟩
    · simp only [posG,List.all_cons,List.all_nil,Bool.and_true]; exact decide_eq_true (by omega)
    · intro j hj
      have:j=0:=by simp at hj; exact hj
      subst this; exact ⟨h1,h2⟩
  · refine ⟨?_,by simp,by simp,?_,rfl,h3,h4⟩
    · simp only [posG,List.all_cons,List.all_nil,Bool.and_true,Bool.and_eq_true]; exact ⟨decide_eq_true (by omega),decide_eq_true (by omega)⟩
    · intro j hj
      match j,hj with
      | 0,_=>exact ⟨h1,by show a ≤ 24; omega⟩
      | 1,_=>exact ⟨h3,h4⟩
      | j+2,hj=>simp only [List.length_cons,List.length_nil] at hj; omega
def elOf (r:List Int):El:=(r.getD 0 0,r.getD 1 0)
def rowOk (gl r:List Int):Prop:=r.length=gl.length∧∀ j,j < gl.length → 0 ≤ r.getD j 0∧r.getD j 0 < gl.getD j 0
theorem GrL.elem {gl:List Int} {g:Gr} {e:Int} (h:GrL gl g e) {r:List Int} (hr:rowOk gl r):elementT g r=(elOf r,true):=by
  obtain ⟨hl,hr⟩:=hr
  rcases h with ⟨m,rfl,rfl,rfl,h1,h2⟩ | ⟨a,b,rfl,rfl,rfl,h1,h2,h3,h4,h5,h6⟩
  · match r,hl with
    | [x],_ =>
      have k:=hr 0 (by simp)
      have k1:0 ≤ x∧x ≤ e - 1:=⟨k.1,by have:=k.2; simp at this; omega⟩
      simp only [elementT,in_t k1,and_self,if_true]; rfl
  · match r,hl with
    | [x,y],_ =>
      have k:=hr 0 (by simp)
      have q:=hr 1 (by simp)
      have k1:0 ≤ x∧x ≤ a - 1:=⟨k.1,by have:=k.2; simp at this; omega⟩
      have k2:0 ≤ y∧y ≤ e - 1:=⟨q.1,by have:=q.2; simp at this; omega⟩
      simp only [elementT,in_t k1,in_t k2,and_self,if_true]; rfl
theorem row_ok {gl:List Int} {g:Gr} {e:Int} (h:GrL gl g e) (x:List Int):rowOk gl (rowE gl x):=by
  refine ⟨by simp [rowE],fun j hj=>?_⟩
  have hb:=h.pos.2.2.2.1 j hj
  have e:(rowE gl x).getD j 0=modW (atT x (j:Int)) (gl.getD j 0):=by
    simp [rowE,List.getD,List.getElem?_map,List.getElem?_range hj]
  rw [e]
  exact modW_bounds _ _ (by omega) (by omega)
def zeroAt (g:Gr) (x:El) (k:Nat):Prop:=((k:Int) * x.1) % g.1=0∧((k:Int) * x.2) % g.2.1=0
def mulT (g:Gr) (x:El) (k:Nat):El:=(((k:Int) * x.1) % g.1,((k:Int) * x.2) % g.2.1)
theorem mulT_zero {g:Gr} {x:El} {k:Nat}:mulT g x k=(0,0) ↔ zeroAt g x k:=by simp [mulT,zeroAt,Prod.ext_iff]
theorem mulT_succ (g:Gr) (x:El) (k:Nat):addT g (mulT g x k) x=mulT g x (k+1):=by
  simp only [addT,mulT,Int.emod_add_emod]
  congr 1 <;> · congr 1; rw [show ((k+1:Nat):Int)=(k:Int)+1 by omega,Int.add_mul]; omega
theorem mulT_one {g:Gr} (x:El) (h:elOk g x):mulT g x 1=x:=by
  obtain ⟨⟨a,b⟩,c,d⟩:=h
  have e1:(((1:Nat):Int) * x.1) % g.1=x.1:=by rw [show (((1:Nat):Int) * x.1)=x.1 by omega]; exact Int.emod_eq_of_lt a b
  have e2:(((1:Nat):Int) * x.2) % g.2.1=x.2:=by rw [show (((1:Nat):Int) * x.2)=x.2 by omega]; exact Int.emod_eq_of_lt c d
  simp only [mulT,e1,e2]
def isOrd (g:Gr) (x:El) (o:Nat):Prop:=1 ≤ o∧zeroAt g x o∧∀ k,1 ≤ k → k < o → ¬ zeroAt g x k
theorem ord_ex {g:Gr} {x:El}:∀ (e:Nat),1 ≤ e → zeroAt g x e → ∃ o,isOrd g x o∧o ≤ e:=by
  intro e
  induction e using Nat.strongRecOn with
  | ind e ih =>
    intro h1 h2
    by_cases c:∃ k,1 ≤ k∧k < e∧zeroAt g x k
    · obtain ⟨k,a,b,d⟩:=c
      obtain ⟨o,p,q⟩:=ih k b a d
      exact ⟨o,p,by omega⟩
    · exact ⟨e,⟨h1,h2,fun k a b d=>c ⟨k,a,b,d⟩⟩,Nat.le_refl _⟩
theorem ord_dvd {g:Gr} {x:El} {o e:Nat} (ho:isOrd g x o) (he:zeroAt g x e):e % o=0:=by
  apply Classical.byContradiction
  intro hne
  refine ho.2.2 (e % o) (by omega) (Nat.mod_lt _ ho.1) ?_
  have key:∀ (m y:Int),((e:Int) * y) % m=0 → ((o:Int) * y) % m=0 → (((e % o:Nat):Int) * y) % m=0:=by
    intro m y h1 h2
    have d1:=Int.dvd_of_emod_eq_zero h1
    have d2:=Int.dvd_of_emod_eq_zero h2
    have e1:((e % o:Nat):Int) * y=(e:Int) * y - ((e / o:Nat):Int) * ((o:Int) * y):=by
      have:(e:Int)=(o:Int) * ((e / o:Nat):Int)+((e % o:Nat):Int):=by
        have:=Nat.div_add_mod e o; exact_mod_cast this.symm
      rw [show ((e:Int) * y)=((o:Int) * ((e / o:Nat):Int)+((e % o:Nat):Int)) * y by rw [← this],Int.add_mul,
        show (o:Int) * ((e / o:Nat):Int) * y=((e / o:Nat):Int) * ((o:Int) * y) by rw [Int.mul_comm (o:Int),Int.mul_assoc]]
      omega
    rw [e1]
    exact Int.emod_eq_zero_of_dvd (Int.dvd_sub d1 (Int.dvd_trans d2 (Int.dvd_mul_left ..)))
  exact ⟨key _ _ he.1 ho.2.1.1,key _ _ he.2 ho.2.1.2⟩
theorem ordF_eq {g:Gr} {x:El} {o:Nat} (ho:isOrd g x o):∀ (f n:Nat),1 ≤ n → n ≤ o → o < n+f → ordF g x f (mulT g x n) n=some o:=by
  intro f
  induction f with
  | zero=>intro n h1 h2 h3; omega
  | succ f ih =>
    intro n h1 h2 h3
    rw [ordF]
    by_cases c:n=o
    · rw [if_pos (mulT_zero.2 (c ▸ ho.2.1)),c]
    · rw [if_neg (fun h=>ho.2.2 n h1 (by omega) (mulT_zero.1 h)),mulT_succ]
      exact ih (n+1) (by omega) (by omega) (by omega)
theorem GrL.zeroE {gl:List Int} {g:Gr} {e:Int} (h:GrL gl g e) (x:El) (hx:elOk g x):zeroAt g x e.toNat:=by
  rcases h with ⟨m,rfl,rfl,rfl,h1,h2⟩ | ⟨a,b,rfl,rfl,rfl,h1,h2,h3,h4,h5,h6⟩
  · refine ⟨?_,?_⟩
    · show ((e.toNat:Int) * x.1) % e=0
      rw [Int.toNat_of_nonneg (by omega)]; exact Int.mul_emod_right _ _
    · show ((e.toNat:Int) * x.2) % 1=0; omega
  · refine ⟨?_,?_⟩
    · show ((e.toNat:Int) * x.1) % a=0
      rw [Int.toNat_of_nonneg (by omega)]
      exact Int.emod_eq_zero_of_dvd (Int.dvd_trans (Int.dvd_of_emod_eq_zero h6) (Int.dvd_mul_right ..))
    · show ((e.toNat:Int) * x.2) % e=0
      rw [Int.toNat_of_nonneg (by omega)]; exact Int.mul_emod_right _ _
theorem GrL.order {gl:List Int} {g:Gr} {e:Int} (h:GrL gl g e) {r:List Int} (hr:rowOk gl r):∃ o,isOrd g (elOf r) o∧(o:Int) ≤ e∧e % (o:Int)=0∧orderT gl r=some ((o:Int),0):=by
  have he:=h.elem hr
  have hx:elOk g (elOf r):=by have:=element_el h.ok (l:=r) (by rw [he]); rwa [he] at this
  have hz:=h.zeroE _ hx
  have hp:=h.pos
  obtain ⟨o,ho,hoe⟩:=ord_ex e.toNat (by omega) hz
  have hd:=ord_dvd ho hz
  have e1:(e.toNat:Int)=e:=Int.toNat_of_nonneg (by omega)
  refine ⟨o,ho,by omega,?_,?_⟩
  · rw [← e1]; exact_mod_cast hd
  · have hm:=mulT_one _ hx
    have hf:=ordF_eq ho 1000 1 (Nat.le_refl _) ho.1 (by omega)
    rw [hm] at hf
    simp only [orderT,h.new,he,if_true,hf,Option.map]
theorem rch_rep {g:Gr} {x:El} (hx:elOk g x):∀ (o:Nat) (w:Wt),w ∈ (rchT g (List.replicate o x)).headD [] ↔ ∃ j:Nat,j ≤ o∧w=((j:Int),mulT g x j)
  | 0,w=>by
    simp only [List.replicate,rchT,List.headD_cons,List.mem_singleton]
    have m0:mulT g x 0=(0,0):=by simp [mulT]
    constructor
    · rintro rfl; exact ⟨0,Nat.le_refl _,by rw [m0]; rfl⟩
    · rintro ⟨j,h1,rfl⟩
      have:j=0:=by omega
      subst this; rw [m0]; rfl
  | o+1,w=>by
    rw [List.replicate_succ]
    show w ∈ rchStep g x ((rchT g (List.replicate o x)).headD []) ↔ _
    rw [mem_step]
    constructor
    · rintro ⟨u,h1,h2⟩
      obtain ⟨j,h3,rfl⟩:=(rch_rep hx o u).1 h1
      rcases h2 with rfl | rfl
      · exact ⟨j,by omega,rfl⟩
      · exact ⟨j+1,by omega,by rw [rchW,mulT_succ]; rfl⟩
    · rintro ⟨j,h1,rfl⟩
      by_cases c:j ≤ o
      · exact ⟨_,(rch_rep hx o _).2 ⟨j,c,rfl⟩,.inl rfl⟩
      · obtain ⟨i,rfl⟩:∃ i,j=i+1:=⟨j - 1,by omega⟩
        exact ⟨_,(rch_rep hx o _).2 ⟨i,by omega,rfl⟩,.inr (by rw [rchW,mulT_succ]; rfl)⟩
theorem partT_len {g:Gr} (hg:grOk g):∀ (l:List El) (i:Nat) (w:Wt),(∀ x ∈ l,elOk g x) → w ∈ (rchT g l).headD [] → ((partT g l i w).length:Int)=w.1
  | [],i,w,_,h=>by simp [rchT] at h; subst h; rfl
  | x :: l,i,w,hl,h=>by
    have hx:=hl x (by simp)
    have hl':∀ y ∈ l,elOk g y:=fun y hy=>hl y (by simp [hy])
    rw [partT]
    split
    · rename_i c; rw [c]; rfl
    · split
      · rename_i c
        have:=partT_len hg l (i+1) _ hl' c
        simp only [List.length_cons]
        simp only at this
        omega
      · rename_i c
        rcases part_next hg hx h with h' | h'
        · exact absurd h' c
        · exact partT_len hg l (i+1) w hl' h'
theorem shT_eq {g:Gr} {l:List El} {t:El} {o:Nat} (h1:((o:Int),t) ∈ (rchT g l).headD []):∀ (f j:Nat),(∀ k,j ≤ k → k < o → ((k:Int),t) ∉ (rchT g l).headD []) → j ≤ o → o < j+f → shT g l t f j=some (partI g l ((o:Int),t)):=by
  intro f
  induction f with
  | zero=>intro j _ h3 h4; omega
  | succ f ih =>
    intro j h2 h3 h4
    rw [shT]
    by_cases c:j=o
    · subst c; rw [if_pos h1]
    · rw [if_neg (h2 j (Nat.le_refl _) (by omega))]
      exact ih (j+1) (fun k a b=>h2 k (by omega) b) (by omega) (by omega)
theorem GrL.zero {gl:List Int} {g:Gr} {e:Int} (h:GrL gl g e) {r:List Int} (hr:rowOk gl r) {o:Nat} (ho:isOrd g (elOf r) o) (hoe:o ≤ 60):∃ p,zeroT gl (List.replicate o r)=(p,0)∧p.length=o:=by
  have he:=h.elem hr
  have hx:elOk g (elOf r):=by have:=element_el h.ok (l:=r) (by rw [he]); rwa [he] at this
  have hes:elemsT g (List.replicate o r)=some (List.replicate o (elOf r)):=by
    unfold elemsT
    rw [if_pos ⟨by simpa using hoe,by rw [List.all_eq_true]; intro x hx; rw [(List.mem_replicate.1 hx).2,he]⟩,List.map_replicate,he]
  have hz:((o:Int),((0,0):El)) ∈ (rchT g (List.replicate o (elOf r))).headD []:=(rch_rep hx o _).2 ⟨o,Nat.le_refl _,by rw [mulT_zero.2 ho.2.1]⟩
  have hs:=shT_eq hz o 1 (fun k h1 h2 h3=>by
    obtain ⟨j,_,hj⟩:=(rch_rep hx o _).1 h3
    simp only [Prod.mk.injEq] at hj
    have:k=j:=by omega
    subst this
    exact ho.2.2 k h1 h2 (mulT_zero.1 hj.2.symm)) ho.1 (by omega)
  refine ⟨partI g (List.replicate o (elOf r)) ((o:Int),(0,0)),?_,?_⟩
  · simp only [zeroT,h.new,if_true,hes,List.length_replicate,hs,shP]
  · have:=partT_len h.ok (List.replicate o (elOf r)) 0 ((o:Int),(0,0)) (fun x hx'=>by rw [(List.mem_replicate.1 hx').2]; exact hx) hz
    simp only [partI,List.length_map]
    simp only at this
    omega
def negR (gl r:List Int) (n:Nat):List Int:=(List.range n).map fun (j:Nat)=>(gl.getD j 0 - r.getD j 0) % gl.getD j 0
theorem neg_ok {gl:List Int} {g:Gr} {e:Int} (h:GrL gl g e) (r:List Int):rowOk gl (negR gl r gl.length):=by
  refine ⟨by simp [negR],fun j hj=>?_⟩
  have hb:=h.pos.2.2.2.1 j hj
  have e:(negR gl r gl.length).getD j 0=(gl.getD j 0 - r.getD j 0) % gl.getD j 0:=by
    simp [negR,List.getD,List.getElem?_map,List.getElem?_range hj]
  rw [e]
  exact ⟨Int.emod_nonneg _ (by omega),Int.emod_lt_of_pos _ (by omega)⟩
theorem neg_zero {m x:Int} (k:Nat) (hm:0 < m):((k:Int) * ((m - x) % m)) % m=0 ↔ ((k:Int) * x) % m=0:=by
  have e1:((k:Int) * ((m - x) % m)) % m=(-((k:Int) * x)) % m:=by
    rw [Int.mul_emod,Int.emod_emod,← Int.mul_emod,Int.mul_sub,Int.sub_eq_add_neg,Int.add_emod,Int.mul_emod_left,Int.zero_add,Int.emod_emod]
  rw [e1]
  constructor
  · intro h; have:=Int.dvd_of_emod_eq_zero h; exact Int.emod_eq_zero_of_dvd (Int.dvd_neg.1 this)
  · intro h; have:=Int.dvd_of_emod_eq_zero h; exact Int.emod_eq_zero_of_dvd (Int.dvd_neg.2 this)
theorem neg_at {gl:List Int} {g:Gr} {e:Int} (h:GrL gl g e) {r:List Int} (k:Nat):zeroAt g (elOf (negR gl r gl.length)) k ↔ zeroAt g (elOf r) k ∨ (g.2.1=1∧((k:Int) * r.getD 0 0) % g.1=0):=by
  rcases h with ⟨m,rfl,rfl,rfl,h1,h2⟩ | ⟨a,b,rfl,rfl,rfl,h1,h2,h3,h4,h5,h6⟩
  · have:=neg_zero (m:=e) (x:=r.getD 0 0) k (by omega)
    simp only [zeroAt,elOf,negR,List.length_cons,List.length_nil,List.range_succ,List.range_zero,List.nil_append,List.map_cons,List.map_nil,List.getD_cons_zero,Int.emod_one,and_true]
    rw [this]; simp
  · have q1:=neg_zero (m:=a) (x:=r.getD 0 0) k (by omega)
    have q2:=neg_zero (m:=e) (x:=r.getD 1 0) k (by omega)
    simp only [zeroAt,elOf,negR,List.length_cons,List.length_nil,List.range_succ,List.range_zero,List.nil_append,List.cons_append,List.map_cons,List.map_nil,List.getD_cons_zero,List.getD_cons_succ]
    rw [q1,q2]
    constructor
    · exact .inl
    · rintro (h | ⟨h,_⟩)
      · exact h
      · omega
end Go.Proofs.Ytaibmipamkaljaa
end
section
open Go Go.HL
namespace Go.Proofs.Ytaibmipamkaljaa
open Go.Proofs.Try renaming prog → Tp
open Go.HL.HV renaming undef → Ud
def polAw:Pol:={ pol with shared:=fun g=>sharedT.contains g || g == 54,prim:=fun g=>if g == 49 then some reached49 else if g == 59 then some add59 else none }
set_option maxRecDepth 100000 in
theorem fns_okAw:(Tp.funcs.toList.zipIdx.all fun p=>fnOk { pol with shared:=fun g=>sharedT.contains g || g == 54 } p.2 p.1)=true:=by kernel_rfl
theorem sound_primC (F:FuncId → Option (List HV → Option HV)) (hF:∀ g f,F g=some f → PrimOk Tp g f) (n:Nat):CallSound Tp (callN Tp { pol with shared:=fun g=>sharedT.contains g || g == 54,prim:=F } n) :=
  callN_ok follows_mixed (fun g fn h=>by
    have:=fnOk_prim (pol:={ pol with shared:=fun g=>sharedT.contains g || g == 54 }) (F:=F) g fn
    rw [this]
    exact List.all_eq_true.1 fns_okAw (fn,g) (by
      rw [List.mem_zipIdx_iff_getElem?]
      simpa using h)) hF n
theorem soundAw (n:Nat):CallSound Tp (callN Tp polAw n):=sound_primC _ (fun g f h=>by
  split at h
  · rename_i hg; cases h; rw [eq_of_beq hg]; exact reached_ok
  split at h
  · rename_i hg; cases h; rw [eq_of_beq hg]; exact add_ok
  · cases h) n
set_option maxRecDepth 100000 in
theorem awake_run:callN Tp polAw 400 16 [] []=some (.bool true,[]):=by kernel_rfl
end Go.Proofs.Ytaibmipamkaljaa
end
section
open Go Go.HL
namespace Go.Proofs.Ytaibmipamkaljaa
open Go.Proofs.Try renaming prog → Tp
open Go.HL.HV renaming undef → Ud
theorem awake_prim:PrimOk Tp 16 awakeF:=by
  refine primOk_of (pol:=polAw) soundAw (by kernel_rfl) fun args res h=>?_
  match args,h with
  | [],h =>
    cases h
    exact ⟨400,_,_,false,awake_run,rfl⟩
def polL6:Pol:={ pol with prim:=fun g=>if g == 16 then some awakeF else if g == 23 then some group23 else if g == 24 then some elements24 else if g == 29 then some order29 else if g == 26 then some zero26 else none }
theorem soundL6 (n:Nat):CallSound Tp (callN Tp polL6 n):=sound_prim _ (fun g f h=>by
  split at h
  · rename_i hg; cases h; rw [eq_of_beq hg]; exact awake_prim
  split at h
  · rename_i hg; cases h; rw [eq_of_beq hg]; exact group_ok
  split at h
  · rename_i hg; cases h; rw [eq_of_beq hg]; exact elements24_ok
  split at h
  · rename_i hg; cases h; rw [eq_of_beq hg]; exact order_ok
  split at h
  · rename_i hg; cases h; rw [eq_of_beq hg]; exact zero_ok
  · cases h) n
theorem awake_at {pol':Pol} (hp:pol'.prim 16=some awakeF) (H:Heap):∀ k,callN Tp pol' (k+1) 16 [] H=some (.bool true,H):=fun k=>by
  rw [prim_call (pol:=pol') (g:=16) (F:=awakeF) hp (rs:=[]) rfl (res:=.bool true) rfl]; rfl
theorem group_at {pol':Pol} (hp:pol'.prim 23=some group23) (l:List Int) (H:Heap):∀ k,callN Tp pol' (k+1) 23 [.imm .arg 1 (l.map encI)] H=some (.sl H.length 0 (grpT l).length none (grpT l).length 1,H ++ [bI (grpT l)]):=fun k=>by
  have hX:=arg_li H l
  have hd:mapO decI (l.map encI)=some l:=mapO_map decI_enc l
  rw [prim_call (pol:=pol') (g:=23) (F:=group23) hp (rs:=[.imm .arg 1 (l.map encI)]) (by simp only [mapO,hX]) (res:=.own 1 ((grpT l).map encI)) (by simp only [group23,liF,hd]),recv_ints]
def argI (H:Heap) (v:HV) (l:List Int):Prop:=toArg H 6 v=some (.imm .arg 1 (l.map encI))
theorem argI_own (H:Heap) (l:List Int):argI H (.imm .own 1 (l.map encI)) l:=by
  show argP (.imm .own 1 (l.map encI))=_
  simp only [argP,argP_ints']
theorem elements24_at {pol':Pol} (hp:pol'.prim 24=some elements24) {gl:List Int} {R:List (List Int)} {v1 v2:HV} {c:Int} {H:Heap} (h1:argI H v1 gl) (h2:toArg H 6 v2=some (.imm .arg 1 (R.map encR))) (hk:posG gl=true∧gl.length ≤ 1000∧R.length ≤ 900∧0 ≤ c) :
    ∀ k,callN Tp pol' (k+1) 24 [v1,v2,.int .i64 c] H=some (.sl H.length 0 (rowsE gl R c).length none (rowsE gl R c).length 1,H ++ [.arr 1 ((rowsE gl R c).map encO) true 0]):=fun k=>by
  have hc:toArg H 6 (.int .i64 c)=some (.int .i64 c):=rfl
  have hd:mapO decI (gl.map encI)=some gl:=mapO_map decI_enc gl
  have hd2:mapO decR (R.map encR)=some R:=mapO_map decR_enc R
  unfold argI at h1
  rw [prim_call (pol:=pol') (g:=24) (F:=elements24) hp (rs:=[.imm .arg 1 (gl.map encI),.imm .arg 1 (R.map encR),.int .i64 c]) (by simp only [mapO,h1,h2,hc]) (res:=.own 1 ((rowsE gl R c).map encO)) (by simp only [elements24,rowsF,hd,hd2]; rw [if_pos hk]),recv_rows]
theorem order_at {pol':Pol} (hp:pol'.prim 29=some order29) {l lx:List Int} {v1 v2:HV} {H:Heap} (h1:argI H v1 l) (h2:argI H v2 lx) {r:Int × Int} (hr:orderT l lx=some r) :
    ∀ k,callN Tp pol' (k+1) 29 [v1,v2] H=some (.tuple [.int .i64 r.1,.int .i64 r.2],H):=fun k=>by
  have hd:mapO decI (l.map encI)=some l:=mapO_map decI_enc l
  have hd2:mapO decI (lx.map encI)=some lx:=mapO_map decI_enc lx
  unfold argI at h1 h2
  rw [prim_call (pol:=pol') (g:=29) (F:=order29) hp (rs:=[.imm .arg 1 (l.map encI),.imm .arg 1 (lx.map encI)]) (by simp only [mapO,h1,h2]) (res:=.tuple [.int .i64 r.1,.int .i64 r.2]) (by simp only [order29,llF,hd,hd2,hr,Option.map])]
  rfl
theorem zero_at {pol':Pol} (hp:pol'.prim 26=some zero26) {l:List Int} {R:List (List Int)} {v1 v2:HV} {H:Heap} (h1:argI H v1 l) (h2:toArg H 6 v2=some (.imm .arg 1 (R.map encR))) (hR:R.length ≤ 1000) :
    ∀ k,callN Tp pol' (k+1) 26 [v1,v2] H=some (.tuple [.sl H.length 0 (zeroT l R).1.length none (zeroT l R).1.length 1,.int .i64 (zeroT l R).2],H ++ [bI (zeroT l R).1]):=fun k=>by
  have hd:mapO decI (l.map encI)=some l:=mapO_map decI_enc l
  have hd2:mapO decR (R.map encR)=some R:=mapO_map decR_enc R
  unfold argI at h1
  rw [prim_call (pol:=pol') (g:=26) (F:=zero26) hp (rs:=[.imm .arg 1 (l.map encI),.imm .arg 1 (R.map encR)]) (by simp only [mapO,h1,h2]) (res:=.tuple [.own 1 ((zeroT l R).1.map encI),.int .i64 (zeroT l R).2]) (by simp only [zero26,hd,hd2]; rw [if_pos hR]),recv_li1]
theorem gxo {l:List Int} {y:Nat} (hy:y < l.length):idxV Tp 22 (.imm .own 1 (l.map encI)) (.int .i64 (y:Int))=some (.vptr (.int .i64 (l.getD y 0))) :=
  idx_imm u22 z3 (by omega) (by rw [Int.toNat_natCast,List.getElem?_map,List.getElem?_eq_getElem hy]; simp [encI,List.getD,List.getElem?_eq_getElem hy])
theorem ix22 {b n i:Nat} (hi:i < n):idxV Tp 22 (.sl b 0 n none n 1) (.int .i64 (i:Int))=some (.ptr b i 0 n):=by
  have:=idx_sl (P:=Tp) (t:=22) (b:=b) (len:=n) (tot:=n) (cap:=none) (ik:=.i64) (n:=(i:Int)) u22 z3 (by omega) (by omega)
  rwa [Int.toNat_natCast] at this
end Go.Proofs.Ytaibmipamkaljaa
end
section
open Go Go.HL
namespace Go.Proofs.Ytaibmipamkaljaa
set_option maxRecDepth 100000
open Go.Proofs.Try renaming prog → Tp
open Go.HL.HV renaming undef → Ud
noncomputable def B6:Code:=Try.f6.body.getD .skip
abbrev env6 (v0 v1 v4 v5 v6 v7 v8 v9 v10 v11 v12 v13 v14 v15 v16:HV):Env:=[(0,v0),(1,v1),(4,v4),(5,v5),(6,v6),(7,v7),(8,v8),(9,v9),(10,v10),(11,v11),(12,v12),(13,v13),(14,v14),(15,v15),(16,v16)]
theorem so_a_0 (la lb:List HV) :RT polL6 6 (sub [0] B6) [(0,.imm .arg 1 la),(1,.imm .arg 1 lb)] [] .normal (env6 (.imm .arg 1 la) (.imm .arg 1 lb) (.bool false) Ud Ud Ud Ud Ud Ud Ud Ud Ud Ud Ud Ud) [] :=
  RunsTo.hin 0 60 [] fun kf hk=>⟨_,by kernel_rfl,.nil⟩
theorem so_b_0 (la lb:List HV)  {y5 y6 y7 y8 y9 y10 y11 y12 y13 y14 y15 y16:HV} {n:Nat} {gs:List HV} (g0:∀ kf,callN Tp polL6 (kf+1) 23 [.imm .arg 1 la] []=some (.sl 0 0 n none n 1,[.arr 1 gs true 0])):RT polL6 6 (sub [1,0] B6) (env6 (.imm .arg 1 la) (.imm .arg 1 lb) (.bool false) y5 y6 y7 y8 y9 y10 y11 y12 y13 y14 y15 y16) [] .normal (env6 (.imm .arg 1 la) (.imm .arg 1 lb) (.bool false) (.sl 0 0 n none n 1) y6 y7 y8 y9 y10 y11 y12 y13 y14 y15 y16) [.arr 1 gs true 0] :=
  RunsTo.hin 0 60 [⟨1,1,.sl 0 0 n none n 1,[.arr 1 gs true 0]⟩] fun kf hk=>⟨_,by kernel_rfl,(oC (g0 kf) .nil)⟩
theorem so_c_0 (la lb:List HV) (n:Nat) (gs:List HV) {y6 y7 y8 y9 y10 y11 y12 y13 y14 y15 y16:HV} {xs:List HV} (g0:∀ kf,callN Tp polL6 (kf+1) 24 [.sl 0 0 n none n 1,.imm .lit 1 [.imm .arg 1 lb],.i 1] [.arr 1 gs true 0]=some (.sl 1 0 1 none 1 1,[.arr 1 gs true 0,.arr 1 [.imm .own 1 xs] true 0])):RT polL6 6 (sub [1,1,0] B6) (env6 (.imm .arg 1 la) (.imm .arg 1 lb) (.bool false) (.sl 0 0 n none n 1) y6 y7 y8 y9 y10 y11 y12 y13 y14 y15 y16) [.arr 1 gs true 0] .normal (env6 (.imm .arg 1 la) (.imm .arg 1 lb) (.bool false) (.sl 0 0 n none n 1) (.imm .own 1 xs) y7 y8 y9 y10 y11 y12 y13 y14 y15 y16) [.arr 1 gs true 0,.arr 1 [.imm .own 1 xs] true 0] :=
  RunsTo.hin 0 60 [⟨2,3,.sl 1 0 1 none 1 1,[.arr 1 gs true 0,.arr 1 [.imm .own 1 xs] true 0]⟩] fun kf hk=>⟨_,by kernel_rfl,(oC (g0 kf) .nil)⟩
theorem so_d_0 (la lb:List HV) (n:Nat) (gs:List HV) (xs:List HV) {y7 y8 y9 y10 y11 y12 y13 y14 y15 y16:HV} {o:Int} (g0:∀ kf,callN Tp polL6 (kf+1) 29 [.sl 0 0 n none n 1,.imm .own 1 xs] [.arr 1 gs true 0,.arr 1 [.imm .own 1 xs] true 0]=some (.tuple [.i o,.i 0],[.arr 1 gs true 0,.arr 1 [.imm .own 1 xs] true 0])):RT polL6 6 (sub [1,1,1,0] B6) (env6 (.imm .arg 1 la) (.imm .arg 1 lb) (.bool false) (.sl 0 0 n none n 1) (.imm .own 1 xs) y7 y8 y9 y10 y11 y12 y13 y14 y15 y16) [.arr 1 gs true 0,.arr 1 [.imm .own 1 xs] true 0] .normal (env6 (.imm .arg 1 la) (.imm .arg 1 lb) (.bool false) (.sl 0 0 n none n 1) (.imm .own 1 xs) (.i o) (.i 0) y9 y10 y11 y12 y13 y14 y15 y16) [.arr 1 gs true 0,.arr 1 [.imm .own 1 xs] true 0] :=
  RunsTo.hin 0 60 [⟨3,2,.tuple [.i o,.i 0],[.arr 1 gs true 0,.arr 1 [.imm .own 1 xs] true 0]⟩] fun kf hk=>⟨_,by kernel_rfl,(oC (g0 kf) .nil)⟩
theorem so_e_2 (la lb:List HV) (n:Nat) (gs:List HV) (xs:List HV) (o:Int) {y9 y10 y11 y12 y13 y14 y15 y16:HV} {x0:Int} {x1:Int} (g0:¬ (o < 1)) (g1:idxV Tp 22 (.sl 0 0 n none n 1) (.i (IntKind.i64.wrap ((n:Int) - 1)))=some (.ptr 0 (n - 1) 0 n)) (g2:loadV Tp [.arr 1 gs true 0,.arr 1 [.imm .own 1 xs] true 0] 3 (.ptr 0 (n - 1) 0 n)=some (.i x0)) (g3:¬ (x0 < o)) (g4:idxV Tp 22 (.sl 0 0 n none n 1) (.i (IntKind.i64.wrap ((n:Int) - 1)))=some (.ptr 0 (n - 1) 0 n)) (g5:loadV Tp [.arr 1 gs true 0,.arr 1 [.imm .own 1 xs] true 0] 3 (.ptr 0 (n - 1) 0 n)=some (.i x1)) (g6:binV Tp .rem 3 (.i x1) (.i o)=some (.i ((x1:Int).tmod o))) (g7:(x1:Int).tmod o=0):RT polL6 6 (sub [1,1,1,1,0] B6) (env6 (.imm .arg 1 la) (.imm .arg 1 lb) (.bool false) (.sl 0 0 n none n 1) (.imm .own 1 xs) (.i o) (.i 0) y9 y10 y11 y12 y13 y14 y15 y16) [.arr 1 gs true 0,.arr 1 [.imm .own 1 xs] true 0] .normal (env6 (.imm .arg 1 la) (.imm .arg 1 lb) (.bool false) (.sl 0 0 n none n 1) (.imm .own 1 xs) (.i o) (.i 0) y9 y10 y11 y12 y13 y14 y15 y16) [.arr 1 gs true 0,.arr 1 [.imm .own 1 xs] true 0] :=
  RunsTo.hin 0 60 [⟨4,4,.bool false,[.arr 1 gs true 0,.arr 1 [.imm .own 1 xs] true 0]⟩,⟨4,12,.ptr 0 (n - 1) 0 n,[.arr 1 gs true 0,.arr 1 [.imm .own 1 xs] true 0]⟩,⟨4,13,.i x0,[.arr 1 gs true 0,.arr 1 [.imm .own 1 xs] true 0]⟩,⟨4,14,.bool false,[.arr 1 gs true 0,.arr 1 [.imm .own 1 xs] true 0]⟩,⟨4,21,.ptr 0 (n - 1) 0 n,[.arr 1 gs true 0,.arr 1 [.imm .own 1 xs] true 0]⟩,⟨4,22,.i x1,[.arr 1 gs true 0,.arr 1 [.imm .own 1 xs] true 0]⟩,⟨4,24,.i ((x1:Int).tmod o),[.arr 1 gs true 0,.arr 1 [.imm .own 1 xs] true 0]⟩,⟨4,25,.bool false,[.arr 1 gs true 0,.arr 1 [.imm .own 1 xs] true 0]⟩] fun kf hk=>⟨_,by kernel_rfl,(oB [.arr 1 gs true 0,.arr 1 [.imm .own 1 xs] true 0] (decide_eq_false g0) (oP [.arr 1 gs true 0,.arr 1 [.imm .own 1 xs] true 0] g1 (oP [.arr 1 gs true 0,.arr 1 [.imm .own 1 xs] true 0] g2 (oB [.arr 1 gs true 0,.arr 1 [.imm .own 1 xs] true 0] (decide_eq_false g3) (oP [.arr 1 gs true 0,.arr 1 [.imm .own 1 xs] true 0] g4 (oP [.arr 1 gs true 0,.arr 1 [.imm .own 1 xs] true 0] g5 (oP [.arr 1 gs true 0,.arr 1 [.imm .own 1 xs] true 0] g6 (oB [.arr 1 gs true 0,.arr 1 [.imm .own 1 xs] true 0] (congrArg not (decide_eq_true g7)) .nil))))))))⟩
theorem so_f_0 (la lb:List HV) (n:Nat) (gs:List HV) (xs:List HV) (o:Int) {y9 y10 y11 y12 y13 y14 y15 y16:HV}:RT polL6 6 (sub [1,1,1,1,1,0] B6) (env6 (.imm .arg 1 la) (.imm .arg 1 lb) (.bool false) (.sl 0 0 n none n 1) (.imm .own 1 xs) (.i o) (.i 0) y9 y10 y11 y12 y13 y14 y15 y16) [.arr 1 gs true 0,.arr 1 [.imm .own 1 xs] true 0] .normal (env6 (.imm .arg 1 la) (.imm .arg 1 lb) (.bool false) (.sl 0 0 n none n 1) (.imm .own 1 xs) (.i o) (.i 0) (.sl 2 0 0 none 0 1) y10 y11 y12 y13 y14 y15 y16) [.arr 1 gs true 0,.arr 1 [.imm .own 1 xs] true 0,.arr 1 [] true 0] :=
  RunsTo.hin 0 60 [] fun kf hk=>⟨_,by kernel_rfl,.nil⟩
theorem so_g_0 (la lb:List HV) (n:Nat) (gs:List HV) (xs:List HV) (o:Int) (p:Nat) (rs:List HV) {y10 y11 y12 y13 y14 y15 y16:HV}:RT polL6 6 (sub [1,1,1,1,1,1,0] B6) (env6 (.imm .arg 1 la) (.imm .arg 1 lb) (.bool false) (.sl 0 0 n none n 1) (.imm .own 1 xs) (.i o) (.i 0) (.sl 2 0 p none p 1) y10 y11 y12 y13 y14 y15 y16) [.arr 1 gs true 0,.arr 1 [.imm .own 1 xs] true 0,.arr 1 rs true 0] .normal (env6 (.imm .arg 1 la) (.imm .arg 1 lb) (.bool false) (.sl 0 0 n none n 1) (.imm .own 1 xs) (.i o) (.i 0) (.sl 2 0 p none p 1) (.sl 3 0 0 none 0 1) y11 y12 y13 y14 y15 y16) [.arr 1 gs true 0,.arr 1 [.imm .own 1 xs] true 0,.arr 1 rs true 0,.arr 1 [] true 0] :=
  RunsTo.hin 0 60 [] fun kf hk=>⟨_,by kernel_rfl,.nil⟩
theorem so_h_0 (la lb:List HV) (n:Nat) (gs:List HV) (xs:List HV) (o:Int) (p:Nat) (rs:List HV) (q:Nat) (ns:List HV) {y11 y12 y13 y14 y15 y16:HV}:RT polL6 6 (sub [1,1,1,1,1,1,1,0,0] B6) (env6 (.imm .arg 1 la) (.imm .arg 1 lb) (.bool false) (.sl 0 0 n none n 1) (.imm .own 1 xs) (.i o) (.i 0) (.sl 2 0 p none p 1) (.sl 3 0 q none q 1) y11 y12 y13 y14 y15 y16) [.arr 1 gs true 0,.arr 1 [.imm .own 1 xs] true 0,.arr 1 rs true 0,.arr 1 ns true 0] .normal (env6 (.imm .arg 1 la) (.imm .arg 1 lb) (.bool false) (.sl 0 0 n none n 1) (.imm .own 1 xs) (.i o) (.i 0) (.sl 2 0 p none p 1) (.sl 3 0 q none q 1) (.i 0) y12 y13 y14 y15 y16) [.arr 1 gs true 0,.arr 1 [.imm .own 1 xs] true 0,.arr 1 rs true 0,.arr 1 ns true 0] :=
  RunsTo.hin 0 60 [] fun kf hk=>⟨_,by kernel_rfl,.nil⟩
theorem so_i_0 (la lb:List HV) (n:Nat) (gs:List HV) (xs:List HV) (o:Int) (p:Nat) (rs:List HV) (q:Nat) (ns:List HV) (i:Nat) {y8 y12 y13 y14 y15 y16:HV}(g0:(i:Int) < o) (g1:appV [.arr 1 gs true 0,.arr 1 [.imm .own 1 xs] true 0,.arr 1 rs true 0,.arr 1 ns true 0] 1 24 (.sl 2 0 p none p 1) [.imm .own 1 xs]=some (.sl 2 0 (p+1) none (p+1) 1,[.arr 1 gs true 0,.arr 1 [.imm .own 1 xs] true 0,.arr 1 (rs ++ [.imm .own 1 xs]) true 0,.arr 1 ns true 0])):RT polL6 6 (sub [1,1,1,1,1,1,1,0,1,0,0] B6) (env6 (.imm .arg 1 la) (.imm .arg 1 lb) (.bool false) (.sl 0 0 n none n 1) (.imm .own 1 xs) (.i o) y8 (.sl 2 0 p none p 1) (.sl 3 0 q none q 1) (.i (i:Int)) y12 y13 y14 y15 y16) [.arr 1 gs true 0,.arr 1 [.imm .own 1 xs] true 0,.arr 1 rs true 0,.arr 1 ns true 0] .normal (env6 (.imm .arg 1 la) (.imm .arg 1 lb) (.bool false) (.sl 0 0 n none n 1) (.imm .own 1 xs) (.i o) y8 (.sl 2 0 (p+1) none (p+1) 1) (.sl 3 0 q none q 1) (.i (IntKind.i64.wrap ((i:Int)+1))) y12 y13 y14 y15 y16) [.arr 1 gs true 0,.arr 1 [.imm .own 1 xs] true 0,.arr 1 (rs ++ [.imm .own 1 xs]) true 0,.arr 1 ns true 0] :=
  RunsTo.hin 0 60 [⟨9,2,.bool true,[.arr 1 gs true 0,.arr 1 [.imm .own 1 xs] true 0,.arr 1 rs true 0,.arr 1 ns true 0]⟩,⟨11,3,.sl 2 0 (p+1) none (p+1) 1,[.arr 1 gs true 0,.arr 1 [.imm .own 1 xs] true 0,.arr 1 (rs ++ [.imm .own 1 xs]) true 0,.arr 1 ns true 0]⟩] fun kf hk=>⟨_,by kernel_rfl,(oB [.arr 1 gs true 0,.arr 1 [.imm .own 1 xs] true 0,.arr 1 rs true 0,.arr 1 ns true 0] (decide_eq_true g0) (oC (g1) .nil))⟩
theorem so_i_1 (la lb:List HV) (n:Nat) (gs:List HV) (xs:List HV) (o:Int) (p:Nat) (rs:List HV) (q:Nat) (ns:List HV) (i:Nat) {y8 y12 y13 y14 y15 y16:HV}(g0:¬ ((i:Int) < o)):RT polL6 6 (sub [1,1,1,1,1,1,1,0,1,0,0] B6) (env6 (.imm .arg 1 la) (.imm .arg 1 lb) (.bool false) (.sl 0 0 n none n 1) (.imm .own 1 xs) (.i o) y8 (.sl 2 0 p none p 1) (.sl 3 0 q none q 1) (.i (i:Int)) y12 y13 y14 y15 y16) [.arr 1 gs true 0,.arr 1 [.imm .own 1 xs] true 0,.arr 1 rs true 0,.arr 1 ns true 0] (.exit 0) (env6 (.imm .arg 1 la) (.imm .arg 1 lb) (.bool false) (.sl 0 0 n none n 1) (.imm .own 1 xs) (.i o) y8 (.sl 2 0 p none p 1) (.sl 3 0 q none q 1) (.i (i:Int)) y12 y13 y14 y15 y16) [.arr 1 gs true 0,.arr 1 [.imm .own 1 xs] true 0,.arr 1 rs true 0,.arr 1 ns true 0] :=
  RunsTo.hin 0 60 [⟨9,2,.bool false,[.arr 1 gs true 0,.arr 1 [.imm .own 1 xs] true 0,.arr 1 rs true 0,.arr 1 ns true 0]⟩] fun kf hk=>⟨_,by kernel_rfl,(oB [.arr 1 gs true 0,.arr 1 [.imm .own 1 xs] true 0,.arr 1 rs true 0,.arr 1 ns true 0] (decide_eq_false g0) .nil)⟩
theorem so_j_0 (la lb:List HV) (n:Nat) (gs:List HV) (xs:List HV) (o:Int) (p:Nat) (rs:List HV) (q:Nat) (ns:List HV) {y8 y11 y12 y13 y14 y15 y16:HV}:RT polL6 6 (sub [1,1,1,1,1,1,1,1,0,0] B6) (env6 (.imm .arg 1 la) (.imm .arg 1 lb) (.bool false) (.sl 0 0 n none n 1) (.imm .own 1 xs) (.i o) y8 (.sl 2 0 p none p 1) (.sl 3 0 q none q 1) y11 y12 y13 y14 y15 y16) [.arr 1 gs true 0,.arr 1 [.imm .own 1 xs] true 0,.arr 1 rs true 0,.arr 1 ns true 0] .normal (env6 (.imm .arg 1 la) (.imm .arg 1 lb) (.bool false) (.sl 0 0 n none n 1) (.imm .own 1 xs) (.i o) y8 (.sl 2 0 p none p 1) (.sl 3 0 q none q 1) y11 (.i 0) y13 y14 y15 y16) [.arr 1 gs true 0,.arr 1 [.imm .own 1 xs] true 0,.arr 1 rs true 0,.arr 1 ns true 0] :=
  RunsTo.hin 0 60 [] fun kf hk=>⟨_,by kernel_rfl,.nil⟩
theorem so_k_0 (la lb:List HV) (n:Nat) (gs:List HV) (xs:List HV) (o:Int) (p:Nat) (rs:List HV) (q:Nat) (ns:List HV) (j:Nat) {y8 y11 y13 y14 y15 y16:HV} {x0:Int} {x1:Int} {x2:Int} (g0:(j:Int) < (n:Int)) (g1:idxV Tp 22 (.sl 0 0 n none n 1) (.i (j:Int))=some (.ptr 0 j 0 n)) (g2:loadV Tp [.arr 1 gs true 0,.arr 1 [.imm .own 1 xs] true 0,.arr 1 rs true 0,.arr 1 ns true 0] 3 (.ptr 0 j 0 n)=some (.i x0)) (g3:idxV Tp 22 (.imm .own 1 xs) (.i (j:Int))=some (.vptr (.i x1))) (g4:idxV Tp 22 (.sl 0 0 n none n 1) (.i (j:Int))=some (.ptr 0 j 0 n)) (g5:loadV Tp [.arr 1 gs true 0,.arr 1 [.imm .own 1 xs] true 0,.arr 1 rs true 0,.arr 1 ns true 0] 3 (.ptr 0 j 0 n)=some (.i x2)) (g6:binV Tp .rem 3 (.i (IntKind.i64.wrap (x0 - x1))) (.i x2)=some (.i ((IntKind.i64.wrap (x0 - x1):Int).tmod x2))) (g7:appV [.arr 1 gs true 0,.arr 1 [.imm .own 1 xs] true 0,.arr 1 rs true 0,.arr 1 ns true 0] 1 8 (.sl 3 0 q none q 1) [.i ((IntKind.i64.wrap (x0 - x1):Int).tmod x2)]=some (.sl 3 0 (q+1) none (q+1) 1,[.arr 1 gs true 0,.arr 1 [.imm .own 1 xs] true 0,.arr 1 rs true 0,.arr 1 (ns ++ [.i ((IntKind.i64.wrap (x0 - x1):Int).tmod x2)]) true 0])):RT polL6 6 (sub [1,1,1,1,1,1,1,1,0,1,0,0] B6) (env6 (.imm .arg 1 la) (.imm .arg 1 lb) (.bool false) (.sl 0 0 n none n 1) (.imm .own 1 xs) (.i o) y8 (.sl 2 0 p none p 1) (.sl 3 0 q none q 1) y11 (.i (j:Int)) y13 y14 y15 y16) [.arr 1 gs true 0,.arr 1 [.imm .own 1 xs] true 0,.arr 1 rs true 0,.arr 1 ns true 0] .normal (env6 (.imm .arg 1 la) (.imm .arg 1 lb) (.bool false) (.sl 0 0 n none n 1) (.imm .own 1 xs) (.i o) y8 (.sl 2 0 p none p 1) (.sl 3 0 (q+1) none (q+1) 1) y11 (.i (IntKind.i64.wrap ((j:Int)+1))) y13 y14 y15 y16) [.arr 1 gs true 0,.arr 1 [.imm .own 1 xs] true 0,.arr 1 rs true 0,.arr 1 (ns ++ [.i ((IntKind.i64.wrap (x0 - x1):Int).tmod x2)]) true 0] :=
  RunsTo.hin 0 60 [⟨13,3,.bool true,[.arr 1 gs true 0,.arr 1 [.imm .own 1 xs] true 0,.arr 1 rs true 0,.arr 1 ns true 0]⟩,⟨15,3,.ptr 0 j 0 n,[.arr 1 gs true 0,.arr 1 [.imm .own 1 xs] true 0,.arr 1 rs true 0,.arr 1 ns true 0]⟩,⟨15,4,.i x0,[.arr 1 gs true 0,.arr 1 [.imm .own 1 xs] true 0,.arr 1 rs true 0,.arr 1 ns true 0]⟩,⟨15,7,.vptr (.i x1),[.arr 1 gs true 0,.arr 1 [.imm .own 1 xs] true 0,.arr 1 rs true 0,.arr 1 ns true 0]⟩,⟨15,12,.ptr 0 j 0 n,[.arr 1 gs true 0,.arr 1 [.imm .own 1 xs] true 0,.arr 1 rs true 0,.arr 1 ns true 0]⟩,⟨15,13,.i x2,[.arr 1 gs true 0,.arr 1 [.imm .own 1 xs] true 0,.arr 1 rs true 0,.arr 1 ns true 0]⟩,⟨15,14,.i ((IntKind.i64.wrap (x0 - x1):Int).tmod x2),[.arr 1 gs true 0,.arr 1 [.imm .own 1 xs] true 0,.arr 1 rs true 0,.arr 1 ns true 0]⟩,⟨15,16,.sl 3 0 (q+1) none (q+1) 1,[.arr 1 gs true 0,.arr 1 [.imm .own 1 xs] true 0,.arr 1 rs true 0,.arr 1 (ns ++ [.i ((IntKind.i64.wrap (x0 - x1):Int).tmod x2)]) true 0]⟩] fun kf hk=>⟨_,by kernel_rfl,(oB [.arr 1 gs true 0,.arr 1 [.imm .own 1 xs] true 0,.arr 1 rs true 0,.arr 1 ns true 0] (decide_eq_true g0) (oP [.arr 1 gs true 0,.arr 1 [.imm .own 1 xs] true 0,.arr 1 rs true 0,.arr 1 ns true 0] g1 (oP [.arr 1 gs true 0,.arr 1 [.imm .own 1 xs] true 0,.arr 1 rs true 0,.arr 1 ns true 0] g2 (oP [.arr 1 gs true 0,.arr 1 [.imm .own 1 xs] true 0,.arr 1 rs true 0,.arr 1 ns true 0] g3 (oP [.arr 1 gs true 0,.arr 1 [.imm .own 1 xs] true 0,.arr 1 rs true 0,.arr 1 ns true 0] g4 (oP [.arr 1 gs true 0,.arr 1 [.imm .own 1 xs] true 0,.arr 1 rs true 0,.arr 1 ns true 0] g5 (oP [.arr 1 gs true 0,.arr 1 [.imm .own 1 xs] true 0,.arr 1 rs true 0,.arr 1 ns true 0] g6 (oC (g7) .nil))))))))⟩
theorem so_k_1 (la lb:List HV) (n:Nat) (gs:List HV) (xs:List HV) (o:Int) (p:Nat) (rs:List HV) (q:Nat) (ns:List HV) (j:Nat) {y8 y11 y13 y14 y15 y16:HV}(g0:¬ ((j:Int) < (n:Int))):RT polL6 6 (sub [1,1,1,1,1,1,1,1,0,1,0,0] B6) (env6 (.imm .arg 1 la) (.imm .arg 1 lb) (.bool false) (.sl 0 0 n none n 1) (.imm .own 1 xs) (.i o) y8 (.sl 2 0 p none p 1) (.sl 3 0 q none q 1) y11 (.i (j:Int)) y13 y14 y15 y16) [.arr 1 gs true 0,.arr 1 [.imm .own 1 xs] true 0,.arr 1 rs true 0,.arr 1 ns true 0] (.exit 2) (env6 (.imm .arg 1 la) (.imm .arg 1 lb) (.bool false) (.sl 0 0 n none n 1) (.imm .own 1 xs) (.i o) y8 (.sl 2 0 p none p 1) (.sl 3 0 q none q 1) y11 (.i (j:Int)) y13 y14 y15 y16) [.arr 1 gs true 0,.arr 1 [.imm .own 1 xs] true 0,.arr 1 rs true 0,.arr 1 ns true 0] :=
  RunsTo.hin 0 60 [⟨13,3,.bool false,[.arr 1 gs true 0,.arr 1 [.imm .own 1 xs] true 0,.arr 1 rs true 0,.arr 1 ns true 0]⟩] fun kf hk=>⟨_,by kernel_rfl,(oB [.arr 1 gs true 0,.arr 1 [.imm .own 1 xs] true 0,.arr 1 rs true 0,.arr 1 ns true 0] (decide_eq_false g0) .nil)⟩
theorem so_l_0 (la lb:List HV) (n:Nat) (gs:List HV) (xs:List HV) (o:Int) (p:Nat) (rs:List HV) (q:Nat) (ns:List HV) {y8 y11 y12 y13 y14 y15 y16:HV} {z:Nat} {zs:List HV} {o2:Int} (g0:∀ kf,callN Tp polL6 (kf+1) 26 [.sl 0 0 n none n 1,.sl 2 0 p none p 1] [.arr 1 gs true 0,.arr 1 [.imm .own 1 xs] true 0,.arr 1 rs true 0,.arr 1 ns true 0]=some (.tuple [.sl 4 0 z none z 1,.i 0],[.arr 1 gs true 0,.arr 1 [.imm .own 1 xs] true 0,.arr 1 rs true 0,.arr 1 ns true 0,.arr 1 zs true 0])) (g1:∀ kf,callN Tp polL6 (kf+1) 29 [.sl 0 0 n none n 1,.sl 3 0 q none q 1] [.arr 1 gs true 0,.arr 1 [.imm .own 1 xs] true 0,.arr 1 rs true 0,.arr 1 ns true 0,.arr 1 zs true 0]=some (.tuple [.i o2,.i 0],[.arr 1 gs true 0,.arr 1 [.imm .own 1 xs] true 0,.arr 1 rs true 0,.arr 1 ns true 0,.arr 1 zs true 0])) (g2:(z:Int)=o) (g3:o2=o) (g4:∀ kf,callN Tp polL6 (kf+1) 16 [] [.arr 1 gs true 0,.arr 1 [.imm .own 1 xs] true 0,.arr 1 rs true 0,.arr 1 ns true 0,.arr 1 zs true 0]=some (.bool true,[.arr 1 gs true 0,.arr 1 [.imm .own 1 xs] true 0,.arr 1 rs true 0,.arr 1 ns true 0,.arr 1 zs true 0])):RT polL6 6 (sub [1,1,1,1,1,1,1,1,1] B6) (env6 (.imm .arg 1 la) (.imm .arg 1 lb) (.bool false) (.sl 0 0 n none n 1) (.imm .own 1 xs) (.i o) y8 (.sl 2 0 p none p 1) (.sl 3 0 q none q 1) y11 y12 y13 y14 y15 y16) [.arr 1 gs true 0,.arr 1 [.imm .own 1 xs] true 0,.arr 1 rs true 0,.arr 1 ns true 0] .ret (env6 (.imm .arg 1 la) (.imm .arg 1 lb) (.bool true) (.sl 0 0 n none n 1) (.imm .own 1 xs) (.i o) y8 (.sl 2 0 p none p 1) (.sl 3 0 q none q 1) y11 y12 (.sl 4 0 z none z 1) (.i 0) (.i o2) (.i 0)) [.arr 1 gs true 0,.arr 1 [.imm .own 1 xs] true 0,.arr 1 rs true 0,.arr 1 ns true 0,.arr 1 zs true 0] :=
  RunsTo.hin 0 60 [⟨16,2,.tuple [.sl 4 0 z none z 1,.i 0],[.arr 1 gs true 0,.arr 1 [.imm .own 1 xs] true 0,.arr 1 rs true 0,.arr 1 ns true 0,.arr 1 zs true 0]⟩,⟨17,2,.tuple [.i o2,.i 0],[.arr 1 gs true 0,.arr 1 [.imm .own 1 xs] true 0,.arr 1 rs true 0,.arr 1 ns true 0,.arr 1 zs true 0]⟩,⟨18,6,.bool true,[.arr 1 gs true 0,.arr 1 [.imm .own 1 xs] true 0,.arr 1 rs true 0,.arr 1 ns true 0,.arr 1 zs true 0]⟩,⟨18,15,.bool true,[.arr 1 gs true 0,.arr 1 [.imm .own 1 xs] true 0,.arr 1 rs true 0,.arr 1 ns true 0,.arr 1 zs true 0]⟩,⟨18,18,.bool true,[.arr 1 gs true 0,.arr 1 [.imm .own 1 xs] true 0,.arr 1 rs true 0,.arr 1 ns true 0,.arr 1 zs true 0]⟩] fun kf hk=>⟨_,by kernel_rfl,(oC (g0 kf) (oC (g1 kf) (oB [.arr 1 gs true 0,.arr 1 [.imm .own 1 xs] true 0,.arr 1 rs true 0,.arr 1 ns true 0,.arr 1 zs true 0] (decide_eq_true g2) (oB [.arr 1 gs true 0,.arr 1 [.imm .own 1 xs] true 0,.arr 1 rs true 0,.arr 1 ns true 0,.arr 1 zs true 0] (decide_eq_true g3) (oC (g4 kf) .nil)))))⟩
end Go.Proofs.Ytaibmipamkaljaa
end
section
open Go Go.HL
namespace Go.Proofs.Ytaibmipamkaljaa
open Go.Proofs.Try renaming prog → Tp
open Go.HL.HV renaming undef → Ud
theorem res6:Try.f6.results.toList=[.tmp 4]:=by kernel_rfl
abbrev soH (gl r:List Int) (T:List (List Int)) (ns:List Int):Heap:=[bI gl,bO [r],bO T,bI ns]
abbrev soE (l0 l1 gl r:List Int) (o p q:Nat) (v11 v12:HV):Env:=(env6 (.imm .arg 1 (l0.map encI)) (.imm .arg 1 (l1.map encI)) (.bool false) (.sl 0 0 gl.length none gl.length 1) (.imm .own 1 (r.map encI)) (.int .i64 (o:Int)) Ud (.sl 2 0 p none p 1) (.sl 3 0 q none q 1) v11 v12 Ud Ud Ud Ud)
section
variable {l0 l1 gl r:List Int} {o:Nat}
theorem so_rep (ho:o ≤ 900):∀ k i,i+k=o →
    RT polL6 6 (sub [1,1,1,1,1,1,1,0,1,0] B6) (soE l0 l1 gl r o i 0 (.int .i64 (i:Int)) Ud) (soH gl r (List.replicate i r) []) (.exit 0) (soE l0 l1 gl r o o 0 (.int .i64 (o:Int)) Ud) (soH gl r (List.replicate o r) []):=by
  intro k
  induction k with
  | zero =>
    intro i hi
    have:i=o:=by omega
    subst this
    have s:=so_i_1 (l0.map encI) (l1.map encI) gl.length (gl.map encI) (r.map encI) i i ((List.replicate i r).map encO) 0 [] i (y8:=Ud) (y12:=Ud) (y13:=Ud) (y14:=Ud) (y15:=Ud) (y16:=Ud) (by omega)
    exact lpo (s) (c:=sub [1,1,1,1,1,1,1,0,1,0] B6)
  | succ k ih =>
    intro i hi
    have ap:=app_O (H:=soH gl r (List.replicate i r) []) (b:=2) (R:=List.replicate i r) rfl (by simp; omega) r
    rw [List.length_replicate] at ap
    have s:=so_i_0 (l0.map encI) (l1.map encI) gl.length (gl.map encI) (r.map encI) o i ((List.replicate i r).map encO) 0 [] i (y8:=Ud) (y12:=Ud) (y13:=Ud) (y14:=Ud) (y15:=Ud) (y16:=Ud) (by omega) (ap.trans (by simp only [List.map_append]; rfl))
    rw [wrap_succ (by omega)] at s
    have e:(List.replicate i r).map encO ++ [.imm .own 1 (r.map encI)]=(List.replicate (i+1) r).map encO:=by rw [List.replicate_succ',List.map_append]; rfl
    rw [e] at s
    have nx:=ih (i+1) (by omega)
    exact lop (s) (gc_eq _ rfl) (nx)
theorem so_neg {g:Gr} {e:Int} (h:GrL gl g e) (hr:rowOk gl r) (T:List (List Int)) (hT:T.length=o):∀ k j,j+k=gl.length →
    RT polL6 6 (sub [1,1,1,1,1,1,1,1,0,1,0] B6) (soE l0 l1 gl r o o (negR gl r j).length Ud (.int .i64 (j:Int))) (soH gl r T (negR gl r j)) (.exit 2) (soE l0 l1 gl r o o (negR gl r gl.length).length Ud (.int .i64 (gl.length:Int))) (soH gl r T (negR gl r gl.length)):=by
  intro k
  induction k with
  | zero =>
    intro j hj
    have:j=gl.length:=by omega
    subst this
    have s:=so_k_1 (l0.map encI) (l1.map encI) gl.length (gl.map encI) (r.map encI) o o (T.map encO) (negR gl r gl.length).length ((negR gl r gl.length).map encI) gl.length (y8:=Ud) (y11:=Ud) (y13:=Ud) (y14:=Ud) (y15:=Ud) (y16:=Ud) (by omega)
    exact lpo (s) (c:=sub [1,1,1,1,1,1,1,1,0,1,0] B6)
  | succ k ih =>
    intro j hj
    have hjl:j < gl.length:=by omega
    have hb:=h.pos.2.2.2.1 j hjl
    have hq:=hr.2 j hjl
    have hlen:(negR gl r j).length=j:=by simp [negR]
    have hl2:=h.pos.2.2.1
    have ld:=load_out (H:=soH gl r T (negR gl r j)) (k:=0) (o:=gl) rfl hjl
    have w0:IntKind.i64.wrap (gl.getD j 0 - r.getD j 0)=gl.getD j 0 - r.getD j 0:=wrap_id (by omega) (by omega)
    have t0:(gl.getD j 0 - r.getD j 0).tmod (gl.getD j 0)=(gl.getD j 0 - r.getD j 0) % gl.getD j 0:=Int.tmod_eq_emod_of_nonneg (by omega)
    have ap:=app_ints (H:=soH gl r T (negR gl r j)) (b:=3) (o:=negR gl r j) (xs:=[(gl.getD j 0 - r.getD j 0) % gl.getD j 0]) rfl (by rw [hlen]; simp only [List.length_singleton]; omega) (by simp)
    have s:=so_k_0 (l0.map encI) (l1.map encI) gl.length (gl.map encI) (r.map encI) o o (T.map encO) (negR gl r j).length ((negR gl r j).map encI) j (y8:=Ud) (y11:=Ud) (y13:=Ud) (y14:=Ud) (y15:=Ud) (y16:=Ud) (by omega) (ix22 hjl) ld (gxo (by rw [hr.1]; exact hjl)) (ix22 hjl) ld (rem3 (by omega)) (by rw [w0,t0]; exact ap.trans (by rw [List.length_append,List.length_singleton]; simp only [bI,List.map_append]; rfl))
    rw [wrap_succ (by omega),w0,t0] at s
    have e:(negR gl r j).map encI ++ [.int .i64 ((gl.getD j 0 - r.getD j 0) % gl.getD j 0)]=(negR gl r (j+1)).map encI:=by
      simp only [negR,List.range_succ,List.map_append,List.map_cons,List.map_nil,encI]
    rw [e,show (negR gl r j).length+1=(negR gl r (j+1)).length by simp [negR]] at s
    have nx:=ih (j+1) (by omega)
    exact lop (s) (gc_eq _ rfl) (nx)
end
theorem sumsOrders_law (l0 l1:List Int):∃ E H,RT polL6 6 B6 (args0 [.imm .arg 1 (l0.map encI),.imm .arg 1 (l1.map encI)]) [] .ret E H∧E.get 4=.bool true:=by
  obtain ⟨g,e,hG⟩:=grp_L l0
  have c23:=group_at (pol':=polL6) (by kernel_rfl) l0 []
  have hrow:=row_ok hG l1
  obtain ⟨hp1,hp2,hp3,hp4,hp5,hp6,hp7⟩:=hG.pos
  have a:=so_a_0 (l0.map encI) (l1.map encI)
  have b:=so_b_0 (l0.map encI) (l1.map encI) (y5:=Ud) (y6:=Ud) (y7:=Ud) (y8:=Ud) (y9:=Ud) (y10:=Ud) (y11:=Ud) (y12:=Ud) (y13:=Ud) (y14:=Ud) (y15:=Ud) (y16:=Ud) c23
  have c24:=elements24_at (pol':=polL6) (by kernel_rfl) (gl:=grpT l0) (R:=[l1]) (v1:=.sl 0 0 (grpT l0).length none (grpT l0).length 1) (v2:=.imm .lit 1 [.imm .arg 1 (l1.map encI)]) (c:=1) (H:=[bI (grpT l0)]) (arg_sl rfl rfl) (by
    show argP (.imm .lit 1 [.imm .arg 1 (l1.map encI)])=_
    simp only [argP,argPL,argP_ints']; rfl) ⟨hp1,by omega,by simp,by omega⟩
  have hre:rowsE (grpT l0) [l1] 1=[rowE (grpT l0) l1]:=rfl
  rw [hre] at c24
  have c:=so_c_0 (l0.map encI) (l1.map encI) (grpT l0).length ((grpT l0).map encI) (y6:=Ud) (y7:=Ud) (y8:=Ud) (y9:=Ud) (y10:=Ud) (y11:=Ud) (y12:=Ud) (y13:=Ud) (y14:=Ud) (y15:=Ud) (y16:=Ud) c24
  generalize hgl:grpT l0=gl at *
  generalize hrr:rowE gl l1=r at *
  obtain ⟨o,ho,hoe,hdv,hot⟩:=hG.order hrow
  have ho1:=ho.1
  have c29:=order_at (pol':=polL6) (by kernel_rfl) (l:=gl) (lx:=r) (v1:=.sl 0 0 gl.length none gl.length 1) (v2:=.imm .own 1 (r.map encI)) (H:=[bI gl,bO [r]]) (arg_sl rfl rfl) (argI_own _ r) hot
  have d:=so_d_0 (l0.map encI) (l1.map encI) gl.length (gl.map encI) (r.map encI) (y7:=Ud) (y8:=Ud) (y9:=Ud) (y10:=Ud) (y11:=Ud) (y12:=Ud) (y13:=Ud) (y14:=Ud) (y15:=Ud) (y16:=Ud) c29
  have wl:IntKind.i64.wrap ((gl.length:Int) - 1)=((gl.length - 1:Nat):Int):=wrap_pred (by omega) (by omega)
  have ixl:idxV Tp 22 (.sl 0 0 gl.length none gl.length 1) (.int .i64 (IntKind.i64.wrap ((gl.length:Int) - 1)))=some (.ptr 0 (gl.length - 1) 0 gl.length):=by rw [wl]; exact ix22 (by omega)
  have ldl:loadV Tp [bI gl,bO [r]] 3 (.ptr 0 (gl.length - 1) 0 gl.length)=some (.int .i64 e):=by
    have:=load_out (H:=[bI gl,bO [r]]) (k:=0) (o:=gl) rfl (y:=gl.length - 1) (by omega)
    rwa [hp5] at this
  have tm:e.tmod (o:Int)=0:=by rw [Int.tmod_eq_emod_of_nonneg (by omega)]; exact hdv
  have e1:=so_e_2 (l0.map encI) (l1.map encI) gl.length (gl.map encI) (r.map encI) (o:Int) (y9:=Ud) (y10:=Ud) (y11:=Ud) (y12:=Ud) (y13:=Ud) (y14:=Ud) (y15:=Ud) (y16:=Ud) (by omega) ixl ldl (by omega) ixl ldl (rem3 (by omega)) tm
  have f:=so_f_0 (l0.map encI) (l1.map encI) gl.length (gl.map encI) (r.map encI) (o:Int) (y9:=Ud) (y10:=Ud) (y11:=Ud) (y12:=Ud) (y13:=Ud) (y14:=Ud) (y15:=Ud) (y16:=Ud)
  have gq:=so_g_0 (l0.map encI) (l1.map encI) gl.length (gl.map encI) (r.map encI) (o:Int) 0 [] (y10:=Ud) (y11:=Ud) (y12:=Ud) (y13:=Ud) (y14:=Ud) (y15:=Ud) (y16:=Ud)
  have h:=so_h_0 (l0.map encI) (l1.map encI) gl.length (gl.map encI) (r.map encI) (o:Int) 0 [] 0 [] (y11:=Ud) (y12:=Ud) (y13:=Ud) (y14:=Ud) (y15:=Ud) (y16:=Ud)
  have rp:=so_rep (l0:=l0) (l1:=l1) (gl:=gl) (r:=r) (o:=o) (by omega) o 0 (by omega)
  have rp':=lpi (e0:=(env6 (.imm .arg 1 (l0.map encI)) (.imm .arg 1 (l1.map encI)) (.bool false) (.sl 0 0 gl.length none gl.length 1) (.imm .own 1 (r.map encI)) (.int .i64 (o:Int)) (.int .i64 0) (.sl 2 0 0 none 0 1) (.sl 3 0 0 none 0 1) (.int .i64 0) Ud Ud Ud Ud Ud)) rp (b:=sub [1,1,1,1,1,1,1,0,1,0,0] B6)
  have j:=so_j_0 (l0.map encI) (l1.map encI) gl.length (gl.map encI) (r.map encI) (o:Int) o ((List.replicate o r).map encO) 0 [] (y8:=Ud) (y11:=.int .i64 (o:Int)) (y12:=Ud) (y13:=Ud) (y14:=Ud) (y15:=Ud) (y16:=Ud)
  have ng:=so_neg (l0:=l0) (l1:=l1) (o:=o) hG hrow (List.replicate o r) (by simp) gl.length 0 (by omega)
  have ng':=lpi (e0:=(env6 (.imm .arg 1 (l0.map encI)) (.imm .arg 1 (l1.map encI)) (.bool false) (.sl 0 0 gl.length none gl.length 1) (.imm .own 1 (r.map encI)) (.int .i64 (o:Int)) Ud (.sl 2 0 o none o 1) (.sl 3 0 0 none 0 1) (.int .i64 (o:Int)) (.int .i64 0) Ud Ud Ud Ud)) ng (b:=sub [1,1,1,1,1,1,1,1,0,1,0,0] B6)
  -- the last questions
  obtain ⟨p,hz1,hz2⟩:=hG.zero hrow ho (by omega)
  have c26:=zero_at (pol':=polL6) (by kernel_rfl) (l:=gl) (R:=List.replicate o r) (v1:=.sl 0 0 gl.length none gl.length 1) (v2:=.sl 2 0 o none o 1) (H:=soH gl r (List.replicate o r) (negR gl r gl.length)) (arg_sl rfl rfl) (arg_rs (by simp) rfl) (by simp; omega)
  rw [hz1] at c26
  obtain ⟨o2,ho2,_,_,hot2⟩:=hG.order (neg_ok hG r)
  have hoo:o2=o:=by
    have iff:∀ k,zeroAt g (elOf (negR gl r gl.length)) k ↔ zeroAt g (elOf r) k:=by
      intro k
      rw [neg_at hG k]
      constructor
      · rintro (h | ⟨h1,h2⟩)
        · exact h
        · exact ⟨h2,by rw [h1]; omega⟩
      · exact .inl
    have q1:¬ o2 < o:=fun hlt=>ho.2.2 o2 ho2.1 hlt ((iff o2).1 ho2.2.1)
    have q2:¬ o < o2:=fun hlt=>ho2.2.2 o ho.1 hlt ((iff o).2 ho.2.1)
    omega
  rw [hoo] at hot2
  have c29b:=order_at (pol':=polL6) (by kernel_rfl) (l:=gl) (lx:=negR gl r gl.length) (v1:=.sl 0 0 gl.length none gl.length 1) (v2:=.sl 3 0 (negR gl r gl.length).length none (negR gl r gl.length).length 1) (H:=soH gl r (List.replicate o r) (negR gl r gl.length) ++ [bI p]) (arg_sl rfl rfl) (arg_sl rfl rfl) hot2
  have c16:=awake_at (pol':=polL6) (by kernel_rfl) (soH gl r (List.replicate o r) (negR gl r gl.length) ++ [bI p])
  have z:=so_l_0 (l0.map encI) (l1.map encI) gl.length (gl.map encI) (r.map encI) (o:Int) o ((List.replicate o r).map encO) (negR gl r gl.length).length ((negR gl r gl.length).map encI) (y8:=Ud) (y11:=Ud) (y12:=.int .i64 (gl.length:Int)) (y13:=Ud) (y14:=Ud) (y15:=Ud) (y16:=Ud) c26 c29b (by rw [hz2]) rfl c16
  have u:=sq (a) (sq (b) (sq (c) (sq (d) (sq (e1) (sq (f) (sq (gq) (sq (sq (h) (bke (c:=sub [1,1,1,1,1,1,1,0,1] B6) (rp')) (c:=sub [1,1,1,1,1,1,1,0] B6)) (sq (sq (j) (bke (c:=sub [1,1,1,1,1,1,1,1,0,1] B6) (ng')) (c:=sub [1,1,1,1,1,1,1,1,0] B6)) (z) (c:=sub [1,1,1,1,1,1,1,1] B6)) (c:=sub [1,1,1,1,1,1,1] B6)) (c:=sub [1,1,1,1,1,1] B6)) (c:=sub [1,1,1,1,1] B6)) (c:=sub [1,1,1,1] B6)) (c:=sub [1,1,1] B6)) (c:=sub [1,1] B6)) (c:=sub [1] B6)) (c:=B6)
  exact ⟨_,_,u,rfl⟩
end Go.Proofs.Ytaibmipamkaljaa
end
section
namespace Go.HL
open Go.ChangeShapes Go.WideShapes Go.ChangeAt Go.RowKit Go.Deep
theorem okNil (w:World) (r:Nat):okOf Ctx.nil w.heap.size false r:=by
  refine ⟨fun hM=>?_,by simp⟩
  obtain ⟨b,y,h1,_,_⟩:=M_iff.1 hM
  simp [Ctx.nil] at h1
theorem cell_lt {w:World} {a:Addr} {v:Value} (h:w.cell? a=some v):a.block < w.heap.size:=by
  rcases Nat.lt_or_ge a.block w.heap.size with hl | hl
  · exact hl
  · have:w.heap[a.block]?=none:=by simp [hl]
    simp [World.cell?,this] at h
end Go.HL
end
section
namespace Go.HL
open Go.ChangeShapes Go.WideShapes Go.ChangeAt Go.RowKit Go.Deep
theorem arg_ints_ok {H:Type} {enc:TypeId × Value → H} {P:Program} {W:World} {base:Nat} {t q:TypeId} {v:Value} {d:DataW H} {ps:List MemPlace} (ht:P.underlying t=some (.slice q)) (hq:P.underlying q=some (.int .i64)) (cq:P.cellsOf q=1)
    (hval:Value.okWide P W .any base t v) (hd:DataW.Trod enc P W 0 (fun _=>true) true t v d ps):∃ l:List Int,V W (okOf Ctx.nil W.heap.size) Ctx.nil (.imm .arg 1 (l.map encI)) v:=by
  obtain ⟨a,len,cap,rfl⟩:=okWide_slice ht hval
  obtain ⟨fuel,hf⟩:=hd
  rcases open_slice ht hf with ⟨h0,_⟩ | ⟨a',len',cap',m,n,D,Pl,h0,hb,hl,hm,hmm,hx,hel⟩
  · simp [Value.cells] at h0
    obtain ⟨rfl,rfl,rfl⟩:=h0
    exact ⟨[],.imm .arg 1 [] none 0 (fun _=>.bool false) (by simp) (by simp) (by simp) (by simp) (by simp) (by simp)⟩
  · simp [Value.cells] at h0
    obtain ⟨rfl,rfl,rfl⟩:=h0
    have hlm:len ≤ m:=by rw [hmm]; split <;> omega
    have each:∀ i,i < len → ∃ z:Int,W.cell? (a'.add i)=some (.int .i64 z):=by
      intro i hi
      obtain ⟨cs',h1,h2⟩:=hel i (by omega)
      rw [cq] at h1
      obtain ⟨_,hlen,hcell⟩:=World.cells?_some h1
      match cs',hlen with
      | [v0],_ =>
        obtain ⟨z0,e0,_,_⟩:=DataW.trod_int hq h2
        simp at e0
        subst e0
        have c0:=hcell 0 (by omega)
        rw [add_add] at c0
        exact ⟨z0,by simpa using c0⟩
    obtain ⟨f,hf⟩:=choose_lt each
    refine ⟨(List.range len).map f,?_⟩
    have hlen:(((List.range len).map f).map encI).length=len:=by simp
    have key:=V.imm (w:=W) (ok:=okOf Ctx.nil W.heap.size) (c:=Ctx.nil) .arg 1 (((List.range len).map f).map encI) (some a') cap (fun j=>.int .i64 (f j))
      (by rw [hlen]; exact hl) (by simp) ?_ ?_ ?_ ?_
    · rw [hlen] at key; exact key
    · intro hne
      have h0:0 < len:=by
        rcases Nat.eq_zero_or_pos len with h | h
        · subst h; simp at hne
        · exact h
      obtain ⟨b,off,spot⟩:=a'
      have hspot:spot=none:=by simpa [Addr.add] using World.cell?_spot (hf 0 h0)
      subst hspot
      refine ⟨b,off,rfl,by simpa [Addr.add] using cell_lt (hf 0 h0),okNil W b,fun j hj=>?_⟩
      rw [hlen] at hj
      have c0:=hf j (by omega)
      rw [add_plain] at c0
      exact c0
    · intro v hv
      obtain ⟨p,_,rfl⟩:=List.mem_map.1 hv
      rfl
    · intro v hv
      obtain ⟨p,_,rfl⟩:=List.mem_map.1 hv
      rfl
    · intro i v j x hi hj
      have hil:i < len:=by have:=lt_of_get hi; rw [hlen] at this; exact this
      have:v=encI (f i):=by
        rw [List.getElem?_map,List.getElem?_map,List.getElem?_range hil] at hi
        simpa using hi.symm
      subst this
      have hjx:j < 1:=lt_of_get hj
      match j,hjx,hj with
      | 0,_,hj =>
        simp [encI,cellsOf] at hj
        subst hj
        have e1:i * 1+0=i:=by omega
        rw [e1]
        exact V.int _ _
end Go.HL
end
