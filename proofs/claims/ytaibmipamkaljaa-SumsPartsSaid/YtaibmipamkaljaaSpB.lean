/- A part of the proof. -/
import Derived.Test.YtaibmipamkaljaaSpA
set_option linter.unusedVariables false
set_option linter.unusedSimpArgs false
set_option linter.unnecessarySimpa false
section
open Go Go.HL
namespace Go.Proofs.Ytaibmipamkaljaa
open Go.Proofs.Try renaming prog → Tp
open Go.HL.HV renaming undef → Ud
theorem res57:Try.f57.results.toList=[.tmp 8,.tmp 9]:=by kernel_rfl
abbrev shH (g:Gr) (l:List El) (t:El):Heap:=[bGr g,bX [t],.arr 1 ((rchT g l).map encM) true 0]
abbrev shE (g:Gr) (l:List El) (t:El) (k:Nat) (j:Nat):Env:=(env57 (encG g) (.imm .arg 2 (l.map encX)) (encX t) (.int .i64 (k:Int)) (.ptr 0 0 0 1) (.ptr 1 0 0 1) (.imm .lit 1 []) (.int .i64 0) (.sl 2 0 (l.length+1) none (l.length+1) 1) (.int .i64 (j:Int)) Ud)
theorem head_get (g:Gr) (l:List El):((rchT g l).map encM)[0]?=some (encM ((rchT g l).headD [])):=by cases l <;> rfl
theorem sh_loop {g:Gr} (hg:grOk g) {l:List El} (hl:allEl g l=true) (hll:l.length ≤ 1000) (t:El) (k:Nat):∀ f j:Nat,j ≤ 2000 → f=l.length+1 - j →
    ∃ x E H',RT polH 57 (sub [1,1,0,1,0] B57) (shE g l t k j) (shH g l t) x E H' ∧
      ((∃ p,shT g l t f j=some p∧x=.ret∧E.get 8=.sl 4 0 p.length none p.length 1∧E.get 9=.int .i64 0∧H'[4]?=some (bI p)) ∨ (∃ j',shT g l t f j=none∧x=.exit 0∧E=shE g l t k j'∧H'=shH g l t)):=by
  intro f
  induction f with
  | zero =>
    intro j hj hf
    have s:=sh_d_2 g.1 g.2.1 g.2.2 (l.map encX) t.1 t.2 k (l.length+1) j 0 0 [] [] (shH g l t) (y12:=Ud) (by rw [List.length_map]; omega)
    exact ⟨_,_,_,lpo (s) (c:=sub [1,1,0,1,0] B57),.inr ⟨j,rfl,rfl,rfl,rfl⟩⟩
  | succ f ih =>
    intro j hj hf
    have nv:newV (.agg [.int .i64 0,.int .i64 0,.int .i64 0]) (shH g l t)=(.ptr 3 0 0 1,shH g l t ++ [.arr 3 [.agg [.int .i64 0,.int .i64 0,.int .i64 0]] true 0]):=rfl
    have st:=st_box (shH g l t) ((j:Int),t)
    have st':storeV Tp (shH g l t ++ [.arr 3 [.agg [.int .i64 0,.int .i64 0,.int .i64 0]] true 0]) 72 (.ptr 3 0 0 1) (encW ((j:Int),t))=some (shH g l t ++ [bW ((j:Int),t)]):=st
    have ix:=idx_sl (P:=Tp) (t:=69) (b:=2) (len:=l.length+1) (tot:=l.length+1) (cap:=none) (ik:=.i64) (n:=0) u69 z91 (by omega) (by omega)
    have ldm:loadV Tp (shH g l t ++ [bW ((j:Int),t)]) 91 (.ptr 2 0 0 (l.length+1))=some (encM ((rchT g l).headD [])):=load_elem (b:=2) (i:=0) (els:=(rchT g l).map encM) rfl (by rw [List.length_map,rch_len]) (head_get g l) rfl a91 i91
    have lk:=look_k keyW ((rchT g l).headD []) ((j:Int),t)
    have gt:loadV Tp (shH g l t) 64 (.ptr 1 0 0 1)=some (encX t):=load_agg (b:=1) rfl rfl rfl a64 z64
    have gw:loadV Tp (shH g l t ++ [bW ((j:Int),t)]) 72 (.ptr 3 0 0 1)=some (encW ((j:Int),t)):=g72 rfl
    have gg:loadV Tp (shH g l t ++ [bW ((j:Int),t)]) 66 (.ptr 0 0 0 1)=some (encG g):=load_agg (b:=0) rfl rfl rfl a66 z66
    by_cases c:((j:Int),t) ∈ (rchT g l).headD []
    · simp only [c,decide_true] at lk
      have pa:=part_at (pol':=polH) (by kernel_rfl) hg hl hll c (H:=shH g l t ++ [bW ((j:Int),t)]) (b:=2) (mx:=0) rfl
      have s:=sh_d_0 g.1 g.2.1 g.2.2 (l.map encX) t.1 t.2 k (l.length+1) j (partI g l ((j:Int),t)).length 3 _ _ (shH g l t) (y12:=Ud) (by rw [List.length_map]; omega) gt (congrArg some nv) st' ix ldm gw lk gg gw pa
      exact ⟨_,_,_,lpo (s) (c:=sub [1,1,0,1,0] B57),.inl ⟨_,by rw [shT,if_pos c],rfl,rfl,rfl,rfl⟩⟩
    · simp only [c,decide_false] at lk
      have s:=sh_d_1 g.1 g.2.1 g.2.2 (l.map encX) t.1 t.2 k (l.length+1) j 0 3 _ _ (shH g l t) (y12:=Ud) (by rw [List.length_map]; omega) gt (congrArg some nv) st' ix ldm gw lk
      rw [wrap_succ (by omega)] at s
      obtain ⟨x,E,H',h1,h2⟩:=ih (j+1) (by omega) (by omega)
      have hgc:gc (shH g l t).length (bndE (shE g l t k (j+1))) (shH g l t ++ [bW ((j:Int),t)])=shH g l t:=by
        unfold gc
        have h1:bndE (shE g l t k (j+1)) ≤ 3:=by simp only [bndE,bnd,encG,encX,bndL]; decide
        have h2:mxs (shH g l t ++ [bW ((j:Int),t)])=0:=rfl
        have h3:max (shH g l t).length (max (bndE (shE g l t k (j+1))) (mxs (shH g l t ++ [bW ((j:Int),t)])))=3:=by
          rw [h2]; have:(shH g l t).length=3:=rfl
          omega
        rw [h3]; rfl
      refine ⟨x,E,H',lop (s) hgc (h1),?_⟩
      rw [shT,if_neg c]
      exact h2
theorem short_ok:PrimOk Tp 57 short57:=by
  refine primOk_pure (pol:=polH) (fn:=Try.f57) (cd:=B57) follows_mixed soundH (by kernel_rfl) (by kernel_rfl) (fnok polH.prim _ _ (by kernel_rfl)) (by kernel_rfl) ?_
  intro args res h
  obtain ⟨g,l,t,k,rfl,⟨hg,hl,hll⟩,hk,rfl⟩:=short_inv h
  have a:=sh_a_0 g.1 g.2.1 g.2.2 (l.map encX) t.1 t.2 k
  have ra:=reached_at (pol':=polH) (by kernel_rfl) hg hl hll [bGr g,bX [t]]
  have b:=sh_b_0 g.1 g.2.1 g.2.2 (l.map encX) t.1 t.2 k (l.length+1) ((rchT g l).map encM) (y10:=Ud) (y11:=Ud) (y12:=Ud) ra
  have c:=sh_c_0 g.1 g.2.1 g.2.2 (l.map encX) t.1 t.2 k (l.length+1) (shH g l t) (y11:=Ud) (y12:=Ud)
  obtain ⟨x,E,H',lp,h2⟩:=sh_loop hg hl hll t k (l.length+1 - k) k (by omega) rfl
  rcases h2 with ⟨p,h3,rfl,h4,h5,h6⟩ | ⟨j',h3,rfl,rfl,rfl⟩
  · have u:=sq (a) (sq (b) (sqo (sq (c) (RunsTo.block_ret (i:=0) (c:=sub [1,1,0,1] B57) (lp) (by kernel_rfl)) (c:=sub [1,1,0] B57)) (c:=sub [1,1] B57) (b:=sub [1,1,1] B57)) (c:=sub [1] B57)) (c:=B57)
    refine ⟨_,_,_,.tuple [.sl 4 0 p.length none p.length 1,.int .i64 0],u,by simp,by simp only [resultsV,res57,mapO,resultV,h4,h5],?_⟩
    rw [h3]
    exact toRes_li1 h6 rfl 0
  · have z:=sh_e_0 g.1 g.2.1 g.2.2 (l.map encX) t.1 t.2 k (l.length+1) j' (shH g l t) (y12:=Ud)
    have u:=sq (a) (sq (b) (sq (sq (c) (bke (c:=sub [1,1,0,1] B57) (lp)) (c:=sub [1,1,0] B57)) (z) (c:=sub [1,1] B57)) (c:=sub [1] B57)) (c:=B57)
    refine ⟨_,_,_,.tuple [.imm .lit 1 [],.int .i64 6],u,by simp,by simp only [resultsV,res57]; rfl,?_⟩
    rw [h3]; rfl
end Go.Proofs.Ytaibmipamkaljaa
end
section
open Go Go.HL
namespace Go.Proofs.Ytaibmipamkaljaa
def modX (n:Int) (x:Int):El:=(x % n,0)
def gN (n:Int):Gr:=(n,1,1)
end Go.Proofs.Ytaibmipamkaljaa
end
section
open Go Go.HL
namespace Go.Proofs.Ytaibmipamkaljaa
open Go.Proofs.Try renaming prog → Tp
open Go.HL.HV renaming undef → Ud
def polZ:Pol:={ pol with prim:=fun g=>if g == 55 then some newGroup55 else if g == 56 then some elements56 else if g == 57 then some short57 else if g == 58 then some element58 else if g == 59 then some add59 else none }
theorem soundZ (n:Nat):CallSound Tp (callN Tp polZ n):=sound_prim _ (fun g f h=>by
  split at h
  · rename_i hg; cases h; rw [eq_of_beq hg]; exact newGroup_ok
  split at h
  · rename_i hg; cases h; rw [eq_of_beq hg]; exact elements_ok
  split at h
  · rename_i hg; cases h; rw [eq_of_beq hg]; exact short_ok
  split at h
  · rename_i hg; cases h; rw [eq_of_beq hg]; exact element_ok
  split at h
  · rename_i hg; cases h; rw [eq_of_beq hg]; exact add_ok
  · cases h) n
theorem recv_X (l:List El) (t:Bool) (H:Heap):recv (.tuple [.own 2 (l.map encX),.bool t]) H=(.tuple [.sl H.length 0 l.length none l.length 2,.bool t],H ++ [bX l]):=by
  have h:recvCell (.own 2 (l.map encX)) H=(.sl H.length 0 l.length none l.length 2,H ++ [bX l]):=by
    simp only [recvCell,encX_any,List.length_map]; rfl
  simp only [recv,recvVals,recvVal,h]; rfl
theorem newGroup_at {pol':Pol} (hp:pol'.prim 55=some newGroup55) (l:List Int) (H:Heap):∀ k,callN Tp pol' (k+1) 55 [.imm .arg 1 (l.map encI)] H=some (.tuple [encG (newGroupT l).1,.bool (newGroupT l).2],H):=fun k=>by
  have hX:=arg_li H l
  have hd:mapO decI (l.map encI)=some l:=mapO_map decI_enc l
  rw [prim_call (pol:=pol') (g:=55) (F:=newGroup55) hp (rs:=[.imm .arg 1 (l.map encI)]) (by simp only [mapO,hX]) (res:=.tuple [encG (newGroupT l).1,.bool (newGroupT l).2]) (by simp only [newGroup55,liF,hd])]
  rfl
theorem elements_at {g:Gr} {pol':Pol} (hp:pol'.prim 56=some elements56) (hg:grOk g) (hr:g.2.2=1 ∨ g.2.2=2) {R:List (List Int)} (hR:R.length ≤ 1000) (H:Heap):∀ k,callN Tp pol' (k+1) 56 [encG g,.imm .arg 1 (R.map encR)] H =
    some (.tuple [.sl H.length 0 ((elemsT g R).getD []).length none ((elemsT g R).getD []).length 2,.bool (elemsT g R).isSome],H ++ [bX ((elemsT g R).getD [])]):=fun k=>by
  have hG:toArg H 6 (encG g)=some (encG g):=rfl
  have hX:=arg_rw H R
  have hd:mapO decR (R.map encR)=some R:=mapO_map decR_enc R
  rw [prim_call (pol:=pol') (g:=56) (F:=elements56) hp (rs:=[encG g,.imm .arg 1 (R.map encR)]) (by simp only [mapO,hG,hX]) (res:=.tuple [.own 2 (((elemsT g R).getD []).map encX),.bool (elemsT g R).isSome]) (by
    simp only [elements56,decG_enc,hd]
    rw [if_pos ⟨hg,hr,hR⟩]
    cases elemsT g R <;> rfl),recv_X]
theorem recv_li1 (l:List Int) (x:Int) (H:Heap):recv (.tuple [.own 1 (l.map encI),.int .i64 x]) H=(.tuple [.sl H.length 0 l.length none l.length 1,.int .i64 x],H ++ [bI l]):=by
  have h:recvCell (.own 1 (l.map encI)) H=(.sl H.length 0 l.length none l.length 1,H ++ [bI l]):=by
    simp only [recvCell,encI_any,List.length_map]; rfl
  simp only [recv,recvVals,recvVal,h]; rfl
def shP (r:Option (List Int)):List Int × Int:=match r with | some p=>(p,0) | none=>([],6)
theorem shR_eq (r:Option (List Int)):shR r=.tuple [.own 1 ((shP r).1.map encI),.int .i64 (shP r).2]:=by cases r <;> rfl
theorem short_at {g:Gr} {l:List El} {t:El} {pol':Pol} (hp:pol'.prim 57=some short57) (hg:grOk g) (hl:allEl g l=true) (hll:l.length ≤ 1000) {k:Nat} (hk:k ≤ 1001) {H:Heap} {b:Nat} (hb:H[b]?=some (bX l)) :
    ∀ kf,callN Tp pol' (kf+1) 57 [encG g,.sl b 0 l.length none l.length 2,encX t,.int .i64 (k:Int)] H =
      some (.tuple [.sl H.length 0 (shP (shT g l t (l.length+1 - k) k)).1.length none (shP (shT g l t (l.length+1 - k) k)).1.length 1,.int .i64 (shP (shT g l t (l.length+1 - k) k)).2],H ++ [bI (shP (shT g l t (l.length+1 - k) k)).1]):=fun kf=>by
  have hG:toArg H 6 (encG g)=some (encG g):=rfl
  have hT:toArg H 6 (encX t)=some (encX t):=rfl
  have hN:toArg H 6 (.int .i64 (k:Int))=some (.int .i64 (k:Int)):=rfl
  have hX:=arg_Xs (cap:=none) rfl hb
  have hd:mapO decX (l.map encX)=some l:=mapO_map decX_enc l
  rw [prim_call (pol:=pol') (g:=57) (F:=short57) hp (rs:=[encG g,.imm .arg 2 (l.map encX),encX t,.int .i64 (k:Int)]) (by simp only [mapO,hG,hX,hT,hN]) (res:=shR (shT g l t (l.length+1 - k) k)) (by
    simp only [short57,decG_enc,hd,decX_enc]
    rw [if_pos ⟨⟨hg,hl,hll⟩,by omega,by omega⟩,Int.toNat_natCast]),shR_eq,recv_li1]
theorem newGroup_gr {l:List Int} (h:(newGroupT l).2=true):grOk (newGroupT l).1∧((newGroupT l).1.2.2=1 ∨ (newGroupT l).1.2.2=2):=by
  match l with
  | []=>simp [newGroupT] at h
  | [a] =>
    simp only [newGroupT] at h ⊢
    split
    · rename_i c
      have:=of_decide_eq_true c
      exact ⟨⟨⟨by show 1 ≤ a; omega,by show a ≤ 1000; omega⟩,by show (1:Int) ≤ 1; omega,by show (1:Int) ≤ 1000; omega⟩,.inl rfl⟩
    · rename_i c; rw [if_neg c] at h; cases h
  | [a,b] =>
    simp only [newGroupT] at h ⊢
    split
    · rename_i c
      rw [Bool.and_eq_true] at c
      have h1:=of_decide_eq_true c.1
      have h2:=of_decide_eq_true c.2
      exact ⟨⟨⟨by show 1 ≤ a; omega,by show a ≤ 1000; omega⟩,by show 1 ≤ b; omega,by show b ≤ 1000; omega⟩,.inr rfl⟩
    · rename_i c; rw [if_neg c] at h; cases h
  | a :: b :: c :: l=>simp [newGroupT] at h
theorem element_el {g:Gr} (hg:grOk g) {l:List Int} (h:(elementT g l).2=true):elOk g (elementT g l).1:=by
  match l with
  | []=>simp [elementT] at h
  | [a] =>
    simp only [elementT] at h ⊢
    split
    · rename_i c
      have:=of_decide_eq_true c.2
      exact ⟨⟨this.1,by show a < g.1; omega⟩,Int.le_refl _,by show (0:Int) < g.2.1; have:=hg.2; omega⟩
    · rename_i c; rw [if_neg c] at h; cases h
  | [a,b] =>
    simp only [elementT] at h ⊢
    split
    · rename_i c
      rw [if_pos c] at h
      have h1:=of_decide_eq_true c.2
      split
      · rename_i d
        have h2:=of_decide_eq_true d
        exact ⟨⟨h1.1,by show a < g.1; omega⟩,h2.1,by show b < g.2.1; omega⟩
      · rename_i d; rw [if_neg d] at h; cases h
    · rename_i c; rw [if_neg c] at h; cases h
  | a :: b :: c :: l=>simp [elementT] at h
theorem elems_el {g:Gr} (hg:grOk g) {R:List (List Int)} {l:List El} (h:elemsT g R=some l):allEl g l=true∧l.length=R.length∧R.length ≤ 60:=by
  unfold elemsT at h
  split at h
  · rename_i c
    cases h
    refine ⟨?_,by simp,c.1⟩
    rw [allEl_iff]
    intro x hx
    obtain ⟨r,hr,rfl⟩:=List.mem_map.1 hx
    exact element_el hg (List.all_eq_true.1 c.2 r hr)
  · cases h
def zeroT (l:List Int) (R:List (List Int)):List Int × Int :=
  if (newGroupT l).2=true then (match elemsT (newGroupT l).1 R with | some els=>shP (shT (newGroupT l).1 els (0,0) els.length 1) | none=>([],2)) else ([],2)
def zero26:List HV → Option HV
  | [.imm .arg 1 la,.imm .arg 1 rw]=>(match mapO decI la,mapO decR rw with | some l,some R=>if R.length ≤ 1000 then some (.tuple [.own 1 ((zeroT l R).1.map encI),.int .i64 (zeroT l R).2]) else none | _,_=>none)
  | _=>none
theorem zero_inv {args:List HV} {res:HV} (h:zero26 args=some res):∃ l R,args=[.imm .arg 1 (l.map encI),.imm .arg 1 (R.map encR)]∧R.length ≤ 1000∧res=.tuple [.own 1 ((zeroT l R).1.map encI),.int .i64 (zeroT l R).2]:=by
  unfold zero26 at h
  split at h
  · rename_i la rw_
    split at h
    · rename_i l R hl hR
      split at h
      · rename_i hk
        cases h
        exact ⟨l,R,by rw [mapO_inv decI_inv hl,mapO_inv decR_inv hR],hk,rfl⟩
      · cases h
    · cases h
  · cases h
end Go.Proofs.Ytaibmipamkaljaa
end
section
open Go Go.HL
namespace Go.Proofs.Ytaibmipamkaljaa
set_option maxRecDepth 100000
open Go.Proofs.Try renaming prog → Tp
open Go.HL.HV renaming undef → Ud
noncomputable def B26:Code:=Try.f26.body.getD .skip
abbrev env26 (v0 v1 v4 v5 v6 v7 v8:HV):Env:=[(0,v0),(1,v1),(4,v4),(5,v5),(6,v6),(7,v7),(8,v8)]
theorem ze_0 (l rw:List HV) (m0:Int) (m1:Int) (sz:Int) (q:Nat) (es:List HV) (pn:Nat) (er:Int) (ps:List HV) (g0:∀ kf,callN Tp polZ (kf+1) 55 [.imm .arg 1 l] []=some (.tuple [.agg [.i m0,.i m1,.i sz],.bool true],[])) (g1:∀ kf,callN Tp polZ (kf+1) 56 [.agg [.i m0,.i m1,.i sz],.imm .arg 1 rw] [.arr 3 [.agg [.i m0,.i m1,.i sz]] true 0]=some (.tuple [.sl 1 0 q none q 2,.bool true],[.arr 3 [.agg [.i m0,.i m1,.i sz]] true 0,.arr 2 es true 0])) (g2:∀ kf,callN Tp polZ (kf+1) 57 [.agg [.i m0,.i m1,.i sz],.sl 1 0 q none q 2,.agg [.i 0,.i 0],.i 1] [.arr 3 [.agg [.i m0,.i m1,.i sz]] true 0,.arr 2 es true 0]=some (.tuple [.sl 2 0 pn none pn 1,.i er],[.arr 3 [.agg [.i m0,.i m1,.i sz]] true 0,.arr 2 es true 0,.arr 1 ps true 0])):RT polZ 26 (sub [] B26) [(0,.imm .arg 1 l),(1,.imm .arg 1 rw)] [] .ret (env26 (.imm .arg 1 l) (.imm .arg 1 rw) (.sl 2 0 pn none pn 1) (.i er) (.ptr 0 0 0 1) (.bool true) (.sl 1 0 q none q 2)) [.arr 3 [.agg [.i m0,.i m1,.i sz]] true 0,.arr 2 es true 0,.arr 1 ps true 0] :=
  RunsTo.hin 0 60 [⟨1,1,.tuple [.agg [.i m0,.i m1,.i sz],.bool true],[]⟩,⟨4,2,.tuple [.sl 1 0 q none q 2,.bool true],[.arr 3 [.agg [.i m0,.i m1,.i sz]] true 0,.arr 2 es true 0]⟩,⟨7,3,.tuple [.sl 2 0 pn none pn 1,.i er],[.arr 3 [.agg [.i m0,.i m1,.i sz]] true 0,.arr 2 es true 0,.arr 1 ps true 0]⟩] fun kf hk=>⟨_,by kernel_rfl,(oC (g0 kf) (oC (g1 kf) (oC (g2 kf) .nil)))⟩
theorem ze_1 (l rw:List HV) (m0:Int) (m1:Int) (sz:Int) (q:Nat) (es:List HV) (g0:∀ kf,callN Tp polZ (kf+1) 55 [.imm .arg 1 l] []=some (.tuple [.agg [.i m0,.i m1,.i sz],.bool true],[])) (g1:∀ kf,callN Tp polZ (kf+1) 56 [.agg [.i m0,.i m1,.i sz],.imm .arg 1 rw] [.arr 3 [.agg [.i m0,.i m1,.i sz]] true 0]=some (.tuple [.sl 1 0 q none q 2,.bool false],[.arr 3 [.agg [.i m0,.i m1,.i sz]] true 0,.arr 2 es true 0])):RT polZ 26 (sub [] B26) [(0,.imm .arg 1 l),(1,.imm .arg 1 rw)] [] .ret (env26 (.imm .arg 1 l) (.imm .arg 1 rw) (.imm .lit 1 []) (.i 2) (.ptr 0 0 0 1) (.bool false) (.sl 1 0 q none q 2)) [.arr 3 [.agg [.i m0,.i m1,.i sz]] true 0,.arr 2 es true 0] :=
  RunsTo.hin 0 60 [⟨1,1,.tuple [.agg [.i m0,.i m1,.i sz],.bool true],[]⟩,⟨4,2,.tuple [.sl 1 0 q none q 2,.bool false],[.arr 3 [.agg [.i m0,.i m1,.i sz]] true 0,.arr 2 es true 0]⟩] fun kf hk=>⟨_,by kernel_rfl,(oC (g0 kf) (oC (g1 kf) .nil))⟩
theorem ze_2 (l rw:List HV) (m0:Int) (m1:Int) (sz:Int) (g0:∀ kf,callN Tp polZ (kf+1) 55 [.imm .arg 1 l] []=some (.tuple [.agg [.i m0,.i m1,.i sz],.bool false],[])):RT polZ 26 (sub [] B26) [(0,.imm .arg 1 l),(1,.imm .arg 1 rw)] [] .ret (env26 (.imm .arg 1 l) (.imm .arg 1 rw) (.imm .lit 1 []) (.i 2) (.ptr 0 0 0 1) (.bool false) Ud) [.arr 3 [.agg [.i m0,.i m1,.i sz]] true 0] :=
  RunsTo.hin 0 60 [⟨1,1,.tuple [.agg [.i m0,.i m1,.i sz],.bool false],[]⟩] fun kf hk=>⟨_,by kernel_rfl,(oC (g0 kf) .nil)⟩
end Go.Proofs.Ytaibmipamkaljaa
end
section
open Go Go.HL
namespace Go.Proofs.Ytaibmipamkaljaa
open Go.Proofs.Try renaming prog → Tp
open Go.HL.HV renaming undef → Ud
theorem res26:Try.f26.results.toList=[.tmp 4,.tmp 5]:=by kernel_rfl
theorem zero_ok:PrimOk Tp 26 zero26:=by
  refine primOk_pure (pol:=polZ) (fn:=Try.f26) (cd:=B26) follows_mixed soundZ (by kernel_rfl) (by kernel_rfl) (fnok polZ.prim _ _ (by kernel_rfl)) (by kernel_rfl) ?_
  intro args res h
  obtain ⟨l,R,rfl,hR,rfl⟩:=zero_inv h
  have h5:=newGroup_at (pol':=polZ) (by kernel_rfl) l []
  by_cases c:(newGroupT l).2=true
  · obtain ⟨hg,hr⟩:=newGroup_gr c
    rw [c] at h5
    have h6:=elements_at (pol':=polZ) (by kernel_rfl) hg hr hR [bGr (newGroupT l).1]
    cases he:elemsT (newGroupT l).1 R with
    | some els =>
      rw [he] at h6
      obtain ⟨k1,k2,k3⟩:=elems_el hg he
      have h7:=short_at (pol':=polZ) (g:=(newGroupT l).1) (l:=els) (t:=(0,0)) (by kernel_rfl) hg k1 (by omega) (k:=1) (by omega) (H:=[bGr (newGroupT l).1,bX els]) (b:=1) rfl
      have s:=ze_0 (l.map encI) (R.map encR) _ _ _ _ _ _ _ _ h5 h6 h7
      refine ⟨_,_,_,_,s,by simp,by simp only [resultsV,res26]; rfl,?_⟩
      have e:zeroT l R=shP (shT (newGroupT l).1 els (0,0) els.length 1):=by simp only [zeroT,c,if_true,he]
      rw [e]
      exact toRes_li1 (b:=2) rfl rfl _
    | none =>
      rw [he] at h6
      have s:=ze_1 (l.map encI) (R.map encR) _ _ _ _ _ h5 h6
      refine ⟨_,_,_,.tuple [.imm .lit 1 [],.int .i64 2],s,by simp,by simp only [resultsV,res26]; rfl,?_⟩
      have e:zeroT l R=([],2):=by simp only [zeroT,c,if_true,he]
      rw [e]; rfl
  · rw [nb_false c] at h5
    have s:=ze_2 (l.map encI) (R.map encR) _ _ _ h5
    refine ⟨_,_,_,.tuple [.imm .lit 1 [],.int .i64 2],s,by simp,by simp only [resultsV,res26]; rfl,?_⟩
    have e:zeroT l R=([],2):=by simp only [zeroT,nb_false c,Bool.false_eq_true,if_false]
    rw [e]; rfl
end Go.Proofs.Ytaibmipamkaljaa
end
section
open Go Go.HL
namespace Go.Proofs.Ytaibmipamkaljaa
theorem lit_seal' {P:Program} {H:Heap} {t e k b p mx bt:Nat} {zv:HV} {els:List HV} (ht:P.underlying t=some (.slice e)) (hI:(P.info? e).map (fun i=>(i.size,i.bytes,i.zero.map ofConst))=some (1,bt,some zv)) (hc:(cellsOf zv).all cellV=true) (hs:(cellsOf zv).length=1)
    (hb:H[b]?=some (.arr k els true mx)) (hp:els.length=p) (hr:resPL els=true) :
    ∃ w,litV P true false t 1 [(0,.sl b 0 p none p k)] H=some (.imm .lit 1 [.imm .own k els],H.set b (.arr k els w mx)):=by
  by_cases h0:p=0
  · subst h0
    have hn:els=[]:=List.length_eq_zero_iff.1 hp
    subst hn
    refine ⟨true,?_⟩
    have hH:H.set b (.arr k [] true mx)=H:=by
      apply List.ext_getElem?
      intro i
      rw [List.getElem?_set]
      split
      · rename_i hi
        subst hi
        split
        · exact hb.symm
        · rename_i hlt; exact absurd (lt_of_get hb) hlt
      · rfl
    rw [hH]
    cases hi:P.info? e with
    | none=>rw [hi] at hI; cases hI
    | some i =>
      rw [hi] at hI
      simp only [Option.map_some,Option.some.injEq,Prod.mk.injEq] at hI
      obtain ⟨h1,rfl,hz⟩:=hI
      cases hz2:i.zero with
      | none=>rw [hz2] at hz; cases hz
      | some z =>
        rw [hz2] at hz
        simp only [Option.map_some,Option.some.injEq] at hz
        subst hz
        have hse:seals [.sl b 0 0 none 0 k] H=some ([.imm .own k []],H):=by simp only [seals,seal1,if_true]
        simp only [litV,ht,hi,hz2,if_true,List.map_cons,List.map_nil,hse,h1]
        rw [if_pos ⟨by omega,hs,hc,by omega,by simp [cellsOf,cellV],by simp⟩]
        simp [bndL,bnd]
  · exact ⟨false,lit_seal ht hI hc hs hb hp h0 hr⟩
theorem res_O (r:List Int):resP (encO r)=true:=by
  have:resPL (r.map encI)=true:=ints_res r
  simp only [encO,resP,this]; rfl
theorem frz_O {H:Heap} {no:List Nat} (r:List Int):frz H no 4 (encO r)=some (encO r):=by
  show (if resP (encO r) then some (encO r) else none)=_
  rw [res_O]; rfl
theorem encO_bnd:∀ (l:List (List Int)),bndL (l.map encO)=0
  | []=>rfl
  | e :: l=>by simp only [List.map_cons,bndL,encO,bnd,encO_bnd l]; rfl
theorem res_rs {H:Heap} {b k:Nat} {R:List (List Int)} (hb:H[b]?=some (.arr 1 (R.map encO) true 0)) (hk:R.length=k):toRes H false (.sl b 0 k none k 1)=some (.own 1 (R.map encO)):=by
  have hr:=resCell_sl (H:=H) (no:=[b]) (b:=b) (k:=1) (m:=k) (cap:=none) (els:=R.map encO) hb (by simpa using hk) (mapO_self (fun r=>frz_O r) _)
  have ho:ownedAll H false (.sl b 0 k none k 1)=[b]:=by simp [ownedAll,cellsOf,owned,hb]
  simp only [toRes,ho,List.nodup_cons,List.not_mem_nil,not_false_eq_true,List.nodup_nil,and_self,if_true,resVal,hr]
theorem app_O {H:Heap} {b:Nat} {R:List (List Int)} (hb:H[b]?=some (.arr 1 (R.map encO) true 0)) (hlen:R.length ≤ 1000) (r:List Int) :
    appV H 1 24 (.sl b 0 R.length none R.length 1) [encO r]=some (.sl b 0 (R.length+1) none (R.length+1) 1,H.set b (.arr 1 ((R ++ [r]).map encO) true 0)):=by
  have:=app_sl (H:=H) (k:=1) (bytes:=24) (b:=b) (n:=R.length) (mx:=0) (els:=R.map encO) (xs:=[encO r]) hb (by simp) (by simp) (by simp only [roomMax,List.length_singleton]; omega) (encO_bnd [r])
  rw [this]
  simp only [List.map_append,List.map_cons,List.map_nil,List.length_singleton]
end Go.Proofs.Ytaibmipamkaljaa
end
section
open Go Go.HL
namespace Go.Proofs.Ytaibmipamkaljaa
def GrL (gl:List Int) (g:Gr) (e:Int):Prop :=
  (∃ m,gl=[m]∧g=(m,1,1)∧e=m∧2 ≤ m∧m ≤ 24) ∨ (∃ a b,gl=[a,b]∧g=(a,b,2)∧e=b∧2 ≤ a∧a ≤ 12∧2 ≤ b∧b ≤ 24∧a * b ≤ 144∧b % a=0)
theorem GrL.new {gl:List Int} {g:Gr} {e:Int} (h:GrL gl g e):newGroupT gl=(g,true):=by
  rcases h with ⟨m,rfl,rfl,rfl,h1,h2⟩ | ⟨a,b,rfl,rfl,rfl,h1,h2,h3,h4,h5,h6⟩
  · simp only [newGroupT,in_t ⟨h1,h2⟩,if_true]
  · simp only [newGroupT,in_t (a:=a) (lo:=2) (hi:=24) ⟨h1,by omega⟩,in_t ⟨h3,h4⟩,Bool.and_self,if_true,decide_eq_true h5,decide_eq_true h6]
theorem GrL.ok {gl:List Int} {g:Gr} {e:Int} (h:GrL gl g e):grOk g:=by
  rcases h with ⟨m,rfl,rfl,rfl,h1,h2⟩ | ⟨a,b,rfl,rfl,rfl,h1,h2,h3,h4,h5,h6⟩
  · exact ⟨⟨by show 1 ≤ e; omega,by show e ≤ 1000; omega⟩,by show (1:Int) ≤ 1; omega,by show (1:Int) ≤ 1000; omega⟩
  · exact ⟨⟨by show 1 ≤ a; omega,by show a ≤ 1000; omega⟩,by show 1 ≤ e; omega,by show e ≤ 1000; omega⟩
def elOf (r:List Int):El:=(r.getD 0 0,r.getD 1 0)
def rowOk (gl r:List Int):Prop:=r.length=gl.length∧∀ j,j < gl.length → 0 ≤ r.getD j 0∧r.getD j 0 < gl.getD j 0
theorem GrL.elem {gl:List Int} {g:Gr} {e:Int} (h:GrL gl g e) {r:List Int} (hr:rowOk gl r):elementT g r=(elOf r,true):=by
  obtain ⟨hl,hr⟩:=hr
  rcases h with ⟨m,rfl,rfl,rfl,h1,h2⟩ | ⟨a,b,rfl,rfl,rfl,h1,h2,h3,h4,h5,h6⟩
  · match r,hl with
    | [x],_ =>
      have k:=hr 0 (by simp)
      have k1:0 ≤ x∧x ≤ e - 1:=⟨k.1,by have:=k.2; simp at this; omega⟩
      simp only [elementT,in_t k1,and_self,if_true]; rfl
  · match r,hl with
    | [x,y],_ =>
      have k:=hr 0 (by simp)
      have q:=hr 1 (by simp)
      have k1:0 ≤ x∧x ≤ a - 1:=⟨k.1,by have:=k.2; simp at this; omega⟩
      have k2:0 ≤ y∧y ≤ e - 1:=⟨q.1,by have:=q.2; simp at this; omega⟩
      simp only [elementT,in_t k1,in_t k2,and_self,if_true]; rfl
def zeroAt (g:Gr) (x:El) (k:Nat):Prop:=((k:Int) * x.1) % g.1=0∧((k:Int) * x.2) % g.2.1=0
def mulT (g:Gr) (x:El) (k:Nat):El:=(((k:Int) * x.1) % g.1,((k:Int) * x.2) % g.2.1)
theorem mulT_zero {g:Gr} {x:El} {k:Nat}:mulT g x k=(0,0) ↔ zeroAt g x k:=by simp [mulT,zeroAt,Prod.ext_iff]
theorem mulT_succ (g:Gr) (x:El) (k:Nat):addT g (mulT g x k) x=mulT g x (k+1):=by
  simp only [addT,mulT,Int.emod_add_emod]
  congr 1 <;> · congr 1; rw [show ((k+1:Nat):Int)=(k:Int)+1 by omega,Int.add_mul]; omega
def isOrd (g:Gr) (x:El) (o:Nat):Prop:=1 ≤ o∧zeroAt g x o∧∀ k,1 ≤ k → k < o → ¬ zeroAt g x k
theorem rch_rep {g:Gr} {x:El} (hx:elOk g x):∀ (o:Nat) (w:Wt),w ∈ (rchT g (List.replicate o x)).headD [] ↔ ∃ j:Nat,j ≤ o∧w=((j:Int),mulT g x j)
  | 0,w=>by
    simp only [List.replicate,rchT,List.headD_cons,List.mem_singleton]
    have m0:mulT g x 0=(0,0):=by simp [mulT]
    constructor
    · rintro rfl; exact ⟨0,Nat.le_refl _,by rw [m0]; rfl⟩
    · rintro ⟨j,h1,rfl⟩
      have:j=0:=by omega
      subst this; rw [m0]; rfl
  | o+1,w=>by
    rw [List.replicate_succ]
    show w ∈ rchStep g x ((rchT g (List.replicate o x)).headD []) ↔ _
    rw [mem_step]
    constructor
    · rintro ⟨u,h1,h2⟩
      obtain ⟨j,h3,rfl⟩:=(rch_rep hx o u).1 h1
      rcases h2 with rfl | rfl
      · exact ⟨j,by omega,rfl⟩
      · exact ⟨j+1,by omega,by rw [rchW,mulT_succ]; rfl⟩
    · rintro ⟨j,h1,rfl⟩
      by_cases c:j ≤ o
      · exact ⟨_,(rch_rep hx o _).2 ⟨j,c,rfl⟩,.inl rfl⟩
      · obtain ⟨i,rfl⟩:∃ i,j=i+1:=⟨j - 1,by omega⟩
        exact ⟨_,(rch_rep hx o _).2 ⟨i,by omega,rfl⟩,.inr (by rw [rchW,mulT_succ]; rfl)⟩
theorem partT_len {g:Gr} (hg:grOk g):∀ (l:List El) (i:Nat) (w:Wt),(∀ x ∈ l,elOk g x) → w ∈ (rchT g l).headD [] → ((partT g l i w).length:Int)=w.1
  | [],i,w,_,h=>by simp [rchT] at h; subst h; rfl
  | x :: l,i,w,hl,h=>by
    have hx:=hl x (by simp)
    have hl':∀ y ∈ l,elOk g y:=fun y hy=>hl y (by simp [hy])
    rw [partT]
    split
    · rename_i c; rw [c]; rfl
    · split
      · rename_i c
        have:=partT_len hg l (i+1) _ hl' c
        simp only [List.length_cons]
        simp only at this
        omega
      · rename_i c
        rcases part_next hg hx h with h' | h'
        · exact absurd h' c
        · exact partT_len hg l (i+1) w hl' h'
theorem shT_eq {g:Gr} {l:List El} {t:El} {o:Nat} (h1:((o:Int),t) ∈ (rchT g l).headD []):∀ (f j:Nat),(∀ k,j ≤ k → k < o → ((k:Int),t) ∉ (rchT g l).headD []) → j ≤ o → o < j+f → shT g l t f j=some (partI g l ((o:Int),t)):=by
  intro f
  induction f with
  | zero=>intro j _ h3 h4; omega
  | succ f ih =>
    intro j h2 h3 h4
    rw [shT]
    by_cases c:j=o
    · subst c; rw [if_pos h1]
    · rw [if_neg (h2 j (Nat.le_refl _) (by omega))]
      exact ih (j+1) (fun k a b=>h2 k (by omega) b) (by omega) (by omega)
theorem GrL.zero {gl:List Int} {g:Gr} {e:Int} (h:GrL gl g e) {r:List Int} (hr:rowOk gl r) {o:Nat} (ho:isOrd g (elOf r) o) (hoe:o ≤ 60):∃ p,zeroT gl (List.replicate o r)=(p,0)∧p.length=o:=by
  have he:=h.elem hr
  have hx:elOk g (elOf r):=by have:=element_el h.ok (l:=r) (by rw [he]); rwa [he] at this
  have hes:elemsT g (List.replicate o r)=some (List.replicate o (elOf r)):=by
    unfold elemsT
    rw [if_pos ⟨by simpa using hoe,by rw [List.all_eq_true]; intro x hx; rw [(List.mem_replicate.1 hx).2,he]⟩,List.map_replicate,he]
  have hz:((o:Int),((0,0):El)) ∈ (rchT g (List.replicate o (elOf r))).headD []:=(rch_rep hx o _).2 ⟨o,Nat.le_refl _,by rw [mulT_zero.2 ho.2.1]⟩
  have hs:=shT_eq hz o 1 (fun k h1 h2 h3=>by
    obtain ⟨j,_,hj⟩:=(rch_rep hx o _).1 h3
    simp only [Prod.mk.injEq] at hj
    have:k=j:=by omega
    subst this
    exact ho.2.2 k h1 h2 (mulT_zero.1 hj.2.symm)) ho.1 (by omega)
  refine ⟨partI g (List.replicate o (elOf r)) ((o:Int),(0,0)),?_,?_⟩
  · simp only [zeroT,h.new,if_true,hes,List.length_replicate,hs,shP]
  · have:=partT_len h.ok (List.replicate o (elOf r)) 0 ((o:Int),(0,0)) (fun x hx'=>by rw [(List.mem_replicate.1 hx').2]; exact hx) hz
    simp only [partI,List.length_map]
    simp only at this
    omega
end Go.Proofs.Ytaibmipamkaljaa
end
section
open Go Go.HL
namespace Go.Proofs.Ytaibmipamkaljaa
def sealSt (P:Program) (t:TypeId) (a v:HV) (H:Heap):Option (HV × Heap) :=
  match seal1 H v with
  | some (w,H)=>(storeV P H t a w).map fun H=>(.tuple [],H)
  | none=>none
end Go.Proofs.Ytaibmipamkaljaa
end
section
open Go Go.HL
namespace Go.Proofs.Ytaibmipamkaljaa
def cellT (n:Int) (l:List Int) (k r:Nat):Bool:=decide ((((k:Int),(((r:Int),0):El)):Wt) ∈ (rchT (gN n) (l.map (modX n))).headD [])
end Go.Proofs.Ytaibmipamkaljaa
end
section
open Go Go.HL
namespace Go.Proofs.Ytaibmipamkaljaa
abbrev nilV:HV:=.imm .lit 0 []
def rowV (n:Nat) (s:List Int):List Bool:=(List.range ((n+1) * n)).map fun c=>cellT n s (c / n) (c % n)
theorem rep_set {α:Type} (a v:α) (X:List α):∀ k,(List.replicate (k+1) a ++ X).set k v=List.replicate k a ++ v :: X
  | 0=>rfl
  | k+1=>by rw [List.replicate_succ,List.cons_append,List.set_cons_succ,rep_set a v X k]; rfl
def FI (n:Nat) (s:List Int) (T:List Bool) (c:Nat):Prop:=T.length=(n+1) * n∧∀ j,j < c → T.getD j false=cellT n s (j / n) (j % n)
theorem FI.put {n:Nat} {s:List Int} {T:List Bool} {c:Nat} (h:FI n s T c) (hc:c < (n+1) * n):FI n s (T.set c (cellT n s (c / n) (c % n))) (c+1):=by
  refine ⟨by rw [List.length_set]; exact h.1,fun j hj=>?_⟩
  by_cases e:j=c
  · subst e
    simp [List.getD,List.getElem?_set,h.1,hc]
  · have:=h.2 j (by omega)
    simp only [List.getD,List.getElem?_set] at this ⊢
    rw [if_neg (fun h=>e h.symm)]; exact this
theorem FI.row {n:Nat} {s:List Int} {T:List Bool} (h:FI n s T ((n+1) * n)):T=rowV n s:=by
  apply List.ext_getElem
  · rw [h.1]; simp [rowV]
  · intro j h1 h2
    have:=h.2 j (by have:=h.1; omega)
    simp only [rowV,List.getElem_map,List.getElem_range]
    rw [← this]; simp [List.getD,List.getElem?_eq_getElem h1]
end Go.Proofs.Ytaibmipamkaljaa
end
section
open Go Go.HL
namespace Go.Proofs.Ytaibmipamkaljaa
open Go.Proofs.Try renaming prog → Tp
open Go.HL.HV renaming undef → Ud
def prTc:FuncId → Option (List HV → Option HV):=fun g=>if g == 40 then some size40 else if g == 60 then some less60 else if g == 61 then some code61 else none
def polTc:Pol:={ pol with freezeS:=fun g r=>g == 37 && r == 15,prim:=prTc }
theorem fns_okTc:(Tp.funcs.toList.zipIdx.all fun p=>fnOk { pol with freezeS:=fun g r=>g == 37 && r == 15 } p.2 p.1)=true:=by kernel_rfl
theorem fnokTc (g:FuncId) (fn:Func) (h:Tp.funcs[g]?=some fn):fnOk polTc g fn=true:=by
  have:=fnOk_prim (pol:={ pol with freezeS:=fun g r=>g == 37 && r == 15 }) (F:=prTc) g fn
  show fnOk { pol with freezeS:=fun g r=>g == 37 && r == 15,prim:=prTc } g fn=true
  rw [this]
  exact List.all_eq_true.1 fns_okTc (fn,g) (by
    rw [List.mem_zipIdx_iff_getElem?]
    simpa using h)
theorem soundTc (n:Nat):CallSound Tp (callN Tp polTc n) :=
  callN_ok follows_mixed fnokTc (fun g f h=>by
    change prTc g=some f at h
    unfold prTc at h
    split at h
    · rename_i hg; cases h; rw [eq_of_beq hg]; exact size_ok
    split at h
    · rename_i hg; cases h; rw [eq_of_beq hg]; exact less_ok
    split at h
    · rename_i hg; cases h; rw [eq_of_beq hg]; exact code_ok
    · cases h) n
end Go.Proofs.Ytaibmipamkaljaa
end
section
open Go Go.HL
namespace Go.Proofs.Ytaibmipamkaljaa
def lessC (gl:List Int) (c:Int) (x:List Int):Int:=codeT gl (lessT gl c x)
def fT (gl:List Int):List (List Int) → Int → Int
  | [],c=>if c=0 then 0 else 1099511627776
  | x :: R,c=>min (fT gl R c) (1+fT gl R (lessC gl c x))
def bst (gl:List Int):List (List Int) → Int → Int → Int
  | [],_,b=>b
  | x :: R,w,b=>bst gl R w (min b (1+fT gl R (lessC gl w x)))
def chT (gl:List Int):List (List Int) → Nat → Int → Int → List Nat
  | [],_,_,_=>[]
  | x :: R,i,w,b=>if b ≤ 0 then [] else if 1+fT gl R (lessC gl w x)=b then i :: chT gl R (i+1) (lessC gl w x) (b - 1) else chT gl R (i+1) w b
def fbT (gl:List Int) (R:List (List Int)) (x:List Int) (ls:Int):Int:=if ls=0 then fT gl R (codeT gl x) else bst gl R (codeT gl x) 1099511627776
def firstT (gl:List Int) (R:List (List Int)) (x:List Int) (ls:Int):Option (List Int) :=
  if 1099511627776 ≤ fbT gl R x ls then none else some ((chT gl R 0 (codeT gl x) (fbT gl R x ls)).map fun q=>((q:Nat):Int))
def firR (r:Option (List Int)):HV:=match r with | some p=>.tuple [.own 1 (p.map encI),.bool true] | none=>.tuple [.own 1 [],.bool false]
theorem fT_bnd (gl:List Int):∀ R c,0 ≤ fT gl R c∧fT gl R c ≤ 1099511627776
  | [],c=>by simp only [fT]; split <;> omega
  | x :: R,c=>by
    have h1:=fT_bnd gl R c
    have h2:=fT_bnd gl R (lessC gl c x)
    simp only [fT]; omega
theorem bst_bnd (gl:List Int) (w:Int):∀ R b,0 ≤ b → b ≤ 1099511627776 → 0 ≤ bst gl R w b∧bst gl R w b ≤ 1099511627776
  | [],b,h0,h1=>⟨h0,h1⟩
  | x :: R,b,h0,h1=>by
    have h2:=fT_bnd gl R (lessC gl w x)
    rw [bst]; exact bst_bnd gl w R _ (by omega) (by omega)
theorem size_bnd {l:List Int} (h:(newGroupT l).2=true):0 < sizeT l∧sizeT l ≤ 144:=by
  rcases grp_cases h with ⟨a,rfl,h1,h2⟩ | ⟨a,b,rfl,h1,h2,h3,h4,h5,h6⟩
  · simp only [sizeT]; omega
  · have:=Int.mul_pos (show 0 < a by omega) (show 0 < b by omega)
    simp only [sizeT]; omega
theorem code_bnd {l x:List Int} (h:(newGroupT l).2=true) (hx:elB l x=true):0 ≤ codeT l x∧codeT l x < sizeT l:=by
  rcases grp_cases h with ⟨a,rfl,h1,h2⟩ | ⟨a,b,rfl,h1,h2,h3,h4,h5,h6⟩
  · obtain ⟨u,rfl,k1,k2⟩:=el_one hx
    exact ⟨k1,k2⟩
  · obtain ⟨u,v,rfl,k1,k2⟩:=el_two hx
    have:=cod_b h1 h3 h5 k1 k2
    simp only [codeT,sizeT]; omega
theorem less_el {l x:List Int} {c:Int} (h:(newGroupT l).2=true) (hx:elB l x=true):elB l (lessT l c x)=true:=by
  rcases grp_cases h with ⟨a,rfl,h1,h2⟩ | ⟨a,b,rfl,h1,h2,h3,h4,h5,h6⟩
  · obtain ⟨u,rfl,k1⟩:=el_one hx
    exact el_mk1 (mod_in (by omega) _)
  · obtain ⟨u,v,rfl,k1,k2⟩:=el_two hx
    exact el_mk2 (mod_in (by omega) _) (mod_in (by omega) _)
theorem less_bnd {l x:List Int} {c:Int} (h:(newGroupT l).2=true) (hx:elB l x=true):0 ≤ lessC l c x∧lessC l c x < sizeT l:=code_bnd h (less_el h hx)
end Go.Proofs.Ytaibmipamkaljaa
end
section
open Go Go.HL
namespace Go.Proofs.Ytaibmipamkaljaa
set_option maxRecDepth 100000
open Go.Proofs.Try renaming prog → Tp
open Go.HL.HV renaming undef → Ud
noncomputable def B34:Code:=Try.f34.body.getD .skip
abbrev env34 (v0 v1 v2 v6 v7 v8 v9 v10 v11 v12:HV):Env:=[(0,v0),(1,v1),(2,v2),(6,v6),(7,v7),(8,v8),(9,v9),(10,v10),(11,v11),(12,v12)]
theorem pa_0 (l rw lx:List HV) (m0:Int) (m1:Int) (sz:Int) (q:Nat) (es:List HV) (e0:Int) (e1:Int) (pn:Nat) (er:Int) (ps:List HV) (g0:∀ kf,callN Tp polZ (kf+1) 55 [.imm .arg 1 l] []=some (.tuple [.agg [.i m0,.i m1,.i sz],.bool true],[])) (g1:∀ kf,callN Tp polZ (kf+1) 56 [.agg [.i m0,.i m1,.i sz],.imm .arg 1 rw] [.arr 3 [.agg [.i m0,.i m1,.i sz]] true 0]=some (.tuple [.sl 1 0 q none q 2,.bool true],[.arr 3 [.agg [.i m0,.i m1,.i sz]] true 0,.arr 2 es true 0])) (g2:∀ kf,callN Tp polZ (kf+1) 58 [.agg [.i m0,.i m1,.i sz],.imm .arg 1 lx] [.arr 3 [.agg [.i m0,.i m1,.i sz]] true 0,.arr 2 es true 0]=some (.tuple [.agg [.i e0,.i e1],.bool true],[.arr 3 [.agg [.i m0,.i m1,.i sz]] true 0,.arr 2 es true 0])) (g3:∀ kf,callN Tp polZ (kf+1) 57 [.agg [.i m0,.i m1,.i sz],.sl 1 0 q none q 2,.agg [.i e0,.i e1],.i 0] [.arr 3 [.agg [.i m0,.i m1,.i sz]] true 0,.arr 2 es true 0,.arr 2 [.agg [.i e0,.i e1]] true 0]=some (.tuple [.sl 3 0 pn none pn 1,.i er],[.arr 3 [.agg [.i m0,.i m1,.i sz]] true 0,.arr 2 es true 0,.arr 2 [.agg [.i e0,.i e1]] true 0,.arr 1 ps true 0])):RT polZ 34 (sub [] B34) [(0,.imm .arg 1 l),(1,.imm .arg 1 rw),(2,.imm .arg 1 lx)] [] .ret (env34 (.imm .arg 1 l) (.imm .arg 1 rw) (.imm .arg 1 lx) (.sl 3 0 pn none pn 1) (.i er) (.ptr 0 0 0 1) (.bool true) (.sl 1 0 q none q 2) (.ptr 2 0 0 1) (.bool true)) [.arr 3 [.agg [.i m0,.i m1,.i sz]] true 0,.arr 2 es true 0,.arr 2 [.agg [.i e0,.i e1]] true 0,.arr 1 ps true 0] :=
  RunsTo.hin 0 60 [⟨1,1,.tuple [.agg [.i m0,.i m1,.i sz],.bool true],[]⟩,⟨4,2,.tuple [.sl 1 0 q none q 2,.bool true],[.arr 3 [.agg [.i m0,.i m1,.i sz]] true 0,.arr 2 es true 0]⟩,⟨5,2,.tuple [.agg [.i e0,.i e1],.bool true],[.arr 3 [.agg [.i m0,.i m1,.i sz]] true 0,.arr 2 es true 0]⟩,⟨8,3,.tuple [.sl 3 0 pn none pn 1,.i er],[.arr 3 [.agg [.i m0,.i m1,.i sz]] true 0,.arr 2 es true 0,.arr 2 [.agg [.i e0,.i e1]] true 0,.arr 1 ps true 0]⟩] fun kf hk=>⟨_,by kernel_rfl,(oC (g0 kf) (oC (g1 kf) (oC (g2 kf) (oC (g3 kf) .nil))))⟩
theorem pa_1 (l rw lx:List HV) (m0:Int) (m1:Int) (sz:Int) (q:Nat) (es:List HV) (e0:Int) (e1:Int) (g0:∀ kf,callN Tp polZ (kf+1) 55 [.imm .arg 1 l] []=some (.tuple [.agg [.i m0,.i m1,.i sz],.bool true],[])) (g1:∀ kf,callN Tp polZ (kf+1) 56 [.agg [.i m0,.i m1,.i sz],.imm .arg 1 rw] [.arr 3 [.agg [.i m0,.i m1,.i sz]] true 0]=some (.tuple [.sl 1 0 q none q 2,.bool true],[.arr 3 [.agg [.i m0,.i m1,.i sz]] true 0,.arr 2 es true 0])) (g2:∀ kf,callN Tp polZ (kf+1) 58 [.agg [.i m0,.i m1,.i sz],.imm .arg 1 lx] [.arr 3 [.agg [.i m0,.i m1,.i sz]] true 0,.arr 2 es true 0]=some (.tuple [.agg [.i e0,.i e1],.bool false],[.arr 3 [.agg [.i m0,.i m1,.i sz]] true 0,.arr 2 es true 0])):RT polZ 34 (sub [] B34) [(0,.imm .arg 1 l),(1,.imm .arg 1 rw),(2,.imm .arg 1 lx)] [] .ret (env34 (.imm .arg 1 l) (.imm .arg 1 rw) (.imm .arg 1 lx) (.imm .lit 1 []) (.i 2) (.ptr 0 0 0 1) (.bool true) (.sl 1 0 q none q 2) (.ptr 2 0 0 1) (.bool false)) [.arr 3 [.agg [.i m0,.i m1,.i sz]] true 0,.arr 2 es true 0,.arr 2 [.agg [.i e0,.i e1]] true 0] :=
  RunsTo.hin 0 60 [⟨1,1,.tuple [.agg [.i m0,.i m1,.i sz],.bool true],[]⟩,⟨4,2,.tuple [.sl 1 0 q none q 2,.bool true],[.arr 3 [.agg [.i m0,.i m1,.i sz]] true 0,.arr 2 es true 0]⟩,⟨5,2,.tuple [.agg [.i e0,.i e1],.bool false],[.arr 3 [.agg [.i m0,.i m1,.i sz]] true 0,.arr 2 es true 0]⟩] fun kf hk=>⟨_,by kernel_rfl,(oC (g0 kf) (oC (g1 kf) (oC (g2 kf) .nil)))⟩
theorem pa_2 (l rw lx:List HV) (m0:Int) (m1:Int) (sz:Int) (q:Nat) (es:List HV) (e0:Int) (e1:Int) (g0:∀ kf,callN Tp polZ (kf+1) 55 [.imm .arg 1 l] []=some (.tuple [.agg [.i m0,.i m1,.i sz],.bool true],[])) (g1:∀ kf,callN Tp polZ (kf+1) 56 [.agg [.i m0,.i m1,.i sz],.imm .arg 1 rw] [.arr 3 [.agg [.i m0,.i m1,.i sz]] true 0]=some (.tuple [.sl 1 0 q none q 2,.bool false],[.arr 3 [.agg [.i m0,.i m1,.i sz]] true 0,.arr 2 es true 0])) (g2:∀ kf,callN Tp polZ (kf+1) 58 [.agg [.i m0,.i m1,.i sz],.imm .arg 1 lx] [.arr 3 [.agg [.i m0,.i m1,.i sz]] true 0,.arr 2 es true 0]=some (.tuple [.agg [.i e0,.i e1],.bool true],[.arr 3 [.agg [.i m0,.i m1,.i sz]] true 0,.arr 2 es true 0])):RT polZ 34 (sub [] B34) [(0,.imm .arg 1 l),(1,.imm .arg 1 rw),(2,.imm .arg 1 lx)] [] .ret (env34 (.imm .arg 1 l) (.imm .arg 1 rw) (.imm .arg 1 lx) (.imm .lit 1 []) (.i 2) (.ptr 0 0 0 1) (.bool false) (.sl 1 0 q none q 2) (.ptr 2 0 0 1) (.bool true)) [.arr 3 [.agg [.i m0,.i m1,.i sz]] true 0,.arr 2 es true 0,.arr 2 [.agg [.i e0,.i e1]] true 0] :=
  RunsTo.hin 0 60 [⟨1,1,.tuple [.agg [.i m0,.i m1,.i sz],.bool true],[]⟩,⟨4,2,.tuple [.sl 1 0 q none q 2,.bool false],[.arr 3 [.agg [.i m0,.i m1,.i sz]] true 0,.arr 2 es true 0]⟩,⟨5,2,.tuple [.agg [.i e0,.i e1],.bool true],[.arr 3 [.agg [.i m0,.i m1,.i sz]] true 0,.arr 2 es true 0]⟩] fun kf hk=>⟨_,by kernel_rfl,(oC (g0 kf) (oC (g1 kf) (oC (g2 kf) .nil)))⟩
theorem pa_3 (l rw lx:List HV) (m0:Int) (m1:Int) (sz:Int) (q:Nat) (es:List HV) (e0:Int) (e1:Int) (g0:∀ kf,callN Tp polZ (kf+1) 55 [.imm .arg 1 l] []=some (.tuple [.agg [.i m0,.i m1,.i sz],.bool true],[])) (g1:∀ kf,callN Tp polZ (kf+1) 56 [.agg [.i m0,.i m1,.i sz],.imm .arg 1 rw] [.arr 3 [.agg [.i m0,.i m1,.i sz]] true 0]=some (.tuple [.sl 1 0 q none q 2,.bool false],[.arr 3 [.agg [.i m0,.i m1,.i sz]] true 0,.arr 2 es true 0])) (g2:∀ kf,callN Tp polZ (kf+1) 58 [.agg [.i m0,.i m1,.i sz],.imm .arg 1 lx] [.arr 3 [.agg [.i m0,.i m1,.i sz]] true 0,.arr 2 es true 0]=some (.tuple [.agg [.i e0,.i e1],.bool false],[.arr 3 [.agg [.i m0,.i m1,.i sz]] true 0,.arr 2 es true 0])):RT polZ 34 (sub [] B34) [(0,.imm .arg 1 l),(1,.imm .arg 1 rw),(2,.imm .arg 1 lx)] [] .ret (env34 (.imm .arg 1 l) (.imm .arg 1 rw) (.imm .arg 1 lx) (.imm .lit 1 []) (.i 2) (.ptr 0 0 0 1) (.bool false) (.sl 1 0 q none q 2) (.ptr 2 0 0 1) (.bool false)) [.arr 3 [.agg [.i m0,.i m1,.i sz]] true 0,.arr 2 es true 0,.arr 2 [.agg [.i e0,.i e1]] true 0] :=
  RunsTo.hin 0 60 [⟨1,1,.tuple [.agg [.i m0,.i m1,.i sz],.bool true],[]⟩,⟨4,2,.tuple [.sl 1 0 q none q 2,.bool false],[.arr 3 [.agg [.i m0,.i m1,.i sz]] true 0,.arr 2 es true 0]⟩,⟨5,2,.tuple [.agg [.i e0,.i e1],.bool false],[.arr 3 [.agg [.i m0,.i m1,.i sz]] true 0,.arr 2 es true 0]⟩] fun kf hk=>⟨_,by kernel_rfl,(oC (g0 kf) (oC (g1 kf) (oC (g2 kf) .nil)))⟩
theorem pa_4 (l rw lx:List HV) (m0:Int) (m1:Int) (sz:Int) (g0:∀ kf,callN Tp polZ (kf+1) 55 [.imm .arg 1 l] []=some (.tuple [.agg [.i m0,.i m1,.i sz],.bool false],[])):RT polZ 34 (sub [] B34) [(0,.imm .arg 1 l),(1,.imm .arg 1 rw),(2,.imm .arg 1 lx)] [] .ret (env34 (.imm .arg 1 l) (.imm .arg 1 rw) (.imm .arg 1 lx) (.imm .lit 1 []) (.i 2) (.ptr 0 0 0 1) (.bool false) Ud Ud Ud) [.arr 3 [.agg [.i m0,.i m1,.i sz]] true 0] :=
  RunsTo.hin 0 60 [⟨1,1,.tuple [.agg [.i m0,.i m1,.i sz],.bool false],[]⟩] fun kf hk=>⟨_,by kernel_rfl,(oC (g0 kf) .nil)⟩
noncomputable def B28:Code:=Try.f28.body.getD .skip
abbrev env28 (v0 v2:HV):Env:=[(0,v0),(2,v2)]
theorem zr_0 (l:List HV)(g0:makeV Tp false 22 (.i (l.length:Int)) (.i (l.length:Int)) []=some (.sl 0 0 l.length (some l.length) l.length 1,[.arr 1 (List.replicate l.length (.i 0)) true 0])):RT pol 28 (sub [] B28) [(0,.imm .arg 1 l)] [] .ret (env28 (.imm .arg 1 l) (.sl 0 0 l.length (some l.length) l.length 1)) [.arr 1 (List.replicate l.length (.i 0)) true 0] :=
  RunsTo.hin 0 60 [⟨1,2,.sl 0 0 l.length (some l.length) l.length 1,[.arr 1 (List.replicate l.length (.i 0)) true 0]⟩] fun kf hk=>⟨_,by kernel_rfl,(oC (g0) .nil)⟩
end Go.Proofs.Ytaibmipamkaljaa
end
section
open Go Go.HL
namespace Go.Proofs.Ytaibmipamkaljaa
open Go.Proofs.Try renaming prog → Tp
open Go.HL.HV renaming undef → Ud
def partTT (l:List Int) (R:List (List Int)) (lx:List Int):List Int × Int :=
  if (newGroupT l).2=true then (match elemsT (newGroupT l).1 R with
    | some els=>if (elementT (newGroupT l).1 lx).2=true then shP (shT (newGroupT l).1 els (elementT (newGroupT l).1 lx).1 (els.length+1) 0) else ([],2)
    | none=>([],2)) else ([],2)
def part34:List HV → Option HV
  | [.imm .arg 1 la,.imm .arg 1 rw,.imm .arg 1 lx]=>(match mapO decI la,mapO decR rw,mapO decI lx with | some l,some R,some x=>if R.length ≤ 1000 then some (.tuple [.own 1 ((partTT l R x).1.map encI),.int .i64 (partTT l R x).2]) else none | _,_,_=>none)
  | _=>none
theorem part34_inv {args:List HV} {res:HV} (h:part34 args=some res):∃ l R x,args=[.imm .arg 1 (l.map encI),.imm .arg 1 (R.map encR),.imm .arg 1 (x.map encI)]∧R.length ≤ 1000∧res=.tuple [.own 1 ((partTT l R x).1.map encI),.int .i64 (partTT l R x).2]:=by
  unfold part34 at h
  split at h
  · rename_i la rw_ lx
    split at h
    · rename_i l R x hl hR hx
      split at h
      · rename_i hk
        cases h
        exact ⟨l,R,x,by rw [mapO_inv decI_inv hl,mapO_inv decR_inv hR,mapO_inv decI_inv hx],hk,rfl⟩
      · cases h
    · cases h
  · cases h
theorem res34:Try.f34.results.toList=[.tmp 6,.tmp 7]:=by kernel_rfl
theorem part34_ok:PrimOk Tp 34 part34:=by
  refine primOk_pure (pol:=polZ) (fn:=Try.f34) (cd:=B34) follows_mixed soundZ (by kernel_rfl) (by kernel_rfl) (fnok polZ.prim _ _ (by kernel_rfl)) (by kernel_rfl) ?_
  intro args res h
  obtain ⟨l,R,x,rfl,hR,rfl⟩:=part34_inv h
  have h5:=newGroup_at (pol':=polZ) (by kernel_rfl) l []
  by_cases c:(newGroupT l).2=true
  · obtain ⟨hg,hr⟩:=newGroup_gr c
    rw [c] at h5
    have h6:=elements_at (pol':=polZ) (by kernel_rfl) hg hr hR [bGr (newGroupT l).1]
    have h8:=element_at (pol':=polZ) (by kernel_rfl) hg hr x [bGr (newGroupT l).1,bX ((elemsT (newGroupT l).1 R).getD [])]
    cases he:elemsT (newGroupT l).1 R with
    | some els =>
      rw [he] at h6 h8
      obtain ⟨k1,k2,k3⟩:=elems_el hg he
      by_cases d:(elementT (newGroupT l).1 x).2=true
      · rw [d] at h8
        have h7:=short_at (pol':=polZ) (g:=(newGroupT l).1) (l:=els) (t:=(elementT (newGroupT l).1 x).1) (by kernel_rfl) hg k1 (by omega) (k:=0) (by omega) (H:=[bGr (newGroupT l).1,bX els,bX [(elementT (newGroupT l).1 x).1]]) (b:=1) rfl
        have s:=pa_0 (l.map encI) (R.map encR) (x.map encI) _ _ _ _ _ _ _ _ _ _ h5 h6 h8 h7
        refine ⟨_,_,_,_,s,by simp,by simp only [resultsV,res34]; rfl,?_⟩
        have e:partTT l R x=shP (shT (newGroupT l).1 els (elementT (newGroupT l).1 x).1 (els.length+1) 0):=by simp only [partTT,c,d,if_true,he]
        rw [e]
        exact toRes_li1 (b:=3) rfl rfl _
      · rw [nb_false d] at h8
        have s:=pa_1 (l.map encI) (R.map encR) (x.map encI) _ _ _ _ _ _ _ h5 h6 h8
        refine ⟨_,_,_,.tuple [.imm .lit 1 [],.int .i64 2],s,by simp,by simp only [resultsV,res34]; rfl,?_⟩
        have e:partTT l R x=([],2):=by simp only [partTT,c,nb_false d,if_true,he,Bool.false_eq_true,if_false]
        rw [e]; rfl
    | none =>
      rw [he] at h6 h8
      have e:partTT l R x=([],2):=by simp only [partTT,c,if_true,he]
      by_cases d:(elementT (newGroupT l).1 x).2=true
      · rw [d] at h8
        have s:=pa_2 (l.map encI) (R.map encR) (x.map encI) _ _ _ _ _ _ _ h5 h6 h8
        refine ⟨_,_,_,.tuple [.imm .lit 1 [],.int .i64 2],s,by simp,by simp only [resultsV,res34]; rfl,?_⟩
        rw [e]; rfl
      · rw [nb_false d] at h8
        have s:=pa_3 (l.map encI) (R.map encR) (x.map encI) _ _ _ _ _ _ _ h5 h6 h8
        refine ⟨_,_,_,.tuple [.imm .lit 1 [],.int .i64 2],s,by simp,by simp only [resultsV,res34]; rfl,?_⟩
        rw [e]; rfl
  · rw [nb_false c] at h5
    have s:=pa_4 (l.map encI) (R.map encR) (x.map encI) _ _ _ h5
    refine ⟨_,_,_,.tuple [.imm .lit 1 [],.int .i64 2],s,by simp,by simp only [resultsV,res34]; rfl,?_⟩
    have e:partTT l R x=([],2):=by simp only [partTT,nb_false c,Bool.false_eq_true,if_false]
    rw [e]; rfl
def zero28:List HV → Option HV:=liF fun l=>if l.length ≤ 1000 then some (.own 1 ((List.replicate l.length (0:Int)).map encI)) else none
theorem res28:Try.f28.results.toList=[.tmp 2]:=by kernel_rfl
theorem info3:(Tp.info? 3).map (fun i=>(i.size,i.bytes,i.zero.map ofConst))=some (1,8,some (.int .i64 0)):=by kernel_rfl
theorem zero28_ok:PrimOk Tp 28 zero28:=by
  refine primOk_pure (pol:=pol) (fn:=Try.f28) (cd:=B28) follows_mixed sound (by kernel_rfl) (by kernel_rfl) (fnok pol.prim _ _ (by kernel_rfl)) (by kernel_rfl) ?_
  intro args res h
  obtain ⟨l,rfl,hq⟩:=liF_inv h
  clear h
  split at hq
  case isFalse=>cases hq
  rename_i hl
  cases hq
  have mk:=makeV_ok (P:=Tp) (H:=[]) (t:=22) (e:=3) (k:=1) (bt:=8) (zv:=.int .i64 0) (n:=(l.length:Int)) u22 info3 (by simp [cellsOf,cellV]) (by simp [cellsOf]) (by omega) (by omega) (by simp only [roomMax]; omega)
  rw [Int.toNat_natCast] at mk
  have s:=zr_0 (l.map encI) (by rw [List.length_map]; exact mk)
  rw [List.length_map] at s
  have e:(List.replicate l.length (0:Int)).map encI=List.replicate l.length (.int .i64 0):=by rw [List.map_replicate]; rfl
  refine ⟨_,_,_,.sl 0 0 l.length (some l.length) l.length 1,s,by simp,by simp only [resultsV,res28]; rfl,?_⟩
  rw [e]
  show toRes _ false _=_
  have hr:=resCell_sl (H:=[.arr 1 (List.replicate l.length (.int .i64 0)) true 0]) (no:=[0]) (b:=0) (k:=1) (m:=l.length) (cap:=some l.length) (els:=List.replicate l.length (.int .i64 0)) rfl (by simp) (by rw [← e]; exact mapO_self (fun r=>frz_int 4 r) _)
  have ho:ownedAll [Blk.arr 1 (List.replicate l.length (.int .i64 0)) true 0] false (.sl 0 0 l.length (some l.length) l.length 1)=[0]:=rfl
  simp only [toRes,ho,List.nodup_cons,List.not_mem_nil,not_false_eq_true,List.nodup_nil,and_self,if_true,resVal,hr]
end Go.Proofs.Ytaibmipamkaljaa
end
section
open Go Go.HL
namespace Go.Proofs.Ytaibmipamkaljaa
def tE (gl:List Int) (c:Int):El:=match gl with | [_,b]=>(c / b,c % b) | _=>(c,0)
abbrev eE (gl x:List Int):El:=tE gl (codeT gl x)
abbrev els (gl:List Int) (R:List (List Int)):List El:=R.map (eE gl)
abbrev grG (gl:List Int):Gr:=(newGroupT gl).1
theorem in_B {a lo hi:Int} (h:lo ≤ a∧a ≤ hi):inB a lo hi=true:=decide_eq_true h
theorem new_one {a:Int} (h1:2 ≤ a) (h2:a ≤ 24):newGroupT [a]=((a,1,1),true):=by simp only [newGroupT]; rw [if_pos (in_B ⟨h1,h2⟩)]
theorem new_two {a b:Int} (h1:2 ≤ a) (h2:a ≤ 24) (h3:2 ≤ b) (h4:b ≤ 24) (h5:a * b ≤ 144) (h6:b % a=0):newGroupT [a,b]=((a,b,2),true):=by
  simp only [newGroupT]; rw [in_B ⟨h1,h2⟩,in_B ⟨h3,h4⟩,decide_eq_true h5,decide_eq_true h6]; rfl
theorem tE_two {b u v a:Int} (h:0 ≤ v∧v < b):tE [a,b] (u * b+v)=(u,v):=by
  show ((u * b+v) / b,(u * b+v) % b)=_
  rw [Int.add_comm,Int.add_mul_ediv_right _ _ (by omega),Int.add_mul_emod_self_right,Int.ediv_eq_zero_of_lt h.1 h.2,Int.emod_eq_of_lt h.1 h.2,Int.zero_add]
theorem el_E {gl x:List Int} (hg:(newGroupT gl).2=true) (hx:elB gl x=true):elementT (grG gl) x=(eE gl x,true):=by
  rcases grp_cases hg with ⟨a,rfl,h1,h2⟩ | ⟨a,b,rfl,h1,h2,h3,h4,h5,h6⟩
  · obtain ⟨u,rfl,k1,k2⟩:=el_one hx
    simp only [grG,new_one h1 h2,elementT]
    rw [if_pos ⟨trivial,in_B ⟨k1,by omega⟩⟩]; rfl
  · obtain ⟨u,v,rfl,k1,k2⟩:=el_two hx
    simp only [grG,new_two h1 h2 h3 h4 h5 h6,elementT,eE,codeT,tE_two k2]
    rw [if_pos ⟨trivial,in_B ⟨k1.1,by omega⟩⟩,if_pos (in_B ⟨k2.1,by omega⟩)]
theorem el_no {gl x:List Int} (hg:(newGroupT gl).2=true) (hx:elB gl x=false):(elementT (grG gl) x).2=false:=by
  rcases grp_cases hg with ⟨a,rfl,h1,h2⟩ | ⟨a,b,rfl,h1,h2,h3,h4,h5,h6⟩
  · simp only [grG,new_one h1 h2]
    match x with
    | []=>rfl
    | [u] =>
      simp only [elementT]
      split
      · rename_i h
        have k:=of_decide_eq_true h.2
        rw [el_mk1 (a:=a) (u:=u) ⟨k.1,by omega⟩] at hx; cases hx
      · rfl
    | [u,v]=>simp only [elementT]; rfl
    | u :: v :: w :: x=>rfl
  · simp only [grG,new_two h1 h2 h3 h4 h5 h6]
    match x with
    | []=>rfl
    | [u]=>simp only [elementT]; rfl
    | [u,v] =>
      simp only [elementT]
      split
      · rename_i h
        have k:=of_decide_eq_true h.2
        split
        · rename_i h'
          have k':=of_decide_eq_true h'
          rw [el_mk2 (a:=a) (b:=b) (u:=u) (v:=v) ⟨k.1,by omega⟩ ⟨k'.1,by omega⟩] at hx; cases hx
        · rfl
      · rfl
    | u :: v :: w :: x=>rfl
theorem grG_ok {gl:List Int} (hg:(newGroupT gl).2=true):grOk (grG gl):=by
  rcases grp_cases hg with ⟨a,rfl,h1,h2⟩ | ⟨a,b,rfl,h1,h2,h3,h4,h5,h6⟩
  · simp only [grG,new_one h1 h2]; exact ⟨⟨by show 1 ≤ a; omega,by show a ≤ 1000; omega⟩,by show (1:Int) ≤ 1; omega,by show (1:Int) ≤ 1000; omega⟩
  · simp only [grG,new_two h1 h2 h3 h4 h5 h6]; exact ⟨⟨by show 1 ≤ a; omega,by show a ≤ 1000; omega⟩,by show 1 ≤ b; omega,by show b ≤ 1000; omega⟩
theorem tE_ok {gl:List Int} (hg:(newGroupT gl).2=true) {c:Int} (hc:0 ≤ c∧c < sizeT gl):elOk (grG gl) (tE gl c):=by
  rcases grp_cases hg with ⟨a,rfl,h1,h2⟩ | ⟨a,b,rfl,h1,h2,h3,h4,h5,h6⟩
  · simp only [grG,new_one h1 h2]; exact ⟨hc,Int.le_refl _,by show (0:Int) < 1; omega⟩
  · have c1:c < a * b:=hc.2
    simp only [grG,new_two h1 h2 h3 h4 h5 h6]
    exact ⟨⟨Int.ediv_nonneg hc.1 (by omega),Int.ediv_lt_of_lt_mul (by omega) c1⟩,Int.emod_nonneg _ (by omega),Int.emod_lt_of_pos _ (by omega)⟩
theorem tE_zero {gl:List Int} (hg:(newGroupT gl).2=true) {c:Int} (hc:0 ≤ c∧c < sizeT gl):tE gl c=(0,0) ↔ c=0:=by
  rcases grp_cases hg with ⟨a,rfl,h1,h2⟩ | ⟨a,b,rfl,h1,h2,h3,h4,h5,h6⟩
  · simp [tE]
  · constructor
    · intro h
      simp only [tE,Prod.mk.injEq] at h
      have:=Int.mul_ediv_add_emod c b
      rw [h.1,h.2] at this; omega
    · rintro rfl; simp [tE]
theorem tE_less {gl x:List Int} (hg:(newGroupT gl).2=true) {c:Int} (hx:elB gl x=true):tE gl (lessC gl c x)=subT (grG gl) (tE gl c) (eE gl x):=by
  rcases grp_cases hg with ⟨a,rfl,h1,h2⟩ | ⟨a,b,rfl,h1,h2,h3,h4,h5,h6⟩
  · obtain ⟨u,rfl,k1,k2⟩:=el_one hx
    simp only [grG,new_one h1 h2]; exact Prod.ext rfl (by show (0:Int)=(0 - 0+1) % 1; decide)
  · obtain ⟨u,v,rfl,k1,k2⟩:=el_two hx
    simp only [grG,new_two h1 h2 h3 h4 h5 h6,eE,lessC,codeT,lessT]
    rw [tE_two (mod_in (by omega) _),tE_two k2]; rfl
theorem eE_ok {gl x:List Int} (hg:(newGroupT gl).2=true) (hx:elB gl x=true):elOk (grG gl) (eE gl x):=tE_ok hg (code_bnd hg hx)
theorem add_subT {g:Gr} (hg:grOk g) {x u:El} (hu:elOk g u):addT g (subT g u x) x=u:=by
  obtain ⟨m0,m1,sz⟩:=g
  obtain ⟨⟨g1,g2⟩,g3,g4⟩:=hg
  obtain ⟨x0,x1⟩:=x
  obtain ⟨u0,u1⟩:=u
  obtain ⟨⟨b1,b2⟩,b3,b4⟩:=hu
  simp only at g1 g2 g3 g4 b1 b2 b3 b4
  have key:∀ (m a b:Int),0 ≤ b → b < m → ((b - a+m) % m+a) % m=b:=by
    intro m a b h3 h4
    rw [Int.emod_add_emod,show b - a+m+a=b+m by omega,Int.add_emod_right]
    exact Int.emod_eq_of_lt h3 h4
  simp only [subT,addT]
  rw [key m0 x0 u0 b1 b2,key m1 x1 u1 b3 b4]
theorem rch_cons {g:Gr} (hg:grOk g) {x:El} (hx:elOk g x) (l:List El) {k:Int} {t:El} (ht:elOk g t) :
    (k,t) ∈ (rchT g (x :: l)).headD [] ↔ (k,t) ∈ (rchT g l).headD [] ∨ (k - 1,subT g t x) ∈ (rchT g l).headD []:=by
  constructor
  · intro h
    exact (part_next hg hx h).symm
  · intro h
    show (k,t) ∈ rchStep g x ((rchT g l).headD [])
    rw [mem_step]
    rcases h with h | h
    · exact ⟨_,h,.inl rfl⟩
    · refine ⟨_,h,.inr ?_⟩
      simp only [rchW]
      rw [add_subT hg ht,show k - 1+1=k by omega]
section
variable {gl:List Int} (hg:(newGroupT gl).2=true)
include hg
theorem fT_spec:∀ (R:List (List Int)),(∀ x ∈ R,elB gl x=true) → ∀ c,(0 ≤ c∧c < sizeT gl) →
    (∀ k,(k,tE gl c) ∈ (rchT (grG gl) (els gl R)).headD [] → fT gl R c ≤ k)∧(fT gl R c < 1099511627776 → (fT gl R c,tE gl c) ∈ (rchT (grG gl) (els gl R)).headD [])
  | [],_,c,hc=>by
    simp only [els,List.map_nil,rchT,List.headD_cons,List.mem_singleton,fT]
    refine ⟨fun k h=>?_,fun h=>?_⟩
    · have h1:k=0:=congrArg Prod.fst h
      have h2:tE gl c=(0,0):=congrArg Prod.snd h
      rw [if_pos ((tE_zero hg hc).1 h2),h1]; exact Int.le_refl _
    · split at h
      · rename_i e
        rw [if_pos e,(tE_zero hg hc).2 e]
      · omega
  | x :: R,hR,c,hc=>by
    have hx:=hR x (by simp)
    have hR':∀ y ∈ R,elB gl y=true:=fun y hy=>hR y (by simp [hy])
    have hl:=less_bnd (c:=c) hg hx
    obtain ⟨a1,a2⟩:=fT_spec R hR' c hc
    obtain ⟨b1,b2⟩:=fT_spec R hR' _ hl
    have hb:=fT_bnd gl R (lessC gl c x)
    rw [tE_less hg hx] at b1 b2
    have hrc:=fun k=>rch_cons (grG_ok hg) (eE_ok hg hx) (els gl R) (k:=k) (tE_ok hg hc)
    show (∀ k,(k,tE gl c) ∈ (rchT (grG gl) (eE gl x :: els gl R)).headD [] → _)∧(_ → _ ∈ (rchT (grG gl) (eE gl x :: els gl R)).headD [])
    refine ⟨fun k h=>?_,fun h=>?_⟩
    · rw [fT]
      rcases (hrc k).1 h with h | h
      · have:=a1 k h; omega
      · have:=b1 (k - 1) h; omega
    · rw [fT] at h ⊢
      refine (hrc _).2 ?_
      by_cases c1:fT gl R c ≤ 1+fT gl R (lessC gl c x)
      · rw [Int.min_eq_left c1] at h ⊢
        exact .inl (a2 h)
      · rw [Int.min_eq_right (by omega)] at h ⊢
        refine .inr ?_
        rw [show 1+fT gl R (lessC gl c x) - 1=fT gl R (lessC gl c x) by omega]
        exact b2 (by omega)
theorem ch_part:∀ (R:List (List Int)) (i:Nat) (c b:Int),(∀ x ∈ R,elB gl x=true) → R.length ≤ 900 → (0 ≤ c∧c < sizeT gl) → 0 ≤ b → (b,tE gl c) ∈ (rchT (grG gl) (els gl R)).headD [] →
    (∀ k,1 ≤ k → (k,tE gl c) ∈ (rchT (grG gl) (els gl R)).headD [] → b ≤ k) → chT gl R i c b=partT (grG gl) (els gl R) i (b,tE gl c)
  | [],i,c,b,_,_,_,_,_,_=>rfl
  | x :: R,i,c,b,hR,hll,hc,hb,hin,hmin=>by
    have hx:=hR x (by simp)
    have hR':∀ y ∈ R,elB gl y=true:=fun y hy=>hR y (by simp [hy])
    have hl:=less_bnd (c:=c) hg hx
    simp only [List.length_cons] at hll
    have hok:=(head_ok (grG_ok hg) (els gl (x :: R)) _ hin).2.2
    simp only [els,List.length_map,List.length_cons] at hok
    obtain ⟨b1,b2⟩:=fT_spec hg R hR' _ hl
    rw [tE_less hg hx] at b1 b2
    have hrc:=fun k=>rch_cons (grG_ok hg) (eE_ok hg hx) (els gl R) (k:=k) (tE_ok hg hc)
    have hin':(b,tE gl c) ∈ (rchT (grG gl) (eE gl x :: els gl R)).headD []:=hin
    have hmin':∀ k,1 ≤ k → (k,tE gl c) ∈ (rchT (grG gl) (eE gl x :: els gl R)).headD [] → b ≤ k:=hmin
    show _=partT (grG gl) (eE gl x :: els gl R) i (b,tE gl c)
    rw [chT,partT]
    by_cases hb0:b ≤ 0
    · rw [if_pos hb0,if_pos (show b=0 by omega)]
    · rw [if_neg hb0,if_neg (show ¬ b=0 by omega)]
      have key:1+fT gl R (lessC gl c x)=b ↔ (b - 1,subT (grG gl) (tE gl c) (eE gl x)) ∈ (rchT (grG gl) (els gl R)).headD []:=by
        constructor
        · intro e
          rw [← e,show 1+fT gl R (lessC gl c x) - 1=fT gl R (lessC gl c x) by omega]
          exact b2 (by omega)
        · intro h
          have h1:=b1 _ h
          have h0:=fT_bnd gl R (lessC gl c x)
          have h2:=hmin' (1+fT gl R (lessC gl c x)) (by omega) ((hrc _).2 (.inr (by
            rw [show 1+fT gl R (lessC gl c x) - 1=fT gl R (lessC gl c x) by omega]
            exact b2 (by omega))))
          omega
      by_cases hc1:1+fT gl R (lessC gl c x)=b
      · rw [if_pos hc1,if_pos (key.1 hc1)]
        have:=ch_part R (i+1) (lessC gl c x) (b - 1) hR' (by omega) hl (by omega) (by rw [tE_less hg hx]; exact key.1 hc1) (fun k hk h=>by
          rw [tE_less hg hx] at h
          have:=hmin' (k+1) (by omega) ((hrc _).2 (.inr (by rw [show k+1 - 1=k by omega]; exact h)))
          omega)
        rw [this,tE_less hg hx]
      · rw [if_neg hc1,if_neg (fun h=>hc1 (key.2 h))]
        rcases (hrc b).1 hin' with h | h
        · exact ch_part R (i+1) c b hR' (by omega) hc hb h (fun k hk h=>hmin' k hk ((hrc k).2 (.inl h)))
        · exact absurd (key.2 h) hc1
theorem bst_spec {c:Int} (hc:0 ≤ c∧c < sizeT gl):∀ (R:List (List Int)) (b0:Int),(∀ x ∈ R,elB gl x=true) → b0 ≤ 1099511627776 →
    (∀ k,1 ≤ k → (k,tE gl c) ∈ (rchT (grG gl) (els gl R)).headD [] → bst gl R c b0 ≤ k)∧bst gl R c b0 ≤ b0∧(bst gl R c b0 < b0 → 1 ≤ bst gl R c b0∧(bst gl R c b0,tE gl c) ∈ (rchT (grG gl) (els gl R)).headD [])
  | [],b0,_,_=>by
    simp only [els,List.map_nil,rchT,List.headD_cons,List.mem_singleton,bst]
    refine ⟨fun k hk h=>?_,Int.le_refl _,fun h=>by omega⟩
    have h1:k=0:=congrArg Prod.fst h
    omega
  | x :: R,b0,hR,hb0=>by
    have hx:=hR x (by simp)
    have hR':∀ y ∈ R,elB gl y=true:=fun y hy=>hR y (by simp [hy])
    have hl:=less_bnd (c:=c) hg hx
    obtain ⟨b1,b2⟩:=fT_spec hg R hR' _ hl
    rw [tE_less hg hx] at b1 b2
    have h0:=fT_bnd gl R (lessC gl c x)
    have hrc:=fun k=>rch_cons (grG_ok hg) (eE_ok hg hx) (els gl R) (k:=k) (tE_ok hg hc)
    obtain ⟨i1,i2,i3⟩:=bst_spec hc R (min b0 (1+fT gl R (lessC gl c x))) hR' (by omega)
    show (∀ k,1 ≤ k → (k,tE gl c) ∈ (rchT (grG gl) (eE gl x :: els gl R)).headD [] → _)∧_∧(_ → _∧_ ∈ (rchT (grG gl) (eE gl x :: els gl R)).headD [])
    rw [bst]
    refine ⟨fun k hk h=>?_,by omega,fun h=>?_⟩
    · rcases (hrc k).1 h with h | h
      · exact i1 k hk h
      · have:=b1 (k - 1) h; omega
    · by_cases c1:bst gl R c (min b0 (1+fT gl R (lessC gl c x))) < min b0 (1+fT gl R (lessC gl c x))
      · obtain ⟨j1,j2⟩:=i3 c1
        exact ⟨j1,(hrc _).2 (.inl j2)⟩
      · have e:bst gl R c (min b0 (1+fT gl R (lessC gl c x)))=1+fT gl R (lessC gl c x):=by omega
        rw [e]
        refine ⟨by omega,(hrc _).2 (.inr ?_)⟩
        rw [show 1+fT gl R (lessC gl c x) - 1=fT gl R (lessC gl c x) by omega]
        exact b2 (by omega)
theorem first_sh {R:List (List Int)} (hR:∀ x ∈ R,elB gl x=true) (hl:R.length ≤ 900) {x:List Int} (hx:elB gl x=true) (ls:Nat) (hls:ls ≤ 1) :
    firstT gl R x (ls:Int)=shT (grG gl) (els gl R) (eE gl x) (R.length+1 - ls) ls:=by
  have hc:=code_bnd hg hx
  have spec:(∀ k,(ls:Int) ≤ k → (k,eE gl x) ∈ (rchT (grG gl) (els gl R)).headD [] → fbT gl R x ls ≤ k)∧(fbT gl R x ls < 1099511627776 → (ls:Int) ≤ fbT gl R x ls∧(fbT gl R x ls,eE gl x) ∈ (rchT (grG gl) (els gl R)).headD []):=by
    unfold fbT
    by_cases h0:ls=0
    · subst h0
      rw [if_pos (show ((0:Nat):Int)=0 by rfl)]
      obtain ⟨a1,a2⟩:=fT_spec hg R hR _ hc
      exact ⟨fun k _ h=>a1 k h,fun h=>⟨(fT_bnd gl R _).1,a2 h⟩⟩
    · have h1:ls=1:=by omega
      subst h1
      rw [if_neg (show ¬ ((1:Nat):Int)=0 by omega)]
      obtain ⟨a1,a2,a3⟩:=bst_spec hg hc R 1099511627776 hR (by omega)
      exact ⟨fun k hk h=>a1 k hk h,fun h=>a3 h⟩
  obtain ⟨s1,s2⟩:=spec
  unfold firstT
  by_cases hf:1099511627776 ≤ fbT gl R x ls
  · rw [if_pos hf]
    have none:∀ f j:Nat,ls ≤ j → shT (grG gl) (els gl R) (eE gl x) f j=none:=by
      intro f
      induction f with
      | zero=>intro j _; rfl
      | succ f ih =>
        intro j hj
        rw [shT,if_neg (fun h=>by
          have h1:=s1 j (by omega) h
          have:=(head_ok (grG_ok hg) _ _ h).2.2
          simp only [els,List.length_map] at this
          omega)]
        exact ih (j+1) (by omega)
    rw [none _ _ (Nat.le_refl _)]
  · rw [if_neg hf]
    obtain ⟨t1,t2⟩:=s2 (by omega)
    have h2:=(head_ok (grG_ok hg) _ _ t2).2.2
    simp only [els,List.length_map] at h2
    have e:((fbT gl R x ls).toNat:Int)=fbT gl R x ls:=Int.toNat_of_nonneg (by omega)
    rw [shT_eq (o:=(fbT gl R x ls).toNat) (by rw [e]; exact t2) (R.length+1 - ls) ls (fun k h1 h2 h=>by have:=s1 k (by omega) h; omega) (by omega) (by omega)]
    rw [e,partI,ch_part hg R 0 (codeT gl x) _ hR hl hc (by omega) t2 (fun k hk h=>s1 k (by omega) h)]
end
end Go.Proofs.Ytaibmipamkaljaa
end
section
open Go Go.HL
namespace Go.Proofs.Ytaibmipamkaljaa
set_option maxRecDepth 100000
open Go.Proofs.Try renaming prog → Tp
open Go.HL.HV renaming undef → Ud
noncomputable def B33:Code:=Try.f33.body.getD .skip
abbrev env33 (v0 v2 v3 v4 v5:HV):Env:=[(0,v0),(2,v2),(3,v3),(4,v4),(5,v5)]
theorem tb_a_0 (rw:List HV) :RT pol 33 (sub [0] B33) [(0,.imm .arg 1 rw)] [] .normal (env33 (.imm .arg 1 rw) (.imm .lit 1 []) Ud Ud Ud) [] :=
  RunsTo.hin 0 60 [] fun kf hk=>⟨_,by kernel_rfl,.nil⟩
theorem tb_b_0 (rw:List HV)  {y3 y4 y5:HV}:RT pol 33 (sub [1,0] B33) (env33 (.imm .arg 1 rw) (.imm .lit 1 []) y3 y4 y5) [] .normal (env33 (.imm .arg 1 rw) (.imm .lit 1 []) (.sl 0 0 0 none 0 1) y4 y5) [.arr 1 [] true 0] :=
  RunsTo.hin 0 60 [] fun kf hk=>⟨_,by kernel_rfl,.nil⟩
theorem tb_c_0 (rw:List HV) (p:Nat) (out:List HV) {y4 y5:HV}:RT pol 33 (sub [1,1,0,0] B33) (env33 (.imm .arg 1 rw) (.imm .lit 1 []) (.sl 0 0 p none p 1) y4 y5) [.arr 1 out true 0] .normal (env33 (.imm .arg 1 rw) (.imm .lit 1 []) (.sl 0 0 p none p 1) (.i 0) y5) [.arr 1 out true 0] :=
  RunsTo.hin 0 60 [] fun kf hk=>⟨_,by kernel_rfl,.nil⟩
theorem tb_d_0 (rw:List HV) (p:Nat) (out:List HV) (i m:Nat) {y5:HV} {l0:List HV} {l1:List HV} {w0:Bool} (g0:(i:Int) < (rw.length:Int)) (g1:(i:Int) ≤ 60) (g2:idxV Tp 35 (.imm .arg 1 rw) (.i (i:Int))=some (.vptr (.imm .arg 1 l0))) (g3:idxV Tp 35 (.imm .arg 1 rw) (.i (i:Int))=some (.vptr (.imm .arg 1 l1))) (g4:sliceV Tp 22 (.imm .arg 1 l0) none (some (.i (min (l1.length:Int) 3))) none=some (.imm .arg 1 (l0.take m))) (g5:appV [.arr 1 out true 0,.arr 1 [] true 0] 1 8 (.sl 1 0 0 none 0 1) (l0.take m)=some (.sl 1 0 ((l0.take m).length) none ((l0.take m).length) 1,[.arr 1 out true 0,.arr 1 (l0.take m) true 0])) (g6:litV Tp true false 35 1 [(0,.sl 1 0 ((l0.take m).length) none ((l0.take m).length) 1)] [.arr 1 out true 0,.arr 1 (l0.take m) true 0]=some (.imm .lit 1 [.imm .own 1 (l0.take m)],[.arr 1 out true 0,.arr 1 (l0.take m) w0 0])) (g7:appV [.arr 1 out true 0,.arr 1 (l0.take m) w0 0] 1 24 (.sl 0 0 p none p 1) [.imm .own 1 (l0.take m)]=some (.sl 0 0 (p+1) none (p+1) 1,[.arr 1 (out ++ [.imm .own 1 (l0.take m)]) true 0,.arr 1 (l0.take m) w0 0])):RT pol 33 (sub [1,1,0,1,0,0] B33) (env33 (.imm .arg 1 rw) (.imm .lit 1 []) (.sl 0 0 p none p 1) (.i (i:Int)) y5) [.arr 1 out true 0] .normal (env33 (.imm .arg 1 rw) (.imm .lit 1 []) (.sl 0 0 (p+1) none (p+1) 1) (.i (IntKind.i64.wrap ((i:Int)+1))) (.sl 1 0 0 none 0 1)) [.arr 1 (out ++ [.imm .own 1 (l0.take m)]) true 0,.arr 1 (l0.take m) w0 0] :=
  RunsTo.hin 0 60 [⟨3,3,.bool true,[.arr 1 out true 0]⟩,⟨3,6,.bool true,[.arr 1 out true 0]⟩,⟨6,4,.vptr (.imm .arg 1 l0),[.arr 1 out true 0,.arr 1 [] true 0]⟩,⟨6,8,.vptr (.imm .arg 1 l1),[.arr 1 out true 0,.arr 1 [] true 0]⟩,⟨6,12,.imm .arg 1 (l0.take m),[.arr 1 out true 0,.arr 1 [] true 0]⟩,⟨6,13,.sl 1 0 ((l0.take m).length) none ((l0.take m).length) 1,[.arr 1 out true 0,.arr 1 (l0.take m) true 0]⟩,⟨6,14,.imm .lit 1 [.imm .own 1 (l0.take m)],[.arr 1 out true 0,.arr 1 (l0.take m) w0 0]⟩,⟨6,15,.sl 0 0 (p+1) none (p+1) 1,[.arr 1 (out ++ [.imm .own 1 (l0.take m)]) true 0,.arr 1 (l0.take m) w0 0]⟩] fun kf hk=>⟨_,by kernel_rfl,(oB [.arr 1 out true 0] (decide_eq_true g0) (oB [.arr 1 out true 0] (decide_eq_true g1) (oP [.arr 1 out true 0,.arr 1 [] true 0] g2 (oP [.arr 1 out true 0,.arr 1 [] true 0] g3 (oP [.arr 1 out true 0,.arr 1 [] true 0] g4 (oC (g5) (oC (g6) (oC (g7) .nil))))))))⟩
theorem tb_d_1 (rw:List HV) (p:Nat) (out:List HV) (i m:Nat) {y5:HV}(g0:(i:Int) < (rw.length:Int)) (g1:¬ ((i:Int) ≤ 60)):RT pol 33 (sub [1,1,0,1,0,0] B33) (env33 (.imm .arg 1 rw) (.imm .lit 1 []) (.sl 0 0 p none p 1) (.i (i:Int)) y5) [.arr 1 out true 0] (.exit 0) (env33 (.imm .arg 1 rw) (.imm .lit 1 []) (.sl 0 0 p none p 1) (.i (i:Int)) y5) [.arr 1 out true 0] :=
  RunsTo.hin 0 60 [⟨3,3,.bool true,[.arr 1 out true 0]⟩,⟨3,6,.bool false,[.arr 1 out true 0]⟩] fun kf hk=>⟨_,by kernel_rfl,(oB [.arr 1 out true 0] (decide_eq_true g0) (oB [.arr 1 out true 0] (decide_eq_false g1) .nil))⟩
theorem tb_d_2 (rw:List HV) (p:Nat) (out:List HV) (i m:Nat) {y5:HV}(g0:¬ ((i:Int) < (rw.length:Int))):RT pol 33 (sub [1,1,0,1,0,0] B33) (env33 (.imm .arg 1 rw) (.imm .lit 1 []) (.sl 0 0 p none p 1) (.i (i:Int)) y5) [.arr 1 out true 0] (.exit 0) (env33 (.imm .arg 1 rw) (.imm .lit 1 []) (.sl 0 0 p none p 1) (.i (i:Int)) y5) [.arr 1 out true 0] :=
  RunsTo.hin 0 60 [⟨3,3,.bool false,[.arr 1 out true 0]⟩] fun kf hk=>⟨_,by kernel_rfl,(oB [.arr 1 out true 0] (decide_eq_false g0) .nil)⟩
theorem tb_e_0 (rw:List HV) (p:Nat) (out:List HV) (i:Nat) {y5:HV}:RT pol 33 (sub [1,1,1] B33) (env33 (.imm .arg 1 rw) (.imm .lit 1 []) (.sl 0 0 p none p 1) (.i (i:Int)) y5) [.arr 1 out true 0] .ret (env33 (.imm .arg 1 rw) (.sl 0 0 p none p 1) (.sl 0 0 p none p 1) (.i (i:Int)) y5) [.arr 1 out true 0] :=
  RunsTo.hin 0 60 [] fun kf hk=>⟨_,by kernel_rfl,.nil⟩
end Go.Proofs.Ytaibmipamkaljaa
end
section
open Go Go.HL
namespace Go.Proofs.Ytaibmipamkaljaa
open Go.Proofs.Try renaming prog → Tp
open Go.HL.HV renaming undef → Ud
def tabT (R:List (List Int)):List (List Int):=(R.take 61).map fun r=>r.take 3
def table33:List HV → Option HV:=rwF fun R=>some (.own 1 ((tabT R).map encO))
theorem res33:Try.f33.results.toList=[.tmp 2]:=by kernel_rfl
abbrev tbE (R:List (List Int)) (p i:Nat) (v5:HV):Env:=(env33 (.imm .arg 1 (R.map encR)) (.imm .lit 1 []) (.sl 0 0 p none p 1) (.int .i64 (i:Int)) v5)
abbrev bO3 (R:List (List Int)):Blk:=.arr 1 (R.map encO) true 0
theorem tb_out {R:List (List Int)}:∀ k i (out:List (List Int)),i+k=(R.take 61).length → out.length=i →
    ∃ i',RT pol 33 (sub [1,1,0,1,0] B33) (tbE R out.length i Ud) [bO3 out] (.exit 0) (tbE R (out ++ ((R.take 61).drop i).map fun r=>r.take 3).length i' Ud) [bO3 (out ++ ((R.take 61).drop i).map fun r=>r.take 3)]:=by
  intro k
  induction k with
  | zero =>
    intro i out hi ho
    rw [List.length_take] at hi
    rw [List.drop_of_length_le (by rw [List.length_take]; omega),List.map_nil,List.append_nil]
    by_cases h:i < R.length
    · have s:=tb_d_1 (R.map encR) out.length (out.map encO) i 0 (y5:=Ud) (by rw [List.length_map]; omega) (by omega)
      exact ⟨i,lpo (s) (c:=sub [1,1,0,1,0] B33)⟩
    · have s:=tb_d_2 (R.map encR) out.length (out.map encO) i 0 (y5:=Ud) (by rw [List.length_map]; omega)
      exact ⟨i,lpo (s) (c:=sub [1,1,0,1,0] B33)⟩
  | succ k ih =>
    intro i out hi ho
    have hi2:=hi
    rw [List.length_take] at hi2
    have hil:i < R.length:=by omega
    have hd:(R.take 61).drop i=R.getD i [] :: (R.take 61).drop (i+1):=by
      rw [List.drop_eq_getElem_cons (by omega)]
      simp [List.getD,List.getElem?_eq_getElem hil,List.getElem_take]
    have hmin:min (((R.getD i []).map encI).length:Int) 3=((min (R.getD i []).length 3:Nat):Int):=by rw [List.length_map]; omega
    have hw:((R.getD i []).map encI).take (min (R.getD i []).length 3)=((R.getD i []).take 3).map encI:=by rw [← List.map_take,take_min]
    have g4:sliceV Tp 22 (.imm .arg 1 ((R.getD i []).map encI)) none (some (.int .i64 (min (((R.getD i []).map encI).length:Int) 3))) none=some (.imm .arg 1 (((R.getD i []).map encI).take (min (R.getD i []).length 3))):=by
      rw [hmin]; exact slice_imm (by rw [List.length_map]; omega)
    have g5:appV [bO3 out,.arr 1 [] true 0] 1 8 (.sl 1 0 0 none 0 1) (((R.getD i []).take 3).map encI)=some (.sl 1 0 (((R.getD i []).take 3).map encI).length none (((R.getD i []).take 3).map encI).length 1,[bO3 out,.arr 1 (((R.getD i []).take 3).map encI) true 0]):=by
      by_cases h0:(R.getD i []).take 3=[]
      · rw [h0]; rfl
      · have hlen:((R.getD i []).take 3).length ≤ 3:=by rw [List.length_take]; omega
        have:=app_ints (H:=[bO3 out,bI []]) (b:=1) (o:=[]) (xs:=(R.getD i []).take 3) rfl (by simp; omega) h0
        rw [List.nil_append] at this
        rw [List.length_map]
        exact this
    obtain ⟨w,lt⟩:=lit_seal' (P:=Tp) (H:=[bO3 out,.arr 1 (((R.getD i []).take 3).map encI) true 0]) (t:=35) (e:=22) (k:=1) (b:=1) (p:=(((R.getD i []).take 3).map encI).length) (mx:=0) (bt:=24) (zv:=.imm .lit 0 []) (els:=((R.getD i []).take 3).map encI) u35 (by kernel_rfl) (by kernel_rfl) (by kernel_rfl) rfl rfl (ints_res _)
    have ap:=app_O (H:=[bO3 out,.arr 1 (((R.getD i []).take 3).map encI) w 0]) (b:=0) (R:=out) rfl (by omega) ((R.getD i []).take 3)
    have s:=tb_d_0 (R.map encR) out.length (out.map encO) i (min (R.getD i []).length 3) (y5:=Ud) (w0:=w) (by rw [List.length_map]; omega) (by omega) (gr hil) (gr hil) g4 (by rw [hw]; exact g5) (by rw [hw]; exact lt) (by rw [hw]; exact ap.trans (by simp only [List.map_append]; rfl))
    rw [hw,wrap_succ (by omega)] at s
    obtain ⟨i',nx⟩:=ih (i+1) (out ++ [(R.getD i []).take 3]) (by omega) (by simp; omega)
    have hgc:gc [bO3 out].length (bndE (tbE R (out.length+1) (i+1) Ud)) [.arr 1 (out.map encO ++ [.imm .own 1 (((R.getD i []).take 3).map encI)]) true 0,.arr 1 (((R.getD i []).take 3).map encI) w 0]=[bO3 (out ++ [(R.getD i []).take 3])]:=by
      have h1:bndE (tbE R (out.length+1) (i+1) Ud) ≤ 1:=by simp only [bndE,bnd]; decide
      unfold gc
      have h3:max [bO3 out].length (max (bndE (tbE R (out.length+1) (i+1) Ud)) (mxs [.arr 1 (out.map encO ++ [.imm .own 1 (((R.getD i []).take 3).map encI)]) true 0,.arr 1 (((R.getD i []).take 3).map encI) w 0]))=1:=by
        have:mxs [.arr 1 (out.map encO ++ [.imm .own 1 (((R.getD i []).take 3).map encI)]) true 0,.arr 1 (((R.getD i []).take 3).map encI) w 0]=0:=rfl
        rw [this]; simp only [List.length_cons,List.length_nil]; omega
      rw [h3]
      simp only [bO3,List.map_append]
      rfl
    refine ⟨i',?_⟩
    rw [hd,List.map_cons,List.append_cons]
    rw [List.length_append,List.length_singleton] at nx
    exact lop (s) hgc (nx)
theorem table_ok:PrimOk Tp 33 table33:=by
  refine primOk_pure (pol:=pol) (fn:=Try.f33) (cd:=B33) follows_mixed sound (by kernel_rfl) (by kernel_rfl) (fnok pol.prim _ _ (by kernel_rfl)) (by kernel_rfl) ?_
  intro args res h
  obtain ⟨R,rfl,hq⟩:=rwF_inv h
  clear h
  cases hq
  have a:=tb_a_0 (R.map encR)
  have b:=tb_b_0 (R.map encR) (y3:=Ud) (y4:=Ud) (y5:=Ud)
  have c:=tb_c_0 (R.map encR) 0 [] (y4:=Ud) (y5:=Ud)
  obtain ⟨i',lp⟩:=tb_out (R:=R) (R.take 61).length 0 [] (by omega) rfl
  rw [List.drop_zero,List.nil_append] at lp
  have z:=tb_e_0 (R.map encR) (tabT R).length ((tabT R).map encO) i' (y5:=Ud)
  have u:=sq (a) (sq (b) (sq (sq (c) (bke (c:=sub [1,1,0,1] B33) (lp)) (c:=sub [1,1,0] B33)) (z) (c:=sub [1,1] B33)) (c:=sub [1] B33)) (c:=B33)
  exact ⟨_,_,_,.sl 0 0 (tabT R).length none (tabT R).length 1,u,by simp,by simp only [resultsV,res33]; rfl,res_rs rfl rfl⟩
end Go.Proofs.Ytaibmipamkaljaa
end
section
open Go Go.HL
namespace Go.Proofs.Ytaibmipamkaljaa
set_option maxRecDepth 100000
open Go.Proofs.Try renaming prog → Tp
open Go.HL.HV renaming undef → Ud
noncomputable def B35:Code:=Try.f35.body.getD .skip
abbrev env35 (v0 v2 v3 v4:HV):Env:=[(0,v0),(2,v2),(3,v3),(4,v4)]
theorem gr_y_0 (l:List HV)(g0:¬ ((l.length:Int) < 1)) (g1:2 < (l.length:Int)):RT pol 35 (sub [] B35) [(0,.imm .arg 1 l)] [] .ret (env35 (.imm .arg 1 l) (.bool false) Ud Ud) [] :=
  RunsTo.hin 0 60 [⟨1,2,.bool false,[]⟩,⟨1,6,.bool true,[]⟩] fun kf hk=>⟨_,by kernel_rfl,(oB [] (decide_eq_false g0) (oB [] (decide_eq_true g1) .nil))⟩
theorem gr_z_0 :RT pol 35 (sub [] B35) [(0,.imm .arg 1 [])] [] .ret (env35 (.imm .arg 1 []) (.bool false) Ud Ud) [] :=
  RunsTo.hin 0 60 [] fun kf hk=>⟨_,by kernel_rfl,.nil⟩
theorem gr_a_0 (a:Int)(g0:a < 2):RT pol 35 (sub [] B35) [(0,.imm .arg 1 [.i a])] [] .ret (env35 (.imm .arg 1 [.i a]) (.bool false) (.i 1) (.i 0)) [] :=
  RunsTo.hin 0 60 [⟨7,4,.bool true,[]⟩] fun kf hk=>⟨_,by kernel_rfl,(oB [] (decide_eq_true g0) .nil)⟩
theorem gr_a_1 (a:Int)(g0:¬ (a < 2)) (g1:24 < a):RT pol 35 (sub [] B35) [(0,.imm .arg 1 [.i a])] [] .ret (env35 (.imm .arg 1 [.i a]) (.bool false) (.i 1) (.i 0)) [] :=
  RunsTo.hin 0 60 [⟨7,4,.bool false,[]⟩,⟨7,10,.bool true,[]⟩] fun kf hk=>⟨_,by kernel_rfl,(oB [] (decide_eq_false g0) (oB [] (decide_eq_true g1) .nil))⟩
theorem gr_a_3 (a:Int)(g0:¬ (a < 2)) (g1:¬ (24 < a)) (g2:binV Tp .rem 3 (.i a) (.i a)=some (.i ((a:Int).tmod a))) (g3:(a:Int).tmod a=0) (g4:IntKind.i64.wrap (1 * a) ≤ 144):RT pol 35 (sub [] B35) [(0,.imm .arg 1 [.i a])] [] .ret (env35 (.imm .arg 1 [.i a]) (.bool true) (.i (IntKind.i64.wrap (1 * a))) (.i 1)) [] :=
  RunsTo.hin 0 60 [⟨7,4,.bool false,[]⟩,⟨7,10,.bool false,[]⟩,⟨7,20,.i ((a:Int).tmod a),[]⟩,⟨7,21,.bool false,[]⟩,⟨10,1,.bool true,[]⟩] fun kf hk=>⟨_,by kernel_rfl,(oB [] (decide_eq_false g0) (oB [] (decide_eq_false g1) (oP [] g2 (oB [] (congrArg not (decide_eq_true g3)) (oB [] (decide_eq_true g4) .nil)))))⟩
theorem gr_b_0 (a b:Int)(g0:a < 2):RT pol 35 (sub [] B35) [(0,.imm .arg 1 [.i a,.i b])] [] .ret (env35 (.imm .arg 1 [.i a,.i b]) (.bool false) (.i 1) (.i 0)) [] :=
  RunsTo.hin 0 60 [⟨7,4,.bool true,[]⟩] fun kf hk=>⟨_,by kernel_rfl,(oB [] (decide_eq_true g0) .nil)⟩
theorem gr_b_1 (a b:Int)(g0:¬ (a < 2)) (g1:24 < a):RT pol 35 (sub [] B35) [(0,.imm .arg 1 [.i a,.i b])] [] .ret (env35 (.imm .arg 1 [.i a,.i b]) (.bool false) (.i 1) (.i 0)) [] :=
  RunsTo.hin 0 60 [⟨7,4,.bool false,[]⟩,⟨7,10,.bool true,[]⟩] fun kf hk=>⟨_,by kernel_rfl,(oB [] (decide_eq_false g0) (oB [] (decide_eq_true g1) .nil))⟩
theorem gr_b_3 (a b:Int)(g0:¬ (a < 2)) (g1:¬ (24 < a)) (g2:binV Tp .rem 3 (.i a) (.i a)=some (.i ((a:Int).tmod a))) (g3:(a:Int).tmod a=0) (g4:b < 2):RT pol 35 (sub [] B35) [(0,.imm .arg 1 [.i a,.i b])] [] .ret (env35 (.imm .arg 1 [.i a,.i b]) (.bool false) (.i (IntKind.i64.wrap (1 * a))) (.i 1)) [] :=
  RunsTo.hin 0 60 [⟨7,4,.bool false,[]⟩,⟨7,10,.bool false,[]⟩,⟨7,20,.i ((a:Int).tmod a),[]⟩,⟨7,21,.bool false,[]⟩,⟨7,4,.bool true,[]⟩] fun kf hk=>⟨_,by kernel_rfl,(oB [] (decide_eq_false g0) (oB [] (decide_eq_false g1) (oP [] g2 (oB [] (congrArg not (decide_eq_true g3)) (oB [] (decide_eq_true g4) .nil)))))⟩
theorem gr_b_4 (a b:Int)(g0:¬ (a < 2)) (g1:¬ (24 < a)) (g2:binV Tp .rem 3 (.i a) (.i a)=some (.i ((a:Int).tmod a))) (g3:(a:Int).tmod a=0) (g4:¬ (b < 2)) (g5:24 < b):RT pol 35 (sub [] B35) [(0,.imm .arg 1 [.i a,.i b])] [] .ret (env35 (.imm .arg 1 [.i a,.i b]) (.bool false) (.i (IntKind.i64.wrap (1 * a))) (.i 1)) [] :=
  RunsTo.hin 0 60 [⟨7,4,.bool false,[]⟩,⟨7,10,.bool false,[]⟩,⟨7,20,.i ((a:Int).tmod a),[]⟩,⟨7,21,.bool false,[]⟩,⟨7,4,.bool false,[]⟩,⟨7,10,.bool true,[]⟩] fun kf hk=>⟨_,by kernel_rfl,(oB [] (decide_eq_false g0) (oB [] (decide_eq_false g1) (oP [] g2 (oB [] (congrArg not (decide_eq_true g3)) (oB [] (decide_eq_false g4) (oB [] (decide_eq_true g5) .nil))))))⟩
theorem gr_b_5 (a b:Int)(g0:¬ (a < 2)) (g1:¬ (24 < a)) (g2:binV Tp .rem 3 (.i a) (.i a)=some (.i ((a:Int).tmod a))) (g3:(a:Int).tmod a=0) (g4:¬ (b < 2)) (g5:¬ (24 < b)) (g6:binV Tp .rem 3 (.i b) (.i a)=some (.i ((b:Int).tmod a))) (g7:¬ ((b:Int).tmod a=0)):RT pol 35 (sub [] B35) [(0,.imm .arg 1 [.i a,.i b])] [] .ret (env35 (.imm .arg 1 [.i a,.i b]) (.bool false) (.i (IntKind.i64.wrap (1 * a))) (.i 1)) [] :=
  RunsTo.hin 0 60 [⟨7,4,.bool false,[]⟩,⟨7,10,.bool false,[]⟩,⟨7,20,.i ((a:Int).tmod a),[]⟩,⟨7,21,.bool false,[]⟩,⟨7,4,.bool false,[]⟩,⟨7,10,.bool false,[]⟩,⟨7,20,.i ((b:Int).tmod a),[]⟩,⟨7,21,.bool true,[]⟩] fun kf hk=>⟨_,by kernel_rfl,(oB [] (decide_eq_false g0) (oB [] (decide_eq_false g1) (oP [] g2 (oB [] (congrArg not (decide_eq_true g3)) (oB [] (decide_eq_false g4) (oB [] (decide_eq_false g5) (oP [] g6 (oB [] (congrArg not (decide_eq_false g7)) .nil))))))))⟩
theorem gr_b_6 (a b:Int)(g0:¬ (a < 2)) (g1:¬ (24 < a)) (g2:binV Tp .rem 3 (.i a) (.i a)=some (.i ((a:Int).tmod a))) (g3:(a:Int).tmod a=0) (g4:¬ (b < 2)) (g5:¬ (24 < b)) (g6:binV Tp .rem 3 (.i b) (.i a)=some (.i ((b:Int).tmod a))) (g7:(b:Int).tmod a=0) (g8:IntKind.i64.wrap (IntKind.i64.wrap (1 * a) * b) ≤ 144):RT pol 35 (sub [] B35) [(0,.imm .arg 1 [.i a,.i b])] [] .ret (env35 (.imm .arg 1 [.i a,.i b]) (.bool true) (.i (IntKind.i64.wrap (IntKind.i64.wrap (1 * a) * b))) (.i 2)) [] :=
  RunsTo.hin 0 60 [⟨7,4,.bool false,[]⟩,⟨7,10,.bool false,[]⟩,⟨7,20,.i ((a:Int).tmod a),[]⟩,⟨7,21,.bool false,[]⟩,⟨7,4,.bool false,[]⟩,⟨7,10,.bool false,[]⟩,⟨7,20,.i ((b:Int).tmod a),[]⟩,⟨7,21,.bool false,[]⟩,⟨10,1,.bool true,[]⟩] fun kf hk=>⟨_,by kernel_rfl,(oB [] (decide_eq_false g0) (oB [] (decide_eq_false g1) (oP [] g2 (oB [] (congrArg not (decide_eq_true g3)) (oB [] (decide_eq_false g4) (oB [] (decide_eq_false g5) (oP [] g6 (oB [] (congrArg not (decide_eq_true g7)) (oB [] (decide_eq_true g8) .nil)))))))))⟩
theorem gr_b_7 (a b:Int)(g0:¬ (a < 2)) (g1:¬ (24 < a)) (g2:binV Tp .rem 3 (.i a) (.i a)=some (.i ((a:Int).tmod a))) (g3:(a:Int).tmod a=0) (g4:¬ (b < 2)) (g5:¬ (24 < b)) (g6:binV Tp .rem 3 (.i b) (.i a)=some (.i ((b:Int).tmod a))) (g7:(b:Int).tmod a=0) (g8:¬ (IntKind.i64.wrap (IntKind.i64.wrap (1 * a) * b) ≤ 144)):RT pol 35 (sub [] B35) [(0,.imm .arg 1 [.i a,.i b])] [] .ret (env35 (.imm .arg 1 [.i a,.i b]) (.bool false) (.i (IntKind.i64.wrap (IntKind.i64.wrap (1 * a) * b))) (.i 2)) [] :=
  RunsTo.hin 0 60 [⟨7,4,.bool false,[]⟩,⟨7,10,.bool false,[]⟩,⟨7,20,.i ((a:Int).tmod a),[]⟩,⟨7,21,.bool false,[]⟩,⟨7,4,.bool false,[]⟩,⟨7,10,.bool false,[]⟩,⟨7,20,.i ((b:Int).tmod a),[]⟩,⟨7,21,.bool false,[]⟩,⟨10,1,.bool false,[]⟩] fun kf hk=>⟨_,by kernel_rfl,(oB [] (decide_eq_false g0) (oB [] (decide_eq_false g1) (oP [] g2 (oB [] (congrArg not (decide_eq_true g3)) (oB [] (decide_eq_false g4) (oB [] (decide_eq_false g5) (oP [] g6 (oB [] (congrArg not (decide_eq_true g7)) (oB [] (decide_eq_false g8) .nil)))))))))⟩
end Go.Proofs.Ytaibmipamkaljaa
end
section
open Go Go.HL
namespace Go.Proofs.Ytaibmipamkaljaa
open Go.Proofs.Try renaming prog → Tp
open Go.HL.HV renaming undef → Ud
def group35:List HV → Option HV:=liF fun l=>some (.bool (newGroupT l).2)
theorem res35:Try.f35.results.toList=[.tmp 2]:=by kernel_rfl
theorem group35_ok:PrimOk Tp 35 group35:=by
  refine primOk_pure (pol:=pol) (fn:=Try.f35) (cd:=B35) follows_mixed sound (by kernel_rfl) (by kernel_rfl) (fnok pol.prim _ _ (by kernel_rfl)) (by kernel_rfl) ?_
  intro args res h
  obtain ⟨l,rfl,hq⟩:=liF_inv h
  clear h
  cases hq
  match l with
  | []=>exact ⟨_,_,_,.bool false,gr_z_0,by simp,by simp only [resultsV,res35]; rfl,rfl⟩
  | [a] =>
    have ta:¬ a < 2 → a.tmod a=0:=fun _=>Int.tmod_self ..
    by_cases c:a < 2
    · refine ⟨_,_,_,.bool false,gr_a_0 a c,by simp,by simp only [resultsV,res35]; rfl,?_⟩
      simp only [newGroupT,in_f (show ¬ (2 ≤ a∧a ≤ 24) by omega),Bool.false_eq_true,if_false]; rfl
    · by_cases d:24 < a
      · refine ⟨_,_,_,.bool false,gr_a_1 a c d,by simp,by simp only [resultsV,res35]; rfl,?_⟩
        simp only [newGroupT,in_f (show ¬ (2 ≤ a∧a ≤ 24) by omega),Bool.false_eq_true,if_false]; rfl
      · refine ⟨_,_,_,.bool true,gr_a_3 a c d (rem3 (by omega)) (ta c) (by rw [Int.one_mul,wrap_id (by omega) (by omega)]; omega),by simp,by simp only [resultsV,res35]; rfl,?_⟩
        simp only [newGroupT,in_t (show 2 ≤ a∧a ≤ 24 by omega),if_true]; rfl
  | [a,b] =>
    have ta:¬ a < 2 → a.tmod a=0:=fun _=>Int.tmod_self ..
    have out:¬ (2 ≤ a∧a ≤ 24) ∨ ¬ (2 ≤ b∧b ≤ 24) → (newGroupT [a,b]).2=false:=by
      rintro (h | h)
      · simp only [newGroupT,in_f h,Bool.false_and,Bool.false_eq_true,if_false]
      · simp only [newGroupT,in_f h,Bool.and_false,Bool.false_eq_true,if_false]
    by_cases c:a < 2
    · refine ⟨_,_,_,.bool false,gr_b_0 a b c,by simp,by simp only [resultsV,res35]; rfl,?_⟩
      rw [out (.inl (by omega))]; rfl
    · by_cases d:24 < a
      · refine ⟨_,_,_,.bool false,gr_b_1 a b c d,by simp,by simp only [resultsV,res35]; rfl,?_⟩
        rw [out (.inl (by omega))]; rfl
      · by_cases c2:b < 2
        · refine ⟨_,_,_,.bool false,gr_b_3 a b c d (rem3 (by omega)) (ta c) c2,by simp,by simp only [resultsV,res35]; rfl,?_⟩
          rw [out (.inr (by omega))]; rfl
        · by_cases d2:24 < b
          · refine ⟨_,_,_,.bool false,gr_b_4 a b c d (rem3 (by omega)) (ta c) c2 d2,by simp,by simp only [resultsV,res35]; rfl,?_⟩
            rw [out (.inr (by omega))]; rfl
          · have hm:0 ≤ a * b∧a * b ≤ 24 * 24:=⟨Int.mul_nonneg (by omega) (by omega),Int.mul_le_mul (by omega) (by omega) (by omega) (by omega)⟩
            have w:IntKind.i64.wrap (IntKind.i64.wrap (1 * a) * b)=a * b:=by rw [Int.one_mul,wrap_id (n:=a) (by omega) (by omega)]; exact wrap_id (by omega) (by omega)
            have tb:b.tmod a=b % a:=Int.tmod_eq_emod_of_nonneg (by omega)
            have e:(newGroupT [a,b]).2=(decide (a * b ≤ 144) && decide (b % a=0)):=by
              simp only [newGroupT,in_t (show 2 ≤ a∧a ≤ 24 by omega),in_t (show 2 ≤ b∧b ≤ 24 by omega),Bool.and_self,if_true]
            by_cases f:b % a=0
            · by_cases g:a * b ≤ 144
              · refine ⟨_,_,_,.bool true,gr_b_6 a b c d (rem3 (by omega)) (ta c) c2 d2 (rem3 (by omega)) (by rw [tb]; exact f) (by rw [w]; exact g),by simp,by simp only [resultsV,res35]; rfl,?_⟩
                rw [e,decide_eq_true f,decide_eq_true g]; rfl
              · refine ⟨_,_,_,.bool false,gr_b_7 a b c d (rem3 (by omega)) (ta c) c2 d2 (rem3 (by omega)) (by rw [tb]; exact f) (by rw [w]; exact g),by simp,by simp only [resultsV,res35]; rfl,?_⟩
                rw [e,decide_eq_false g,Bool.false_and]; rfl
            · refine ⟨_,_,_,.bool false,gr_b_5 a b c d (rem3 (by omega)) (ta c) c2 d2 (rem3 (by omega)) (by rw [tb]; exact f),by simp,by simp only [resultsV,res35]; rfl,?_⟩
              rw [e,decide_eq_false f,Bool.and_false]; rfl
  | a :: b :: c :: l =>
    exact ⟨_,_,_,.bool false,gr_y_0 ((a :: b :: c :: l).map encI) (by simp only [List.length_map,List.length_cons]; omega) (by simp only [List.length_map,List.length_cons]; omega),by simp,by simp only [resultsV,res35]; rfl,rfl⟩
end Go.Proofs.Ytaibmipamkaljaa
end
section
open Go Go.HL
namespace Go.Proofs.Ytaibmipamkaljaa
open Go.Proofs.Try renaming prog → Tp
open Go.HL.HV renaming undef → Ud
def polAw:Pol:={ pol with shared:=fun g=>sharedT.contains g || g == 54,prim:=fun g=>if g == 49 then some reached49 else if g == 59 then some add59 else none }
set_option maxRecDepth 100000 in
theorem fns_okAw:(Tp.funcs.toList.zipIdx.all fun p=>fnOk { pol with shared:=fun g=>sharedT.contains g || g == 54 } p.2 p.1)=true:=by kernel_rfl
theorem sound_primC (F:FuncId → Option (List HV → Option HV)) (hF:∀ g f,F g=some f → PrimOk Tp g f) (n:Nat):CallSound Tp (callN Tp { pol with shared:=fun g=>sharedT.contains g || g == 54,prim:=F } n) :=
  callN_ok follows_mixed (fun g fn h=>by
    have:=fnOk_prim (pol:={ pol with shared:=fun g=>sharedT.contains g || g == 54 }) (F:=F) g fn
    rw [this]
    exact List.all_eq_true.1 fns_okAw (fn,g) (by
      rw [List.mem_zipIdx_iff_getElem?]
      simpa using h)) hF n
theorem soundAw (n:Nat):CallSound Tp (callN Tp polAw n):=sound_primC _ (fun g f h=>by
  split at h
  · rename_i hg; cases h; rw [eq_of_beq hg]; exact reached_ok
  split at h
  · rename_i hg; cases h; rw [eq_of_beq hg]; exact add_ok
  · cases h) n
set_option maxRecDepth 100000 in
theorem awake_run:callN Tp polAw 400 16 [] []=some (.bool true,[]):=by kernel_rfl
end Go.Proofs.Ytaibmipamkaljaa
end
section
open Go Go.HL
namespace Go.Proofs.Ytaibmipamkaljaa
open Go.Proofs.Try renaming prog → Tp
open Go.HL.HV renaming undef → Ud
theorem awake_prim:PrimOk Tp 16 awakeF:=by
  refine primOk_of (pol:=polAw) soundAw (by kernel_rfl) fun args res h=>?_
  match args,h with
  | [],h =>
    cases h
    exact ⟨400,_,_,false,awake_run,rfl⟩
theorem awake_at {pol':Pol} (hp:pol'.prim 16=some awakeF) (H:Heap):∀ k,callN Tp pol' (k+1) 16 [] H=some (.bool true,H):=fun k=>by
  rw [prim_call (pol:=pol') (g:=16) (F:=awakeF) hp (rs:=[]) rfl (res:=.bool true) rfl]; rfl
def argI (H:Heap) (v:HV) (l:List Int):Prop:=toArg H 6 v=some (.imm .arg 1 (l.map encI))
theorem zero_at {pol':Pol} (hp:pol'.prim 26=some zero26) {l:List Int} {R:List (List Int)} {v1 v2:HV} {H:Heap} (h1:argI H v1 l) (h2:toArg H 6 v2=some (.imm .arg 1 (R.map encR))) (hR:R.length ≤ 1000) :
    ∀ k,callN Tp pol' (k+1) 26 [v1,v2] H=some (.tuple [.sl H.length 0 (zeroT l R).1.length none (zeroT l R).1.length 1,.int .i64 (zeroT l R).2],H ++ [bI (zeroT l R).1]):=fun k=>by
  have hd:mapO decI (l.map encI)=some l:=mapO_map decI_enc l
  have hd2:mapO decR (R.map encR)=some R:=mapO_map decR_enc R
  unfold argI at h1
  rw [prim_call (pol:=pol') (g:=26) (F:=zero26) hp (rs:=[.imm .arg 1 (l.map encI),.imm .arg 1 (R.map encR)]) (by simp only [mapO,h1,h2]) (res:=.tuple [.own 1 ((zeroT l R).1.map encI),.int .i64 (zeroT l R).2]) (by simp only [zero26,hd,hd2]; rw [if_pos hR]),recv_li1]
end Go.Proofs.Ytaibmipamkaljaa
end
section
open Go Go.HL
namespace Go.Proofs.Ytaibmipamkaljaa
open Go.Proofs.Try renaming prog → Tp
open Go.HL.HV renaming undef → Ud
theorem ints_at {pol':Pol} (hp:pol'.prim 17=some ints17) {a b:List Int} {v1 v2:HV} {H:Heap} (h1:argI H v1 a) (h2:argI H v2 b) (hl:a.length ≤ 1000) :
    ∀ k,callN Tp pol' (k+1) 17 [v1,v2] H=some (.bool (decide (a=b)),H):=fun k=>by
  have hd:mapO decI (a.map encI)=some a:=mapO_map decI_enc a
  have hd2:mapO decI (b.map encI)=some b:=mapO_map decI_enc b
  unfold argI at h1 h2
  rw [prim_call (pol:=pol') (g:=17) (F:=ints17) hp (rs:=[.imm .arg 1 (a.map encI),.imm .arg 1 (b.map encI)]) (by simp only [mapO,h1,h2]) (res:=.bool (decide (a=b))) (by simp only [ints17,llF,hd,hd2]; rw [if_pos hl])]
  rfl
end Go.Proofs.Ytaibmipamkaljaa
end
section
open Go Go.HL
namespace Go.Proofs.Ytaibmipamkaljaa
set_option maxRecDepth 100000
open Go.Proofs.Try renaming prog → Tp
open Go.HL.HV renaming undef → Ud
noncomputable def B37:Code:=Try.f37.body.getD .skip
abbrev env37 (v0 v1 v2 v3 v8 v9 v10 v11 v12 v13 v14 v15 v16 v17 v18 v19 v20:HV):Env:=[(0,v0),(1,v1),(2,v2),(3,v3),(8,v8),(9,v9),(10,v10),(11,v11),(12,v12),(13,v13),(14,v14),(15,v15),(16,v16),(17,v17),(18,v18),(19,v19),(20,v20)]
theorem rf_a_0 (l rw lx:List HV) (ls:Int) :RT polTc 37 (sub [0] B37) [(0,.imm .arg 1 l),(1,.imm .arg 1 rw),(2,.imm .arg 1 lx),(3,.i ls)] [] .normal (env37 (.imm .arg 1 l) (.imm .arg 1 rw) (.imm .arg 1 lx) (.i ls) (.imm .lit 1 []) (.bool false) Ud Ud Ud Ud Ud Ud Ud Ud Ud Ud Ud) [] :=
  RunsTo.hin 0 60 [] fun kf hk=>⟨_,by kernel_rfl,.nil⟩
theorem rf_b_0 (l rw lx:List HV) (ls:Int)  {y10 y11 y12 y13 y14 y15 y16 y17 y18 y19 y20:HV}:RT polTc 37 (sub [1,0] B37) (env37 (.imm .arg 1 l) (.imm .arg 1 rw) (.imm .arg 1 lx) (.i ls) (.imm .lit 1 []) (.bool false) y10 y11 y12 y13 y14 y15 y16 y17 y18 y19 y20) [] .normal (env37 (.imm .arg 1 l) (.imm .arg 1 rw) (.imm .arg 1 lx) (.i ls) (.imm .lit 1 []) (.bool false) (.i (rw.length:Int)) y11 y12 y13 y14 y15 y16 y17 y18 y19 y20) [] :=
  RunsTo.hin 0 60 [] fun kf hk=>⟨_,by kernel_rfl,.nil⟩
theorem rf_c_0 (l rw lx:List HV) (ls:Int) (m0 m:Nat) {y11 y12 y13 y14 y15 y16 y17 y18 y19 y20:HV}(g0:makeV Tp false 35 (.i (IntKind.i64.wrap ((m0:Int)+1))) (.i (IntKind.i64.wrap ((m0:Int)+1))) []=some (.sl 0 0 m (some m) m 1,[.arr 1 (List.replicate m (.imm .lit 0 [])) true 0])):RT polTc 37 (sub [1,1,0] B37) (env37 (.imm .arg 1 l) (.imm .arg 1 rw) (.imm .arg 1 lx) (.i ls) (.imm .lit 1 []) (.bool false) (.i (m0:Int)) y11 y12 y13 y14 y15 y16 y17 y18 y19 y20) [] .normal (env37 (.imm .arg 1 l) (.imm .arg 1 rw) (.imm .arg 1 lx) (.i ls) (.imm .lit 1 []) (.bool false) (.i (m0:Int)) (.sl 0 0 m (some m) m 1) y12 y13 y14 y15 y16 y17 y18 y19 y20) [.arr 1 (List.replicate m (.imm .lit 0 [])) true 0] :=
  RunsTo.hin 0 60 [⟨2,2,.sl 0 0 m (some m) m 1,[.arr 1 (List.replicate m (.imm .lit 0 [])) true 0]⟩] fun kf hk=>⟨_,by kernel_rfl,(oC (g0) .nil)⟩
theorem rf_d_0 (l rw lx:List HV) (ls:Int) (m0 m:Nat) (H:Heap) {y12 y13 y14 y15 y16 y17 y18 y19 y20:HV}:RT polTc 37 (sub [1,1,1,0,0] B37) (env37 (.imm .arg 1 l) (.imm .arg 1 rw) (.imm .arg 1 lx) (.i ls) (.imm .lit 1 []) (.bool false) (.i (m0:Int)) (.sl 0 0 m (some m) m 1) y12 y13 y14 y15 y16 y17 y18 y19 y20) H .normal (env37 (.imm .arg 1 l) (.imm .arg 1 rw) (.imm .arg 1 lx) (.i ls) (.imm .lit 1 []) (.bool false) (.i (m0:Int)) (.sl 0 0 m (some m) m 1) (.i (m0:Int)) y13 y14 y15 y16 y17 y18 y19 y20) H :=
  RunsTo.hin 0 60 [] fun kf hk=>⟨_,by kernel_rfl,.nil⟩
theorem rf_e_0 (l rw lx:List HV) (ls:Int) (m0 m:Nat) (H:Heap) (i:Int) {y13 y14 y15 y16 y17 y18 y19 y20:HV}(g0:0 ≤ i):RT polTc 37 (sub [1,1,1,0,1,0,0,0] B37) (env37 (.imm .arg 1 l) (.imm .arg 1 rw) (.imm .arg 1 lx) (.i ls) (.imm .lit 1 []) (.bool false) (.i (m0:Int)) (.sl 0 0 m (some m) m 1) (.i i) y13 y14 y15 y16 y17 y18 y19 y20) H .normal (env37 (.imm .arg 1 l) (.imm .arg 1 rw) (.imm .arg 1 lx) (.i ls) (.imm .lit 1 []) (.bool false) (.i (m0:Int)) (.sl 0 0 m (some m) m 1) (.i i) y13 y14 y15 y16 y17 y18 y19 y20) H :=
  RunsTo.hin 0 60 [⟨4,1,.bool true,H⟩] fun kf hk=>⟨_,by kernel_rfl,(oB H (decide_eq_true g0) .nil)⟩
theorem rf_e_1 (l rw lx:List HV) (ls:Int) (m0 m:Nat) (H:Heap) (i:Int) {y13 y14 y15 y16 y17 y18 y19 y20:HV}(g0:¬ (0 ≤ i)):RT polTc 37 (sub [1,1,1,0,1,0,0,0] B37) (env37 (.imm .arg 1 l) (.imm .arg 1 rw) (.imm .arg 1 lx) (.i ls) (.imm .lit 1 []) (.bool false) (.i (m0:Int)) (.sl 0 0 m (some m) m 1) (.i i) y13 y14 y15 y16 y17 y18 y19 y20) H (.exit 0) (env37 (.imm .arg 1 l) (.imm .arg 1 rw) (.imm .arg 1 lx) (.i ls) (.imm .lit 1 []) (.bool false) (.i (m0:Int)) (.sl 0 0 m (some m) m 1) (.i i) y13 y14 y15 y16 y17 y18 y19 y20) H :=
  RunsTo.hin 0 60 [⟨4,1,.bool false,H⟩] fun kf hk=>⟨_,by kernel_rfl,(oB H (decide_eq_false g0) .nil)⟩
theorem rf_f_0 (l rw lx:List HV) (ls:Int) (m0 m:Nat) (H:Heap) (i:Nat) (q:Nat) {y13 y14 y15 y16 y17 y18 y19 y20:HV} {H0:Heap} (g0:∀ kf,callN Tp polTc (kf+1) 40 [.imm .arg 1 l] H=some (.i (q:Int),H)) (g1:makeV Tp false 22 (.i (q:Int)) (.i (q:Int)) H=some (.sl 1 0 q (some q) q 1,H0)):RT polTc 37 (sub [1,1,1,0,1,0,0,1,0,0,0] B37) (env37 (.imm .arg 1 l) (.imm .arg 1 rw) (.imm .arg 1 lx) (.i ls) (.imm .lit 1 []) (.bool false) (.i (m0:Int)) (.sl 0 0 m (some m) m 1) (.i (i:Int)) y13 y14 y15 y16 y17 y18 y19 y20) H .normal (env37 (.imm .arg 1 l) (.imm .arg 1 rw) (.imm .arg 1 lx) (.i ls) (.imm .lit 1 []) (.bool false) (.i (m0:Int)) (.sl 0 0 m (some m) m 1) (.i (i:Int)) (.sl 1 0 q (some q) q 1) y14 y15 y16 y17 y18 y19 y20) H0 :=
  RunsTo.hin 0 60 [⟨6,1,.i (q:Int),H⟩,⟨6,2,.sl 1 0 q (some q) q 1,H0⟩] fun kf hk=>⟨_,by kernel_rfl,(oC (g0 kf) (oC (g1) .nil))⟩
theorem rf_g_0 (l rw lx:List HV) (ls:Int) (m0 m:Nat) (H:Heap) (i:Nat) (q:Nat) {y14 y15 y16 y17 y18 y19 y20:HV}:RT polTc 37 (sub [1,1,1,0,1,0,0,1,0,0,1,0,0] B37) (env37 (.imm .arg 1 l) (.imm .arg 1 rw) (.imm .arg 1 lx) (.i ls) (.imm .lit 1 []) (.bool false) (.i (m0:Int)) (.sl 0 0 m (some m) m 1) (.i (i:Int)) (.sl 1 0 q (some q) q 1) y14 y15 y16 y17 y18 y19 y20) H .normal (env37 (.imm .arg 1 l) (.imm .arg 1 rw) (.imm .arg 1 lx) (.i ls) (.imm .lit 1 []) (.bool false) (.i (m0:Int)) (.sl 0 0 m (some m) m 1) (.i (i:Int)) (.sl 1 0 q (some q) q 1) (.i 0) y15 y16 y17 y18 y19 y20) H :=
  RunsTo.hin 0 60 [] fun kf hk=>⟨_,by kernel_rfl,.nil⟩
theorem rf_h_0 (l rw lx:List HV) (ls:Int) (m0 m:Nat) (H:Heap) (i:Nat) (q:Nat) (c:Nat) {y15 y16 y17 y18 y19 y20:HV} {H0:Heap} {v0:HV} {a0:HV} {x0:Int} {v1:HV} {l0:List HV} {rt0:Int} {a1:HV} {x1:Int} {H1:Heap} (g0:(c:Int) < (q:Int)) (g1:idxV Tp 22 (.sl 1 0 q (some q) q 1) (.i (c:Int))=some (.ptr 1 c 0 q)) (g2:storeV Tp H 3 (.ptr 1 c 0 q) (.i 1099511627776)=some H0) (g3:(i:Int) < (m0:Int)) (g4:idxV Tp 35 (.sl 0 0 m (some m) m 1) (.i (IntKind.i64.wrap ((i:Int)+1)))=some (.ptr 0 ((IntKind.i64.wrap ((i:Int)+1)).toNat) 0 m)) (g5:loadV Tp H0 22 (.ptr 0 ((IntKind.i64.wrap ((i:Int)+1)).toNat) 0 m)=some (v0)) (g6:idxV Tp 22 v0 (.i (c:Int))=some (a0)) (g7:loadV Tp H0 3 (a0)=some (.i x0)) (g8:idxV Tp 35 (.sl 0 0 m (some m) m 1) (.i (IntKind.i64.wrap ((i:Int)+1)))=some (.ptr 0 ((IntKind.i64.wrap ((i:Int)+1)).toNat) 0 m)) (g9:loadV Tp H0 22 (.ptr 0 ((IntKind.i64.wrap ((i:Int)+1)).toNat) 0 m)=some (v1)) (g10:idxV Tp 35 (.imm .arg 1 rw) (.i (i:Int))=some (.vptr (.imm .arg 1 l0))) (g11:∀ kf,callN Tp polTc (kf+1) 60 [.imm .arg 1 l,.i (c:Int),.imm .arg 1 l0] H0=some (.i rt0,H0)) (g12:idxV Tp 22 v1 (.i rt0)=some (a1)) (g13:loadV Tp H0 3 (a1)=some (.i x1)) (g14:idxV Tp 22 (.sl 1 0 q (some q) q 1) (.i (c:Int))=some (.ptr 1 c 0 q)) (g15:storeV Tp H0 3 (.ptr 1 c 0 q) (.i (min x0 (IntKind.i64.wrap (1+x1))))=some H1) (gS12:(recL ((loadV Tp H0 22 (.ptr 0 ((IntKind.i64.wrap ((i:Int)+1)).toNat) 0 m)).map (fun v=>(v,(H0:Heap)))) ((loadV Tp H0 22 (.ptr 0 ((IntKind.i64.wrap ((i:Int)+1)).toNat) 0 m)).map (fun v=>(v,(H0:Heap)))) H0 H0 && (recL ((loadV Tp H0 3 (a0)).map (fun v=>(v,(H0:Heap)))) ((loadV Tp H0 3 (a0)).map (fun v=>(v,(H0:Heap)))) H0 H0 && (recL ((loadV Tp H0 22 (.ptr 0 ((IntKind.i64.wrap ((i:Int)+1)).toNat) 0 m)).map (fun v=>(v,(H0:Heap)))) ((loadV Tp H0 22 (.ptr 0 ((IntKind.i64.wrap ((i:Int)+1)).toNat) 0 m)).map (fun v=>(v,(H0:Heap)))) H0 H0 && true)))=true):RT polTc 37 (sub [1,1,1,0,1,0,0,1,0,0,1,0,1,0,0] B37) (env37 (.imm .arg 1 l) (.imm .arg 1 rw) (.imm .arg 1 lx) (.i ls) (.imm .lit 1 []) (.bool false) (.i (m0:Int)) (.sl 0 0 m (some m) m 1) (.i (i:Int)) (.sl 1 0 q (some q) q 1) (.i (c:Int)) y15 y16 y17 y18 y19 y20) H .normal (env37 (.imm .arg 1 l) (.imm .arg 1 rw) (.imm .arg 1 lx) (.i ls) (.imm .lit 1 []) (.bool false) (.i (m0:Int)) (.sl 0 0 m (some m) m 1) (.i (i:Int)) (.sl 1 0 q (some q) q 1) (.i (IntKind.i64.wrap ((c:Int)+1))) y15 y16 y17 y18 y19 y20) H1 :=
  RunsTo.hin 0 60 [⟨8,3,.bool true,H⟩,⟨10,2,.ptr 1 c 0 q,H⟩,⟨10,3,.tuple [],H0⟩,⟨11,2,.bool true,H0⟩,⟨12,5,.ptr 0 ((IntKind.i64.wrap ((i:Int)+1)).toNat) 0 m,H0⟩,⟨12,6,v0,H0⟩,⟨12,8,a0,H0⟩,⟨12,9,.i x0,H0⟩,⟨12,13,.ptr 0 ((IntKind.i64.wrap ((i:Int)+1)).toNat) 0 m,H0⟩,⟨12,14,v1,H0⟩,⟨12,19,.vptr (.imm .arg 1 l0),H0⟩,⟨12,21,.i rt0,H0⟩,⟨12,22,a1,H0⟩,⟨12,23,.i x1,H0⟩,⟨12,26,.ptr 1 c 0 q,H0⟩,⟨12,27,.tuple [],H1⟩] fun kf hk=>⟨_,by kernel_rfl,(oB H (decide_eq_true g0) (oP H g1 (oS g2 (oB H0 (decide_eq_true g3) (oC (gS12) (oP H0 g4 (oP H0 g5 (oP H0 g6 (oP H0 g7 (oP H0 g8 (oP H0 g9 (oP H0 g10 (oC (g11 kf) (oP H0 g12 (oP H0 g13 (oP H0 g14 (oS g15 .nil)))))))))))))))))⟩
theorem rf_h_1 (l rw lx:List HV) (ls:Int) (m0 m:Nat) (H:Heap) (i:Nat) (q:Nat) (c:Nat) {y15 y16 y17 y18 y19 y20:HV} {H0:Heap} {H1:Heap} (g0:(c:Int) < (q:Int)) (g1:idxV Tp 22 (.sl 1 0 q (some q) q 1) (.i (c:Int))=some (.ptr 1 c 0 q)) (g2:storeV Tp H 3 (.ptr 1 c 0 q) (.i 1099511627776)=some H0) (g3:¬ ((i:Int) < (m0:Int))) (g4:(c:Int)=0) (g5:idxV Tp 22 (.sl 1 0 q (some q) q 1) (.i (c:Int))=some (.ptr 1 c 0 q)) (g6:storeV Tp H0 3 (.ptr 1 c 0 q) (.i 0)=some H1):RT polTc 37 (sub [1,1,1,0,1,0,0,1,0,0,1,0,1,0,0] B37) (env37 (.imm .arg 1 l) (.imm .arg 1 rw) (.imm .arg 1 lx) (.i ls) (.imm .lit 1 []) (.bool false) (.i (m0:Int)) (.sl 0 0 m (some m) m 1) (.i (i:Int)) (.sl 1 0 q (some q) q 1) (.i (c:Int)) y15 y16 y17 y18 y19 y20) H .normal (env37 (.imm .arg 1 l) (.imm .arg 1 rw) (.imm .arg 1 lx) (.i ls) (.imm .lit 1 []) (.bool false) (.i (m0:Int)) (.sl 0 0 m (some m) m 1) (.i (i:Int)) (.sl 1 0 q (some q) q 1) (.i (IntKind.i64.wrap ((c:Int)+1))) y15 y16 y17 y18 y19 y20) H1 :=
  RunsTo.hin 0 60 [⟨8,3,.bool true,H⟩,⟨10,2,.ptr 1 c 0 q,H⟩,⟨10,3,.tuple [],H0⟩,⟨11,2,.bool false,H0⟩,⟨13,1,.bool true,H0⟩,⟨14,2,.ptr 1 c 0 q,H0⟩,⟨14,3,.tuple [],H1⟩] fun kf hk=>⟨_,by kernel_rfl,(oB H (decide_eq_true g0) (oP H g1 (oS g2 (oB H0 (decide_eq_false g3) (oB H0 (decide_eq_true g4) (oP H0 g5 (oS g6 .nil)))))))⟩
theorem rf_h_2 (l rw lx:List HV) (ls:Int) (m0 m:Nat) (H:Heap) (i:Nat) (q:Nat) (c:Nat) {y15 y16 y17 y18 y19 y20:HV} {H0:Heap} (g0:(c:Int) < (q:Int)) (g1:idxV Tp 22 (.sl 1 0 q (some q) q 1) (.i (c:Int))=some (.ptr 1 c 0 q)) (g2:storeV Tp H 3 (.ptr 1 c 0 q) (.i 1099511627776)=some H0) (g3:¬ ((i:Int) < (m0:Int))) (g4:¬ ((c:Int)=0)):RT polTc 37 (sub [1,1,1,0,1,0,0,1,0,0,1,0,1,0,0] B37) (env37 (.imm .arg 1 l) (.imm .arg 1 rw) (.imm .arg 1 lx) (.i ls) (.imm .lit 1 []) (.bool false) (.i (m0:Int)) (.sl 0 0 m (some m) m 1) (.i (i:Int)) (.sl 1 0 q (some q) q 1) (.i (c:Int)) y15 y16 y17 y18 y19 y20) H .normal (env37 (.imm .arg 1 l) (.imm .arg 1 rw) (.imm .arg 1 lx) (.i ls) (.imm .lit 1 []) (.bool false) (.i (m0:Int)) (.sl 0 0 m (some m) m 1) (.i (i:Int)) (.sl 1 0 q (some q) q 1) (.i (IntKind.i64.wrap ((c:Int)+1))) y15 y16 y17 y18 y19 y20) H0 :=
  RunsTo.hin 0 60 [⟨8,3,.bool true,H⟩,⟨10,2,.ptr 1 c 0 q,H⟩,⟨10,3,.tuple [],H0⟩,⟨11,2,.bool false,H0⟩,⟨13,1,.bool false,H0⟩] fun kf hk=>⟨_,by kernel_rfl,(oB H (decide_eq_true g0) (oP H g1 (oS g2 (oB H0 (decide_eq_false g3) (oB H0 (decide_eq_false g4) .nil)))))⟩
theorem rf_h_3 (l rw lx:List HV) (ls:Int) (m0 m:Nat) (H:Heap) (i:Nat) (q:Nat) (c:Nat) {y15 y16 y17 y18 y19 y20:HV}(g0:¬ ((c:Int) < (q:Int))):RT polTc 37 (sub [1,1,1,0,1,0,0,1,0,0,1,0,1,0,0] B37) (env37 (.imm .arg 1 l) (.imm .arg 1 rw) (.imm .arg 1 lx) (.i ls) (.imm .lit 1 []) (.bool false) (.i (m0:Int)) (.sl 0 0 m (some m) m 1) (.i (i:Int)) (.sl 1 0 q (some q) q 1) (.i (c:Int)) y15 y16 y17 y18 y19 y20) H (.exit 2) (env37 (.imm .arg 1 l) (.imm .arg 1 rw) (.imm .arg 1 lx) (.i ls) (.imm .lit 1 []) (.bool false) (.i (m0:Int)) (.sl 0 0 m (some m) m 1) (.i (i:Int)) (.sl 1 0 q (some q) q 1) (.i (c:Int)) y15 y16 y17 y18 y19 y20) H :=
  RunsTo.hin 0 60 [⟨8,3,.bool false,H⟩] fun kf hk=>⟨_,by kernel_rfl,(oB H (decide_eq_false g0) .nil)⟩
theorem rf_i_0 (l rw lx:List HV) (ls:Int) (m0 m:Nat) (H:Heap) (i:Nat) (q:Nat) {y14 y15 y16 y17 y18 y19 y20:HV} {H0:Heap} (g0:idxV Tp 35 (.sl 0 0 m (some m) m 1) (.i (i:Int))=some (.ptr 0 i 0 m)) (g1:sealSt Tp 22 (.ptr 0 i 0 m) (.sl 1 0 q (some q) q 1) H=some (.tuple [],H0)):RT polTc 37 (sub [1,1,1,0,1,0,0,1,0,0,1,1] B37) (env37 (.imm .arg 1 l) (.imm .arg 1 rw) (.imm .arg 1 lx) (.i ls) (.imm .lit 1 []) (.bool false) (.i (m0:Int)) (.sl 0 0 m (some m) m 1) (.i (i:Int)) (.sl 1 0 q (some q) q 1) y14 y15 y16 y17 y18 y19 y20) H .normal (env37 (.imm .arg 1 l) (.imm .arg 1 rw) (.imm .arg 1 lx) (.i ls) (.imm .lit 1 []) (.bool false) (.i (m0:Int)) (.sl 0 0 m (some m) m 1) (.i (i:Int)) (.sl 1 0 q (some q) q 1) y14 y15 y16 y17 y18 y19 y20) H0 :=
  RunsTo.hin 0 60 [⟨15,3,.ptr 0 i 0 m,H⟩,⟨15,4,.tuple [],H0⟩] fun kf hk=>⟨_,by kernel_rfl,(oP H g0 (oC (g1) .nil))⟩
theorem rf_j_0 (l rw lx:List HV) (ls:Int) (m0 m:Nat) (H:Heap) (i:Nat) {y13 y14 y15 y16 y17 y18 y19 y20:HV}:RT polTc 37 (sub [1,1,1,0,1,0,0,1,1] B37) (env37 (.imm .arg 1 l) (.imm .arg 1 rw) (.imm .arg 1 lx) (.i ls) (.imm .lit 1 []) (.bool false) (.i (m0:Int)) (.sl 0 0 m (some m) m 1) (.i (i:Int)) y13 y14 y15 y16 y17 y18 y19 y20) H .normal (env37 (.imm .arg 1 l) (.imm .arg 1 rw) (.imm .arg 1 lx) (.i ls) (.imm .lit 1 []) (.bool false) (.i (m0:Int)) (.sl 0 0 m (some m) m 1) (.i (IntKind.i64.wrap ((i:Int) - 1))) y13 y14 y15 y16 y17 y18 y19 y20) H :=
  RunsTo.hin 0 60 [] fun kf hk=>⟨_,by kernel_rfl,.nil⟩
theorem rf_k_0 (l rw lx:List HV) (ls:Int) (m0 m:Nat) (H:Heap) {y12 y13 y14 y15 y16 y17 y18 y19 y20:HV} {rt0:Int} (g0:∀ kf,callN Tp polTc (kf+1) 61 [.imm .arg 1 l,.imm .arg 1 lx] H=some (.i rt0,H)):RT polTc 37 (sub [1,1,1,1,0] B37) (env37 (.imm .arg 1 l) (.imm .arg 1 rw) (.imm .arg 1 lx) (.i ls) (.imm .lit 1 []) (.bool false) (.i (m0:Int)) (.sl 0 0 m (some m) m 1) y12 y13 y14 y15 y16 y17 y18 y19 y20) H .normal (env37 (.imm .arg 1 l) (.imm .arg 1 rw) (.imm .arg 1 lx) (.i ls) (.imm .lit 1 []) (.bool false) (.i (m0:Int)) (.sl 0 0 m (some m) m 1) y12 y13 y14 (.i rt0) y16 y17 y18 y19 y20) H :=
  RunsTo.hin 0 60 [⟨16,2,.i rt0,H⟩] fun kf hk=>⟨_,by kernel_rfl,(oC (g0 kf) .nil)⟩
theorem rf_l_0 (l rw lx:List HV) (ls:Int) (m0 m:Nat) (H:Heap) (w:Int) {y12 y13 y14 y16 y17 y18 y19 y20:HV}:RT polTc 37 (sub [1,1,1,1,1,0] B37) (env37 (.imm .arg 1 l) (.imm .arg 1 rw) (.imm .arg 1 lx) (.i ls) (.imm .lit 1 []) (.bool false) (.i (m0:Int)) (.sl 0 0 m (some m) m 1) y12 y13 y14 (.i w) y16 y17 y18 y19 y20) H .normal (env37 (.imm .arg 1 l) (.imm .arg 1 rw) (.imm .arg 1 lx) (.i ls) (.imm .lit 1 []) (.bool false) (.i (m0:Int)) (.sl 0 0 m (some m) m 1) y12 y13 y14 (.i w) (.i 1099511627776) y17 y18 y19 y20) H :=
  RunsTo.hin 0 60 [] fun kf hk=>⟨_,by kernel_rfl,.nil⟩
theorem rf_m_0 (l rw lx:List HV) (ls:Int) (m0 m:Nat) (H:Heap) (w bs:Int) {y12 y13 y14 y17 y18 y19 y20:HV} {v0:HV} {a0:HV} {x0:Int} (g0:ls=0) (g1:idxV Tp 35 (.sl 0 0 m (some m) m 1) (.i 0)=some (.ptr 0 0 0 m)) (g2:loadV Tp H 22 (.ptr 0 0 0 m)=some (v0)) (g3:idxV Tp 22 v0 (.i w)=some (a0)) (g4:loadV Tp H 3 (a0)=some (.i x0)):RT polTc 37 (sub [1,1,1,1,1,1,0] B37) (env37 (.imm .arg 1 l) (.imm .arg 1 rw) (.imm .arg 1 lx) (.i ls) (.imm .lit 1 []) (.bool false) (.i (m0:Int)) (.sl 0 0 m (some m) m 1) y12 y13 y14 (.i w) (.i bs) y17 y18 y19 y20) H .normal (env37 (.imm .arg 1 l) (.imm .arg 1 rw) (.imm .arg 1 lx) (.i ls) (.imm .lit 1 []) (.bool false) (.i (m0:Int)) (.sl 0 0 m (some m) m 1) y12 y13 y14 (.i w) (.i x0) y17 y18 y19 y20) H :=
  RunsTo.hin 0 60 [⟨18,1,.bool true,H⟩,⟨19,1,.ptr 0 0 0 m,H⟩,⟨19,2,v0,H⟩,⟨19,4,a0,H⟩,⟨19,5,.i x0,H⟩] fun kf hk=>⟨_,by kernel_rfl,(oB H (decide_eq_true g0) (oP H g1 (oP H g2 (oP H g3 (oP H g4 .nil)))))⟩
theorem rf_m_1 (l rw lx:List HV) (ls:Int) (m0 m:Nat) (H:Heap) (w bs:Int) {y12 y13 y14 y17 y18 y19 y20:HV}(g0:¬ (ls=0)):RT polTc 37 (sub [1,1,1,1,1,1,0] B37) (env37 (.imm .arg 1 l) (.imm .arg 1 rw) (.imm .arg 1 lx) (.i ls) (.imm .lit 1 []) (.bool false) (.i (m0:Int)) (.sl 0 0 m (some m) m 1) y12 y13 y14 (.i w) (.i bs) y17 y18 y19 y20) H .normal (env37 (.imm .arg 1 l) (.imm .arg 1 rw) (.imm .arg 1 lx) (.i ls) (.imm .lit 1 []) (.bool false) (.i (m0:Int)) (.sl 0 0 m (some m) m 1) y12 y13 y14 (.i w) (.i bs) y17 y18 y19 y20) H :=
  RunsTo.hin 0 60 [⟨18,1,.bool false,H⟩] fun kf hk=>⟨_,by kernel_rfl,(oB H (decide_eq_false g0) .nil)⟩
theorem rf_n_0 (l rw lx:List HV) (ls:Int) (m0 m:Nat) (H:Heap) (w bs:Int) {y12 y13 y14 y17 y18 y19 y20:HV}:RT polTc 37 (sub [1,1,1,1,1,1,1,0,0] B37) (env37 (.imm .arg 1 l) (.imm .arg 1 rw) (.imm .arg 1 lx) (.i ls) (.imm .lit 1 []) (.bool false) (.i (m0:Int)) (.sl 0 0 m (some m) m 1) y12 y13 y14 (.i w) (.i bs) y17 y18 y19 y20) H .normal (env37 (.imm .arg 1 l) (.imm .arg 1 rw) (.imm .arg 1 lx) (.i ls) (.imm .lit 1 []) (.bool false) (.i (m0:Int)) (.sl 0 0 m (some m) m 1) y12 y13 y14 (.i w) (.i bs) (.i 0) y18 y19 y20) H :=
  RunsTo.hin 0 60 [] fun kf hk=>⟨_,by kernel_rfl,.nil⟩
theorem rf_o_0 (l rw lx:List HV) (ls:Int) (m0 m:Nat) (H:Heap) (w bs:Int) (i:Nat) {y12 y13 y14 y18 y19 y20:HV} {v0:HV} {l0:List HV} {rt0:Int} {a0:HV} {x0:Int} (g0:(i:Int) < (m0:Int)) (g1:0 < ls) (g2:idxV Tp 35 (.sl 0 0 m (some m) m 1) (.i (IntKind.i64.wrap ((i:Int)+1)))=some (.ptr 0 ((IntKind.i64.wrap ((i:Int)+1)).toNat) 0 m)) (g3:loadV Tp H 22 (.ptr 0 ((IntKind.i64.wrap ((i:Int)+1)).toNat) 0 m)=some (v0)) (g4:idxV Tp 35 (.imm .arg 1 rw) (.i (i:Int))=some (.vptr (.imm .arg 1 l0))) (g5:∀ kf,callN Tp polTc (kf+1) 60 [.imm .arg 1 l,.i w,.imm .arg 1 l0] H=some (.i rt0,H)) (g6:idxV Tp 22 v0 (.i rt0)=some (a0)) (g7:loadV Tp H 3 (a0)=some (.i x0)) (gS23:(recL ((loadV Tp H 22 (.ptr 0 ((IntKind.i64.wrap ((i:Int)+1)).toNat) 0 m)).map (fun v=>(v,(H:Heap)))) ((loadV Tp H 22 (.ptr 0 ((IntKind.i64.wrap ((i:Int)+1)).toNat) 0 m)).map (fun v=>(v,(H:Heap)))) H H && true)=true):RT polTc 37 (sub [1,1,1,1,1,1,1,0,1,0,0] B37) (env37 (.imm .arg 1 l) (.imm .arg 1 rw) (.imm .arg 1 lx) (.i ls) (.imm .lit 1 []) (.bool false) (.i (m0:Int)) (.sl 0 0 m (some m) m 1) y12 y13 y14 (.i w) (.i bs) (.i (i:Int)) y18 y19 y20) H .normal (env37 (.imm .arg 1 l) (.imm .arg 1 rw) (.imm .arg 1 lx) (.i ls) (.imm .lit 1 []) (.bool false) (.i (m0:Int)) (.sl 0 0 m (some m) m 1) y12 y13 y14 (.i w) (.i (min bs (IntKind.i64.wrap (1+x0)))) (.i (IntKind.i64.wrap ((i:Int)+1))) y18 y19 y20) H :=
  RunsTo.hin 0 60 [⟨21,2,.bool true,H⟩,⟨21,5,.bool true,H⟩,⟨23,4,.ptr 0 ((IntKind.i64.wrap ((i:Int)+1)).toNat) 0 m,H⟩,⟨23,5,v0,H⟩,⟨23,10,.vptr (.imm .arg 1 l0),H⟩,⟨23,12,.i rt0,H⟩,⟨23,13,a0,H⟩,⟨23,14,.i x0,H⟩] fun kf hk=>⟨_,by kernel_rfl,(oB H (decide_eq_true g0) (oB H (decide_eq_true g1) (oC (gS23) (oP H g2 (oP H g3 (oP H g4 (oC (g5 kf) (oP H g6 (oP H g7 .nil)))))))))⟩
theorem rf_o_1 (l rw lx:List HV) (ls:Int) (m0 m:Nat) (H:Heap) (w bs:Int) (i:Nat) {y12 y13 y14 y18 y19 y20:HV}(g0:(i:Int) < (m0:Int)) (g1:¬ (0 < ls)):RT polTc 37 (sub [1,1,1,1,1,1,1,0,1,0,0] B37) (env37 (.imm .arg 1 l) (.imm .arg 1 rw) (.imm .arg 1 lx) (.i ls) (.imm .lit 1 []) (.bool false) (.i (m0:Int)) (.sl 0 0 m (some m) m 1) y12 y13 y14 (.i w) (.i bs) (.i (i:Int)) y18 y19 y20) H (.exit 4) (env37 (.imm .arg 1 l) (.imm .arg 1 rw) (.imm .arg 1 lx) (.i ls) (.imm .lit 1 []) (.bool false) (.i (m0:Int)) (.sl 0 0 m (some m) m 1) y12 y13 y14 (.i w) (.i bs) (.i (i:Int)) y18 y19 y20) H :=
  RunsTo.hin 0 60 [⟨21,2,.bool true,H⟩,⟨21,5,.bool false,H⟩] fun kf hk=>⟨_,by kernel_rfl,(oB H (decide_eq_true g0) (oB H (decide_eq_false g1) .nil))⟩
theorem rf_o_2 (l rw lx:List HV) (ls:Int) (m0 m:Nat) (H:Heap) (w bs:Int) (i:Nat) {y12 y13 y14 y18 y19 y20:HV}(g0:¬ ((i:Int) < (m0:Int))):RT polTc 37 (sub [1,1,1,1,1,1,1,0,1,0,0] B37) (env37 (.imm .arg 1 l) (.imm .arg 1 rw) (.imm .arg 1 lx) (.i ls) (.imm .lit 1 []) (.bool false) (.i (m0:Int)) (.sl 0 0 m (some m) m 1) y12 y13 y14 (.i w) (.i bs) (.i (i:Int)) y18 y19 y20) H (.exit 4) (env37 (.imm .arg 1 l) (.imm .arg 1 rw) (.imm .arg 1 lx) (.i ls) (.imm .lit 1 []) (.bool false) (.i (m0:Int)) (.sl 0 0 m (some m) m 1) y12 y13 y14 (.i w) (.i bs) (.i (i:Int)) y18 y19 y20) H :=
  RunsTo.hin 0 60 [⟨21,2,.bool false,H⟩] fun kf hk=>⟨_,by kernel_rfl,(oB H (decide_eq_false g0) .nil)⟩
theorem rf_p_0 (l rw lx:List HV) (ls:Int) (m0 m:Nat) (H:Heap) (w bs:Int) {y12 y13 y14 y17 y18 y19 y20:HV}(g0:1099511627776 ≤ bs):RT polTc 37 (sub [1,1,1,1,1,1,1,1,0] B37) (env37 (.imm .arg 1 l) (.imm .arg 1 rw) (.imm .arg 1 lx) (.i ls) (.imm .lit 1 []) (.bool false) (.i (m0:Int)) (.sl 0 0 m (some m) m 1) y12 y13 y14 (.i w) (.i bs) y17 y18 y19 y20) H .ret (env37 (.imm .arg 1 l) (.imm .arg 1 rw) (.imm .arg 1 lx) (.i ls) (.imm .lit 1 []) (.bool false) (.i (m0:Int)) (.sl 0 0 m (some m) m 1) y12 y13 y14 (.i w) (.i bs) y17 y18 y19 y20) H :=
  RunsTo.hin 0 60 [⟨24,1,.bool true,H⟩] fun kf hk=>⟨_,by kernel_rfl,(oB H (decide_eq_true g0) .nil)⟩
theorem rf_p_1 (l rw lx:List HV) (ls:Int) (m0 m:Nat) (H:Heap) (w bs:Int) {y12 y13 y14 y17 y18 y19 y20:HV}(g0:¬ (1099511627776 ≤ bs)):RT polTc 37 (sub [1,1,1,1,1,1,1,1,0] B37) (env37 (.imm .arg 1 l) (.imm .arg 1 rw) (.imm .arg 1 lx) (.i ls) (.imm .lit 1 []) (.bool false) (.i (m0:Int)) (.sl 0 0 m (some m) m 1) y12 y13 y14 (.i w) (.i bs) y17 y18 y19 y20) H .normal (env37 (.imm .arg 1 l) (.imm .arg 1 rw) (.imm .arg 1 lx) (.i ls) (.imm .lit 1 []) (.bool false) (.i (m0:Int)) (.sl 0 0 m (some m) m 1) y12 y13 y14 (.i w) (.i bs) y17 y18 y19 y20) H :=
  RunsTo.hin 0 60 [⟨24,1,.bool false,H⟩] fun kf hk=>⟨_,by kernel_rfl,(oB H (decide_eq_false g0) .nil)⟩
theorem rf_q_0 (l rw lx:List HV) (ls:Int) (m0 m:Nat) (H:Heap) (w bs:Int) {y12 y13 y14 y17 y18 y19 y20:HV} {H0:Heap} (g0:some (HV.sl H.length 0 0 none 0 1,H ++ [Blk.arr 1 [] true 0])=some (.sl 1 0 0 none 0 1,H0)):RT polTc 37 (sub [1,1,1,1,1,1,1,1,1,0] B37) (env37 (.imm .arg 1 l) (.imm .arg 1 rw) (.imm .arg 1 lx) (.i ls) (.imm .lit 1 []) (.bool false) (.i (m0:Int)) (.sl 0 0 m (some m) m 1) y12 y13 y14 (.i w) (.i bs) y17 y18 y19 y20) H .normal (env37 (.imm .arg 1 l) (.imm .arg 1 rw) (.imm .arg 1 lx) (.i ls) (.imm .lit 1 []) (.bool false) (.i (m0:Int)) (.sl 0 0 m (some m) m 1) y12 y13 y14 (.i w) (.i bs) y17 (.sl 1 0 0 none 0 1) y19 y20) H0 :=
  RunsTo.hin 0 60 [⟨26,0,.sl 1 0 0 none 0 1,H0⟩] fun kf hk=>⟨_,by kernel_rfl,(oC (g0) .nil)⟩
theorem rf_r_0 (l rw lx:List HV) (ls:Int) (m0 m:Nat) (H:Heap) (w bs:Int) (z:Nat) {y12 y13 y14 y17 y19 y20:HV}:RT polTc 37 (sub [1,1,1,1,1,1,1,1,1,1,0,0] B37) (env37 (.imm .arg 1 l) (.imm .arg 1 rw) (.imm .arg 1 lx) (.i ls) (.imm .lit 1 []) (.bool false) (.i (m0:Int)) (.sl 0 0 m (some m) m 1) y12 y13 y14 (.i w) (.i bs) y17 (.sl 1 0 z none z 1) y19 y20) H .normal (env37 (.imm .arg 1 l) (.imm .arg 1 rw) (.imm .arg 1 lx) (.i ls) (.imm .lit 1 []) (.bool false) (.i (m0:Int)) (.sl 0 0 m (some m) m 1) y12 y13 y14 (.i w) (.i bs) y17 (.sl 1 0 z none z 1) (.i 0) y20) H :=
  RunsTo.hin 0 60 [] fun kf hk=>⟨_,by kernel_rfl,.nil⟩
theorem rf_s_0 (l rw lx:List HV) (ls:Int) (m0 m:Nat) (H:Heap) (w bs:Int) (z j:Nat) {y12 y13 y14 y17 y20:HV} {l0:List HV} {rt0:Int} {v0:HV} {a0:HV} {x0:Int} {H0:Heap} (g0:(j:Int) < (m0:Int)) (g1:(z:Int) < bs) (g2:idxV Tp 35 (.imm .arg 1 rw) (.i (j:Int))=some (.vptr (.imm .arg 1 l0))) (g3:∀ kf,callN Tp polTc (kf+1) 60 [.imm .arg 1 l,.i w,.imm .arg 1 l0] H=some (.i rt0,H)) (g4:idxV Tp 35 (.sl 0 0 m (some m) m 1) (.i (IntKind.i64.wrap ((j:Int)+1)))=some (.ptr 0 ((IntKind.i64.wrap ((j:Int)+1)).toNat) 0 m)) (g5:loadV Tp H 22 (.ptr 0 ((IntKind.i64.wrap ((j:Int)+1)).toNat) 0 m)=some (v0)) (g6:idxV Tp 22 v0 (.i rt0)=some (a0)) (g7:loadV Tp H 3 (a0)=some (.i x0)) (g8:IntKind.i64.wrap (1+x0)=IntKind.i64.wrap (bs - (z:Int))) (g9:appV H 1 8 (.sl 1 0 z none z 1) [.i (j:Int)]=some (.sl 1 0 (z+1) none (z+1) 1,H0)):RT polTc 37 (sub [1,1,1,1,1,1,1,1,1,1,0,1,0,0] B37) (env37 (.imm .arg 1 l) (.imm .arg 1 rw) (.imm .arg 1 lx) (.i ls) (.imm .lit 1 []) (.bool false) (.i (m0:Int)) (.sl 0 0 m (some m) m 1) y12 y13 y14 (.i w) (.i bs) y17 (.sl 1 0 z none z 1) (.i (j:Int)) y20) H .normal (env37 (.imm .arg 1 l) (.imm .arg 1 rw) (.imm .arg 1 lx) (.i ls) (.imm .lit 1 []) (.bool false) (.i (m0:Int)) (.sl 0 0 m (some m) m 1) y12 y13 y14 (.i rt0) (.i bs) y17 (.sl 1 0 (z+1) none (z+1) 1) (.i (IntKind.i64.wrap ((j:Int)+1))) (.i rt0)) H0 :=
  RunsTo.hin 0 60 [⟨28,2,.bool true,H⟩,⟨28,7,.bool true,H⟩,⟨30,4,.vptr (.imm .arg 1 l0),H⟩,⟨30,6,.i rt0,H⟩,⟨31,3,.ptr 0 ((IntKind.i64.wrap ((j:Int)+1)).toNat) 0 m,H⟩,⟨31,4,v0,H⟩,⟨31,6,a0,H⟩,⟨31,7,.i x0,H⟩,⟨31,13,.bool true,H⟩,⟨32,3,.sl 1 0 (z+1) none (z+1) 1,H0⟩] fun kf hk=>⟨_,by kernel_rfl,(oB H (decide_eq_true g0) (oB H (decide_eq_true g1) (oP H g2 (oC (g3 kf) (oP H g4 (oP H g5 (oP H g6 (oP H g7 (oB H (decide_eq_true g8) (oC (g9) .nil))))))))))⟩
theorem rf_s_1 (l rw lx:List HV) (ls:Int) (m0 m:Nat) (H:Heap) (w bs:Int) (z j:Nat) {y12 y13 y14 y17 y20:HV} {l0:List HV} {rt0:Int} {v0:HV} {a0:HV} {x0:Int} (g0:(j:Int) < (m0:Int)) (g1:(z:Int) < bs) (g2:idxV Tp 35 (.imm .arg 1 rw) (.i (j:Int))=some (.vptr (.imm .arg 1 l0))) (g3:∀ kf,callN Tp polTc (kf+1) 60 [.imm .arg 1 l,.i w,.imm .arg 1 l0] H=some (.i rt0,H)) (g4:idxV Tp 35 (.sl 0 0 m (some m) m 1) (.i (IntKind.i64.wrap ((j:Int)+1)))=some (.ptr 0 ((IntKind.i64.wrap ((j:Int)+1)).toNat) 0 m)) (g5:loadV Tp H 22 (.ptr 0 ((IntKind.i64.wrap ((j:Int)+1)).toNat) 0 m)=some (v0)) (g6:idxV Tp 22 v0 (.i rt0)=some (a0)) (g7:loadV Tp H 3 (a0)=some (.i x0)) (g8:¬ (IntKind.i64.wrap (1+x0)=IntKind.i64.wrap (bs - (z:Int)))):RT polTc 37 (sub [1,1,1,1,1,1,1,1,1,1,0,1,0,0] B37) (env37 (.imm .arg 1 l) (.imm .arg 1 rw) (.imm .arg 1 lx) (.i ls) (.imm .lit 1 []) (.bool false) (.i (m0:Int)) (.sl 0 0 m (some m) m 1) y12 y13 y14 (.i w) (.i bs) y17 (.sl 1 0 z none z 1) (.i (j:Int)) y20) H .normal (env37 (.imm .arg 1 l) (.imm .arg 1 rw) (.imm .arg 1 lx) (.i ls) (.imm .lit 1 []) (.bool false) (.i (m0:Int)) (.sl 0 0 m (some m) m 1) y12 y13 y14 (.i w) (.i bs) y17 (.sl 1 0 z none z 1) (.i (IntKind.i64.wrap ((j:Int)+1))) (.i rt0)) H :=
  RunsTo.hin 0 60 [⟨28,2,.bool true,H⟩,⟨28,7,.bool true,H⟩,⟨30,4,.vptr (.imm .arg 1 l0),H⟩,⟨30,6,.i rt0,H⟩,⟨31,3,.ptr 0 ((IntKind.i64.wrap ((j:Int)+1)).toNat) 0 m,H⟩,⟨31,4,v0,H⟩,⟨31,6,a0,H⟩,⟨31,7,.i x0,H⟩,⟨31,13,.bool false,H⟩] fun kf hk=>⟨_,by kernel_rfl,(oB H (decide_eq_true g0) (oB H (decide_eq_true g1) (oP H g2 (oC (g3 kf) (oP H g4 (oP H g5 (oP H g6 (oP H g7 (oB H (decide_eq_false g8) .nil)))))))))⟩
theorem rf_s_2 (l rw lx:List HV) (ls:Int) (m0 m:Nat) (H:Heap) (w bs:Int) (z j:Nat) {y12 y13 y14 y17 y20:HV}(g0:(j:Int) < (m0:Int)) (g1:¬ ((z:Int) < bs)):RT polTc 37 (sub [1,1,1,1,1,1,1,1,1,1,0,1,0,0] B37) (env37 (.imm .arg 1 l) (.imm .arg 1 rw) (.imm .arg 1 lx) (.i ls) (.imm .lit 1 []) (.bool false) (.i (m0:Int)) (.sl 0 0 m (some m) m 1) y12 y13 y14 (.i w) (.i bs) y17 (.sl 1 0 z none z 1) (.i (j:Int)) y20) H (.exit 6) (env37 (.imm .arg 1 l) (.imm .arg 1 rw) (.imm .arg 1 lx) (.i ls) (.imm .lit 1 []) (.bool false) (.i (m0:Int)) (.sl 0 0 m (some m) m 1) y12 y13 y14 (.i w) (.i bs) y17 (.sl 1 0 z none z 1) (.i (j:Int)) y20) H :=
  RunsTo.hin 0 60 [⟨28,2,.bool true,H⟩,⟨28,7,.bool false,H⟩] fun kf hk=>⟨_,by kernel_rfl,(oB H (decide_eq_true g0) (oB H (decide_eq_false g1) .nil))⟩
theorem rf_s_3 (l rw lx:List HV) (ls:Int) (m0 m:Nat) (H:Heap) (w bs:Int) (z j:Nat) {y12 y13 y14 y17 y20:HV}(g0:¬ ((j:Int) < (m0:Int))):RT polTc 37 (sub [1,1,1,1,1,1,1,1,1,1,0,1,0,0] B37) (env37 (.imm .arg 1 l) (.imm .arg 1 rw) (.imm .arg 1 lx) (.i ls) (.imm .lit 1 []) (.bool false) (.i (m0:Int)) (.sl 0 0 m (some m) m 1) y12 y13 y14 (.i w) (.i bs) y17 (.sl 1 0 z none z 1) (.i (j:Int)) y20) H (.exit 6) (env37 (.imm .arg 1 l) (.imm .arg 1 rw) (.imm .arg 1 lx) (.i ls) (.imm .lit 1 []) (.bool false) (.i (m0:Int)) (.sl 0 0 m (some m) m 1) y12 y13 y14 (.i w) (.i bs) y17 (.sl 1 0 z none z 1) (.i (j:Int)) y20) H :=
  RunsTo.hin 0 60 [⟨28,2,.bool false,H⟩] fun kf hk=>⟨_,by kernel_rfl,(oB H (decide_eq_false g0) .nil)⟩
theorem rf_t_0 (l rw lx:List HV) (ls:Int) (m0 m:Nat) (H:Heap) (w bs:Int) (z:Nat) {y12 y13 y14 y17 y19 y20:HV}:RT polTc 37 (sub [1,1,1,1,1,1,1,1,1,1,1] B37) (env37 (.imm .arg 1 l) (.imm .arg 1 rw) (.imm .arg 1 lx) (.i ls) (.imm .lit 1 []) (.bool false) (.i (m0:Int)) (.sl 0 0 m (some m) m 1) y12 y13 y14 (.i w) (.i bs) y17 (.sl 1 0 z none z 1) y19 y20) H .ret (env37 (.imm .arg 1 l) (.imm .arg 1 rw) (.imm .arg 1 lx) (.i ls) (.sl 1 0 z none z 1) (.bool true) (.i (m0:Int)) (.sl 0 0 m (some m) m 1) y12 y13 y14 (.i w) (.i bs) y17 (.sl 1 0 z none z 1) y19 y20) H :=
  RunsTo.hin 0 60 [] fun kf hk=>⟨_,by kernel_rfl,.nil⟩
end Go.Proofs.Ytaibmipamkaljaa
end
section
open Go Go.HL
namespace Go.Proofs.Ytaibmipamkaljaa
open Go.Proofs.Try renaming prog → Tp
open Go.HL.HV renaming undef → Ud
theorem info3f:(Tp.info? 3).map (fun i=>(i.size,i.bytes,i.zero.map ofConst))=some (1,8,some (.int .i64 0)):=by kernel_rfl
theorem info22f:(Tp.info? 22).map (fun i=>(i.size,i.bytes,i.zero.map ofConst))=some (1,24,some (.imm .lit 0 [])):=by kernel_rfl
def rowF (gl:List Int) (R:List (List Int)):List Int:=(List.range (sizeT gl).toNat).map fun (c:Nat)=>fT gl R (c:Int)
def rfS (gl:List Int):List (List Int) → List (List Int)
  | []=>[rowF gl []]
  | x :: s=>rowF gl (x :: s) :: rfS gl s
def rfK (gl:List Int) (R:List (List Int)) (k:Nat):List (List Int):=if k ≤ R.length then rfS gl (R.drop k) else []
theorem rfK_step {gl:List Int} {R:List (List Int)} {k:Nat} (h:k ≤ R.length):rfK gl R k=rowF gl (R.drop k) :: rfK gl R (k+1):=by
  unfold rfK
  rw [if_pos h]
  by_cases e:k=R.length
  · subst e
    rw [if_neg (by omega),List.drop_length]; rfl
  · rw [if_pos (by omega),List.drop_eq_getElem_cons (by omega)]; rfl
theorem rfK_len {gl:List Int} {R:List (List Int)}:∀ d k,k+d=R.length+1 → (rfK gl R k).length=d:=by
  intro d
  induction d with
  | zero=>intro k h; rw [rfK,if_neg (by omega)]; rfl
  | succ d ih=>intro k h; rw [rfK_step (by omega),List.length_cons,ih (k+1) (by omega)]
theorem rfK_at {gl:List Int} {R:List (List Int)}:∀ d k j,k+d=j → j ≤ R.length → (rfK gl R k)[d]?=some (rowF gl (R.drop j)):=by
  intro d
  induction d with
  | zero=>intro k j h hj; rw [rfK_step (by omega)]; simp [← h]
  | succ d ih=>intro k j h hj; rw [rfK_step (by omega),List.getElem?_cons_succ,ih (k+1) j (by omega) hj]
abbrev bNo (k:Nat) (M:List (List Int)):Blk:=.arr 1 (List.replicate k nilV ++ M.map encO) true 0
theorem same_intsL (T:List Int):sameL (T.map encI) (T.map encI)=true:=same_mapL (fun x=>by simp [encI,same]) T
theorem same_encO (r:List Int):same (encO r) (encO r)=true:=by simp only [encO,same,same_intsL,beq_self_eq_true,Bool.and_self]
theorem same_nO (k:Nat) (M:List (List Int)):sameL (List.replicate k nilV ++ M.map encO) (List.replicate k nilV ++ M.map encO)=true:=by
  induction k with
  | zero=>simp only [List.replicate_zero,List.nil_append]; exact same_mapL same_encO M
  | succ k ih=>simp only [List.replicate_succ,List.cons_append,sameL,ih]; rfl
theorem ix35n {m i:Nat} (h:i < m):idxV Tp 35 (.sl 0 0 m (some m) m 1) (.int .i64 (i:Int))=some (.ptr 0 i 0 m):=by
  have:=idx_sl (P:=Tp) (t:=35) (b:=0) (len:=m) (tot:=m) (cap:=some m) (ik:=.i64) (n:=(i:Int)) u35 z22 (by omega) (by omega)
  rwa [Int.toNat_natCast] at this
theorem ix22n {m i:Nat} (h:i < m):idxV Tp 22 (.sl 1 0 m (some m) m 1) (.int .i64 (i:Int))=some (.ptr 1 i 0 m):=by
  have:=idx_sl (P:=Tp) (t:=22) (b:=1) (len:=m) (tot:=m) (cap:=some m) (ik:=.i64) (n:=(i:Int)) u22 z3 (by omega) (by omega)
  rwa [Int.toNat_natCast] at this
theorem ixO {r:List Int} {i:Nat} (h:i < r.length):idxV Tp 22 (encO r) (.int .i64 (i:Int))=some (.vptr (.int .i64 (r.getD i 0))) :=
  idx_imm u22 z3 (by omega) (by rw [Int.toNat_natCast,List.getElem?_map,List.getElem?_eq_getElem h]; simp [List.getD,List.getElem?_eq_getElem h,encI])
theorem ldNo {k m i:Nat} {M:List (List Int)} {H:Heap} {r:List Int} (hm:k+M.length=m) (h:M[i]?=some r):loadV Tp (bNo k M :: H) 22 (.ptr 0 (k+i) 0 m)=some (encO r) :=
  load_elem (b:=0) (els:=List.replicate k nilV ++ M.map encO) rfl (by simp [hm]) (by rw [List.getElem?_append_right (by simp)]; simp [h]) rfl a22 i22
theorem stI {B:Blk} {T:List Int} {q c:Nat} (hq:T.length=q) (hc:c < q) (v:Int):storeV Tp [B,bI T] 3 (.ptr 1 c 0 q) (.int .i64 v)=some [B,bI (T.set c v)]:=by
  subst hq
  exact store_out (H:=[B,bI T]) (k:=1) rfl hc v
theorem ldvi (v:Int) (H:Heap):loadV Tp H 3 (.vptr (.int .i64 v))=some (.int .i64 v):=by
  simp only [loadV,a3,i3]; simp
theorem seal_rowO {k m q:Nat} {M:List (List Int)} {T:List Int} (hm:k+1+M.length=m) (hq:T.length=q) (h0:q ≠ 0) :
    sealSt Tp 22 (.ptr 0 k 0 m) (.sl 1 0 q (some q) q 1) [bNo (k+1) M,bI T]=some (.tuple [],[bNo k (T :: M),.arr 1 (T.map encI) false 0]):=by
  have h1:seal1 [bNo (k+1) M,bI T] (.sl 1 0 q (some q) q 1)=some (encO T,[bNo (k+1) M,.arr 1 (T.map encI) false 0]):=by
    simp only [seal1,if_neg h0,List.getElem?_cons_succ,List.getElem?_cons_zero,List.drop_zero,bI]
    rw [if_pos ⟨by simp [hq],by simp [hq],trivial,by rw [List.take_of_length_le (by simp [hq])]; exact ints_res T⟩,List.take_of_length_le (by simp [hq])]
    rfl
  have hi:(List.replicate (k+1) nilV ++ M.map encO)[k]?=some nilV:=by rw [List.getElem?_append_left (by simp),List.getElem?_replicate]; simp
  have h2:=store_elem (P:=Tp) (t:=22) (b:=0) (tot:=m) (v:=encO T) (H:=[bNo (k+1) M,.arr 1 (T.map encI) false 0]) rfl (by simp; omega) hi rfl (by intro cs h; cases h) z22 rfl rfl rfl
  simp only [sealSt,h1,h2,Option.map_some]
  rw [rep_set]
  rfl
theorem gcO (k:Nat) (M:List (List Int)) (B:List HV) (w:Bool) {r:Nat} (h:r ≤ 1):gc 1 r [bNo k M,.arr 1 B w 0]=[bNo k M]:=by
  have h3:max 1 (max r (mxs [bNo k M,.arr 1 B w 0]))=1:=by
    have:mxs [bNo k M,.arr 1 B w 0]=0:=rfl
    rw [this]; omega
  unfold gc
  rw [h3]; rfl
def FJ (gl:List Int) (s:List (List Int)) (T:List Int) (c:Nat):Prop:=T.length=(sizeT gl).toNat∧∀ j,j < c → T.getD j 0=fT gl s (j:Int)
theorem FJ.put {gl:List Int} {s:List (List Int)} {T:List Int} {c:Nat} (h:FJ gl s T c) (hc:c < (sizeT gl).toNat):FJ gl s (T.set c (fT gl s (c:Int))) (c+1):=by
  refine ⟨by rw [List.length_set]; exact h.1,fun j hj=>?_⟩
  by_cases e:j=c
  · subst e
    simp [List.getD,List.getElem?_set,h.1,hc]
  · have:=h.2 j (by omega)
    simp only [List.getD,List.getElem?_set] at this ⊢
    rw [if_neg (fun h=>e h.symm)]; exact this
theorem FJ.row {gl:List Int} {s:List (List Int)} {T:List Int} (h:FJ gl s T (sizeT gl).toNat):T=rowF gl s:=by
  apply List.ext_getElem
  · rw [h.1]; simp [rowF]
  · intro j h1 h2
    have:=h.2 j (by have:=h.1; omega)
    simp only [rowF,List.getElem_map,List.getElem_range]
    rw [← this]; simp [List.getD,List.getElem?_eq_getElem h1]
theorem rowF_at {gl:List Int} {s:List (List Int)} {c:Nat} (hc:c < (sizeT gl).toNat):(rowF gl s).length=(sizeT gl).toNat∧(rowF gl s).getD c 0=fT gl s (c:Int):=by
  refine ⟨by simp [rowF],?_⟩
  simp [rowF,List.getD,List.getElem?_map,List.getElem?_range,hc]
theorem size_at {pol':Pol} (hp:pol'.prim 40=some size40) {l:List Int} (hg:(newGroupT l).2=true) (H:Heap):∀ k,callN Tp pol' (k+1) 40 [.imm .arg 1 (l.map encI)] H=some (.int .i64 (((sizeT l).toNat:Nat):Int),H):=fun k=>by
  have hd:mapO decI (l.map encI)=some l:=mapO_map decI_enc l
  have hb:=size_bnd hg
  rw [prim_call (pol:=pol') (g:=40) (F:=size40) hp (rs:=[.imm .arg 1 (l.map encI)]) (by simp only [mapO,arg_li]) (res:=.int .i64 (sizeT l)) (by simp only [size40,liF,hd]; rw [if_pos hg]),Int.toNat_of_nonneg (by omega)]
  rfl
theorem less_at {pol':Pol} (hp:pol'.prim 60=some less60) {l x:List Int} {c:Int} (hg:(newGroupT l).2=true) (hc:0 ≤ c∧c < sizeT l) (hx:elB l x=true) (H:Heap):∀ k,callN Tp pol' (k+1) 60 [.imm .arg 1 (l.map encI),.int .i64 c,.imm .arg 1 (x.map encI)] H=some (.int .i64 (lessC l c x),H):=fun k=>by
  have hd:mapO decI (l.map encI)=some l:=mapO_map decI_enc l
  have hd2:mapO decI (x.map encI)=some x:=mapO_map decI_enc x
  have hN:toArg H 6 (.int .i64 c)=some (.int .i64 c):=rfl
  rw [prim_call (pol:=pol') (g:=60) (F:=less60) hp (rs:=[.imm .arg 1 (l.map encI),.int .i64 c,.imm .arg 1 (x.map encI)]) (by simp only [mapO,arg_li,hN]) (res:=.int .i64 (lessC l c x)) (by simp only [less60,hd,hd2]; rw [if_pos ⟨hg,hc,hx⟩]; rfl)]
  rfl
section
variable {gl:List Int} {R:List (List Int)} {xs:List Int} {ls:Int}
abbrev rfE (gl:List Int) (R:List (List Int)) (xs:List Int) (ls:Int) (v10 v11 v12 v13 v14 v15 v16 v17 v18 v19 v20:HV):Env:=(env37 (.imm .arg 1 (gl.map encI)) (.imm .arg 1 (R.map encR)) (.imm .arg 1 (xs.map encI)) (.int .i64 ls) (.imm .lit 1 []) (.bool false) v10 v11 v12 v13 v14 v15 v16 v17 v18 v19 v20)
abbrev rfI (gl:List Int) (R:List (List Int)) (xs:List Int) (ls:Int) (v12 v13 v14:HV):Env:=rfE gl R xs ls (.int .i64 (R.length:Int)) (.sl 0 0 (R.length+1) (some (R.length+1)) (R.length+1) 1) v12 v13 v14 Ud Ud Ud Ud Ud Ud
abbrev qsl (gl:List Int):HV:=.sl 1 0 (sizeT gl).toNat (some (sizeT gl).toNat) (sizeT gl).toNat 1
def okR (gl:List Int) (R:List (List Int)):Prop:=(newGroupT gl).2=true∧(∀ x ∈ R,elB gl x=true)∧R.length ≤ 900
theorem okR.el (h:okR gl R) {i:Nat} (hi:i < R.length):elB gl (R.getD i [])=true:=h.2.1 _ (by rw [List.getD,List.getElem?_eq_getElem hi]; exact List.getElem_mem hi)
theorem drop_cons {α:Type} {R:List α} {i:Nat} (a:α) (h:i < R.length):R.drop i=R.getD i a :: R.drop (i+1):=by
  rw [List.drop_eq_getElem_cons h]; simp [List.getD,List.getElem?_eq_getElem h]
theorem rf_cell (hR:okR gl R) {i:Nat} (hi:i ≤ R.length):∀ d c T,c+d=(sizeT gl).toNat → FJ gl (R.drop i) T c →
    ∃ T' y14,RT polTc 37 (sub [1,1,1,0,1,0,0,1,0,0,1,0,1,0] B37) (rfI gl R xs ls (.int .i64 (i:Int)) (qsl gl) (.int .i64 (c:Int))) [bNo (i+1) (rfK gl R (i+1)),bI T] (.exit 2)
      (rfI gl R xs ls (.int .i64 (i:Int)) (qsl gl) y14) [bNo (i+1) (rfK gl R (i+1)),bI T']∧FJ gl (R.drop i) T' (sizeT gl).toNat:=by
  obtain ⟨hg,hel,hRl⟩:=hR
  have hs:=size_bnd hg
  intro d
  induction d with
  | zero =>
    intro c T hc hT
    have s:=rf_h_3 (gl.map encI) (R.map encR) (xs.map encI) ls R.length (R.length+1) [bNo (i+1) (rfK gl R (i+1)),bI T] i (sizeT gl).toNat c (y15:=Ud) (y16:=Ud) (y17:=Ud) (y18:=Ud) (y19:=Ud) (y20:=Ud) (by omega)
    exact ⟨T,_,lpo (s),(show c=(sizeT gl).toNat by omega) ▸ hT⟩
  | succ d ih =>
    intro c T hc hT
    have hcq:c < (sizeT gl).toNat:=by omega
    have hix:=ix22n hcq
    have fin:∀ U v,T.length=U.length → (∀ j,j ≠ c → U.getD j 0=T.getD j 0) → v=fT gl (R.drop i) (c:Int) → U.getD c 0=v → RT polTc 37 (sub [1,1,1,0,1,0,0,1,0,0,1,0,1,0,0] B37) (rfI gl R xs ls (.int .i64 (i:Int)) (qsl gl) (.int .i64 (c:Int))) [bNo (i+1) (rfK gl R (i+1)),bI T] .normal
        (rfI gl R xs ls (.int .i64 (i:Int)) (qsl gl) (.int .i64 ((c+1:Nat):Int))) [bNo (i+1) (rfK gl R (i+1)),bI U] →
        ∃ T' y14,RT polTc 37 (sub [1,1,1,0,1,0,0,1,0,0,1,0,1,0] B37) (rfI gl R xs ls (.int .i64 (i:Int)) (qsl gl) (.int .i64 (c:Int))) [bNo (i+1) (rfK gl R (i+1)),bI T] (.exit 2)
          (rfI gl R xs ls (.int .i64 (i:Int)) (qsl gl) y14) [bNo (i+1) (rfK gl R (i+1)),bI T']∧FJ gl (R.drop i) T' (sizeT gl).toNat:=fun U v hU hj hv hc2 s=>by
      have hT':FJ gl (R.drop i) U (c+1):=⟨hU ▸ hT.1,fun j hj2=>by
        by_cases e:j=c
        · subst e; rw [hc2,hv]
        · rw [hj j e]; exact hT.2 j (by omega)⟩
      obtain ⟨T',y14,r',hF⟩:=ih (c+1) U (by omega) hT'
      exact ⟨T',y14,lop (s) (gc_eq _ rfl) (r'),hF⟩
    have st1:=stI (B:=bNo (i+1) (rfK gl R (i+1))) hT.1 hcq 1099511627776
    have hT1:(T.set c 1099511627776).length=(sizeT gl).toNat:=by rw [List.length_set]; exact hT.1
    have st2:∀ v,_:=fun v=>stI (B:=bNo (i+1) (rfK gl R (i+1))) hT1 hcq v
    have gS:∀ (v:Int) (j:Nat),((T.set c 1099511627776).set c v).getD j 0=if j=c then v else T.getD j 0:=fun v j=>by
      simp only [List.getD,List.getElem?_set,List.length_set]
      by_cases e:j=c
      · subst e; simp [hT.1,hcq]
      · rw [if_neg (fun h=>e h.symm),if_neg (fun h=>e h.symm),if_neg e]
    by_cases hiL:i=R.length
    · have hnil:R.drop i=[]:=by rw [hiL,List.drop_length]
      by_cases k0:c=0
      · have s:=rf_h_1 (gl.map encI) (R.map encR) (xs.map encI) ls R.length (R.length+1) [bNo (i+1) (rfK gl R (i+1)),bI T] i (sizeT gl).toNat c (y15:=Ud) (y16:=Ud) (y17:=Ud) (y18:=Ud) (y19:=Ud) (y20:=Ud) (by omega) hix st1 (by omega) (by omega) hix (st2 0)
        rw [wrap_succ (by omega)] at s
        exact fin _ 0 (by simp) (fun j hj=>by rw [gS,if_neg hj]) (by rw [hnil,fT,k0]; rfl) (by rw [gS,if_pos rfl]) s
      · have s:=rf_h_2 (gl.map encI) (R.map encR) (xs.map encI) ls R.length (R.length+1) [bNo (i+1) (rfK gl R (i+1)),bI T] i (sizeT gl).toNat c (y15:=Ud) (y16:=Ud) (y17:=Ud) (y18:=Ud) (y19:=Ud) (y20:=Ud) (by omega) hix st1 (by omega) (by omega)
        rw [wrap_succ (by omega)] at s
        exact fin _ 1099511627776 (by simp) (fun j hj=>by simp only [List.getD,List.getElem?_set,if_neg (fun h:c=j=>hj h.symm)]) (by rw [hnil,fT,if_neg (by omega)]) (by simp [List.getD,List.getElem?_set,hT.1,hcq]) s
    · have hlt:i < R.length:=by omega
      have hcons:=drop_cons ([]:List Int) hlt
      have helx:elB gl (R.getD i [])=true:=okR.el ⟨hg,hel,hRl⟩ hlt
      have hlb:=less_bnd (c:=(c:Int)) hg helx
      have hlen:=rfK_len (gl:=gl) (R:=R) (R.length - i) (i+1) (by omega)
      have hx:=ix35n (m:=R.length+1) (i:=i+1) (by omega)
      have hrow:=rfK_at (gl:=gl) (R:=R) 0 (i+1) (i+1) (by omega) (by omega)
      have hld:=ldNo (k:=i+1) (m:=R.length+1) (i:=0) (H:=[bI (T.set c 1099511627776)]) (by omega) hrow
      rw [Nat.add_zero] at hld
      have wi:=wrap_succ (j:=i) (by omega)
      obtain ⟨l1,l2⟩:=rowF_at (gl:=gl) (s:=R.drop (i+1)) hcq
      obtain ⟨_,l4⟩:=rowF_at (gl:=gl) (s:=R.drop (i+1)) (c:=(lessC gl c (R.getD i [])).toNat) (by omega)
      have hB:=ixO (r:=rowF gl (R.drop (i+1))) (i:=c) (by omega)
      have hB2:=ixO (r:=rowF gl (R.drop (i+1))) (i:=(lessC gl c (R.getD i [])).toNat) (by omega)
      rw [l2] at hB
      rw [l4,Int.toNat_of_nonneg hlb.1] at hB2
      have b1:=fT_bnd gl (R.drop (i+1)) (c:Int)
      have b2:=fT_bnd gl (R.drop (i+1)) (lessC gl c (R.getD i []))
      have cl:=less_at (pol':=polTc) (by kernel_rfl) (c:=(c:Int)) hg (by omega) helx [bNo (i+1) (rfK gl R (i+1)),bI (T.set c 1099511627776)]
      have w1:IntKind.i64.wrap (1+fT gl (R.drop (i+1)) (lessC gl c (R.getD i [])))=1+fT gl (R.drop (i+1)) (lessC gl c (R.getD i [])):=wrap_id (by omega) (by omega)
      have s:=rf_h_0 (gl.map encI) (R.map encR) (xs.map encI) ls R.length (R.length+1) [bNo (i+1) (rfK gl R (i+1)),bI T] i (sizeT gl).toNat c (y15:=Ud) (y16:=Ud) (y17:=Ud) (y18:=Ud) (y19:=Ud) (y20:=Ud) (by omega) hix st1 (by omega) (by rw [wi,Int.toNat_natCast]; exact hx) (by rw [wi,Int.toNat_natCast]; exact hld) hB (ldvi _ _) (by rw [wi,Int.toNat_natCast]; exact hx) (by rw [wi,Int.toNat_natCast]; exact hld) (gr hlt) cl hB2 (ldvi _ _) hix (by rw [w1]; exact st2 _) (by
        rw [wi,Int.toNat_natCast,hld]
        simp only [Option.map_some,recL,ldvi,same,same_encO,sameH,same_nO,same_intsL,beq_self_eq_true,Bool.and_self])
      rw [wrap_succ (by omega)] at s
      refine fin _ _ (by simp) (fun j hj=>by rw [gS,if_neg hj]) ?_ (by rw [gS,if_pos rfl]) s
      rw [hcons,fT]
theorem rf_i (hR:okR gl R):∀ k,k ≤ R.length+1 →
    ∃ y13 y14,RT polTc 37 (sub [1,1,1,0,1,0] B37) (rfI gl R xs ls (.int .i64 ((k:Int) - 1)) Ud Ud) [bNo k (rfK gl R k)] (.exit 0)
      (rfI gl R xs ls (.int .i64 (-1)) y13 y14) [bNo 0 (rfK gl R 0)]:=by
  have hR':=hR
  obtain ⟨hg,hel,hRl⟩:=hR
  have hs:=size_bnd hg
  intro k
  induction k with
  | zero =>
    intro _
    have s:=rf_e_1 (gl.map encI) (R.map encR) (xs.map encI) ls R.length (R.length+1) [bNo 0 (rfK gl R 0)] (-1) (y13:=Ud) (y14:=Ud) (y15:=Ud) (y16:=Ud) (y17:=Ud) (y18:=Ud) (y19:=Ud) (y20:=Ud) (by omega)
    exact ⟨_,_,lpo (sqo (s) (c:=sub [1,1,1,0,1,0,0] B37) (b:=sub [1,1,1,0,1,0,0,1] B37))⟩
  | succ k ih =>
    intro hk
    rw [show ((k+1:Nat):Int) - 1=(k:Int) by omega]
    have s1:=rf_e_0 (gl.map encI) (R.map encR) (xs.map encI) ls R.length (R.length+1) [bNo (k+1) (rfK gl R (k+1))] (k:Int) (y13:=Ud) (y14:=Ud) (y15:=Ud) (y16:=Ud) (y17:=Ud) (y18:=Ud) (y19:=Ud) (y20:=Ud) (by omega)
    have mk:=makeV_ok (P:=Tp) (H:=[bNo (k+1) (rfK gl R (k+1))]) (t:=22) (n:=(((sizeT gl).toNat:Nat):Int)) u22 info3f rfl rfl (by omega) (by omega) (by simp only [roomMax]; omega)
    rw [Int.toNat_natCast] at mk
    have s2:=rf_f_0 (gl.map encI) (R.map encR) (xs.map encI) ls R.length (R.length+1) [bNo (k+1) (rfK gl R (k+1))] k (sizeT gl).toNat (y13:=Ud) (y14:=Ud) (y15:=Ud) (y16:=Ud) (y17:=Ud) (y18:=Ud) (y19:=Ud) (y20:=Ud) (size_at (pol':=polTc) (by kernel_rfl) hg _) mk
    have s3:=rf_g_0 (gl.map encI) (R.map encR) (xs.map encI) ls R.length (R.length+1) ([bNo (k+1) (rfK gl R (k+1))] ++ [.arr 1 (List.replicate (sizeT gl).toNat (.int .i64 0)) true 0]) k (sizeT gl).toNat (y14:=Ud) (y15:=Ud) (y16:=Ud) (y17:=Ud) (y18:=Ud) (y19:=Ud) (y20:=Ud)
    have e0:([bNo (k+1) (rfK gl R (k+1))] ++ [.arr 1 (List.replicate (sizeT gl).toNat (.int .i64 0)) true 0]:Heap)=[bNo (k+1) (rfK gl R (k+1)),bI (List.replicate (sizeT gl).toNat 0)]:=by simp [bI,encI]
    rw [e0] at s2 s3
    obtain ⟨T1,y14,r1,hT1⟩:=rf_cell (xs:=xs) (ls:=ls) hR' (i:=k) (by omega) (sizeT gl).toNat 0 (List.replicate (sizeT gl).toNat 0) (by omega) ⟨by simp,fun j hj=>by omega⟩
    have hx:=ix35n (m:=R.length+1) (i:=k) (by omega)
    have hlen:=rfK_len (gl:=gl) (R:=R) (R.length - k) (k+1) (by omega)
    have sl:=seal_rowO (k:=k) (m:=R.length+1) (q:=(sizeT gl).toNat) (M:=rfK gl R (k+1)) (T:=T1) (by omega) hT1.1 (by omega)
    have s4:=rf_i_0 (gl.map encI) (R.map encR) (xs.map encI) ls R.length (R.length+1) [bNo (k+1) (rfK gl R (k+1)),bI T1] k (sizeT gl).toNat (y14:=y14) (y15:=Ud) (y16:=Ud) (y17:=Ud) (y18:=Ud) (y19:=Ud) (y20:=Ud) hx sl
    have s5:=rf_j_0 (gl.map encI) (R.map encR) (xs.map encI) ls R.length (R.length+1) [bNo k (T1 :: rfK gl R (k+1)),.arr 1 (T1.map encI) false 0] k (y13:=qsl gl) (y14:=y14) (y15:=Ud) (y16:=Ud) (y17:=Ud) (y18:=Ud) (y19:=Ud) (y20:=Ud)
    rw [wrap_id (by omega) (by omega)] at s5
    obtain ⟨z13,z14,r2⟩:=ih (by omega)
    rw [rfK_step (gl:=gl) (R:=R) (k:=k) (by omega),← hT1.row] at r2
    have hgc:gc [bNo (k+1) (rfK gl R (k+1))].length (bndE (rfI gl R xs ls (.int .i64 ((k:Int) - 1)) Ud Ud)) [bNo k (T1 :: rfK gl R (k+1)),.arr 1 (T1.map encI) false 0]=[bNo k (T1 :: rfK gl R (k+1))]:=gcO k _ _ false (by simp only [bndE,bnd]; decide)
    exact ⟨z13,z14,lop (sq (s1) (sq (RunsTo.block_normal (i:=1) (c:=sub [1,1,1,0,1,0,0,1,0] B37) (sq (s2) (sq (sq (s3) (bke (c:=sub [1,1,1,0,1,0,0,1,0,0,1,0,1] B37) (lpi (e0:=(rfI gl R xs ls (.int .i64 (k:Int)) (qsl gl) (.int .i64 ((0:Nat):Int)))) r1 (b:=sub [1,1,1,0,1,0,0,1,0,0,1,0,1,0,0] B37))) (c:=sub [1,1,1,0,1,0,0,1,0,0,1,0] B37)) (s4) (c:=sub [1,1,1,0,1,0,0,1,0,0,1] B37)) (c:=sub [1,1,1,0,1,0,0,1,0,0] B37)) (by kernel_rfl)) (s5) (c:=sub [1,1,1,0,1,0,0,1] B37)) (c:=sub [1,1,1,0,1,0,0] B37)) hgc (r2)⟩
abbrev rfB (gl:List Int) (R:List (List Int)) (xs:List Int) (ls:Int) (v12 v13 v14:HV) (w bs:Int) (v17 v18 v19 v20:HV):Env:=rfE gl R xs ls (.int .i64 (R.length:Int)) (.sl 0 0 (R.length+1) (some (R.length+1)) (R.length+1) 1) v12 v13 v14 (.int .i64 w) (.int .i64 bs) v17 v18 v19 v20
theorem row_ld (hR:okR gl R) (B:Heap) {i:Nat} (hi:i ≤ R.length) {w:Int} (hw:0 ≤ w∧w < sizeT gl):loadV Tp (bNo 0 (rfK gl R 0) :: B) 22 (.ptr 0 i 0 (R.length+1))=some (encO (rowF gl (R.drop i))) ∧
    idxV Tp 22 (encO (rowF gl (R.drop i))) (.int .i64 w)=some (.vptr (.int .i64 (fT gl (R.drop i) w))):=by
  have hs:=size_bnd hR.1
  have hlen:=rfK_len (gl:=gl) (R:=R) (R.length+1) 0 (by omega)
  have hrow:=rfK_at (gl:=gl) (R:=R) i 0 i (by omega) hi
  have hld:=ldNo (k:=0) (m:=R.length+1) (i:=i) (H:=B) (by omega) hrow
  rw [Nat.zero_add] at hld
  obtain ⟨l1,l2⟩:=rowF_at (gl:=gl) (s:=R.drop i) (c:=w.toNat) (by omega)
  have hB:=ixO (r:=rowF gl (R.drop i)) (i:=w.toNat) (by omega)
  rw [l2,Int.toNat_of_nonneg hw.1] at hB
  exact ⟨hld,hB⟩
theorem rf_bst (hR:okR gl R) {w:Int} (hw:0 ≤ w∧w < sizeT gl) (hls:0 < ls):∀ d i (bs:Int),i+d=R.length → (0 ≤ bs∧bs ≤ 1099511627776) →
    ∃ y17,RT polTc 37 (sub [1,1,1,1,1,1,1,0,1,0] B37) (rfB gl R xs ls Ud Ud Ud w bs (.int .i64 (i:Int)) Ud Ud Ud) [bNo 0 (rfK gl R 0)] (.exit 4)
      (rfB gl R xs ls Ud Ud Ud w (bst gl (R.drop i) w bs) y17 Ud Ud Ud) [bNo 0 (rfK gl R 0)]:=by
  have hR':=hR
  obtain ⟨hg,hel,hRl⟩:=hR
  intro d
  induction d with
  | zero =>
    intro i bs hi hb
    have s:=rf_o_2 (gl.map encI) (R.map encR) (xs.map encI) ls R.length (R.length+1) [bNo 0 (rfK gl R 0)] w bs i (y12:=Ud) (y13:=Ud) (y14:=Ud) (y18:=Ud) (y19:=Ud) (y20:=Ud) (by omega)
    rw [List.drop_of_length_le (by omega)]
    exact ⟨_,lpo (s)⟩
  | succ d ih =>
    intro i bs hi hb
    have hlt:i < R.length:=by omega
    rw [drop_cons ([]:List Int) hlt,bst]
    have helx:=hR'.el hlt
    have hlb:=less_bnd (c:=w) hg helx
    have cl:=less_at (pol':=polTc) (by kernel_rfl) (c:=w) hg hw helx [bNo 0 (rfK gl R 0)]
    obtain ⟨q1,q2⟩:=row_ld hR' [] (i:=i+1) (by omega) hlb
    have hx:=ix35n (m:=R.length+1) (i:=i+1) (by omega)
    have wi:=wrap_succ (j:=i) (by omega)
    have b2:=fT_bnd gl (R.drop (i+1)) (lessC gl w (R.getD i []))
    have w1:IntKind.i64.wrap (1+fT gl (R.drop (i+1)) (lessC gl w (R.getD i [])))=1+fT gl (R.drop (i+1)) (lessC gl w (R.getD i [])):=wrap_id (by omega) (by omega)
    have s:=rf_o_0 (gl.map encI) (R.map encR) (xs.map encI) ls R.length (R.length+1) [bNo 0 (rfK gl R 0)] w bs i (y12:=Ud) (y13:=Ud) (y14:=Ud) (y18:=Ud) (y19:=Ud) (y20:=Ud) (by omega) hls (by rw [wi,Int.toNat_natCast]; exact hx) (by rw [wi,Int.toNat_natCast]; exact q1) (gr hlt) cl q2 (ldvi _ _) (by
      rw [wi,Int.toNat_natCast,q1]
      simp only [Option.map_some,recL,same_encO,sameH,same_nO,beq_self_eq_true,Bool.and_self])
    rw [wi,w1] at s
    obtain ⟨y17,r⟩:=ih (i+1) (min bs (1+fT gl (R.drop (i+1)) (lessC gl w (R.getD i [])))) (by omega) (by omega)
    exact ⟨y17,lop (s) (gc_eq _ rfl) (r)⟩
theorem rf_q (hR:okR gl R) {best:Int} (hb:0 ≤ best∧best ≤ 1099511627776):∀ d j (w:Int) (o:List Int),j+d=R.length → (0 ≤ w∧w < sizeT gl) → o.length ≤ j →
    ∃ o' w' y19 y20,o'=o ++ (chT gl (R.drop j) j w (best - o.length)).map (fun q=>((q:Nat):Int))∧RT polTc 37 (sub [1,1,1,1,1,1,1,1,1,1,0,1,0] B37) (rfB gl R xs ls Ud Ud Ud w best Ud (.sl 1 0 o.length none o.length 1) (.int .i64 (j:Int)) Ud) [bNo 0 (rfK gl R 0),bI o] (.exit 6)
      (rfB gl R xs ls Ud Ud Ud w' best Ud (.sl 1 0 o'.length none o'.length 1) y19 y20) [bNo 0 (rfK gl R 0),bI o']:=by
  have hR':=hR
  obtain ⟨hg,hel,hRl⟩:=hR
  intro d
  induction d with
  | zero =>
    intro j w o hj hw ho
    have s:=rf_s_3 (gl.map encI) (R.map encR) (xs.map encI) ls R.length (R.length+1) [bNo 0 (rfK gl R 0),bI o] w best o.length j (y12:=Ud) (y13:=Ud) (y14:=Ud) (y17:=Ud) (y20:=Ud) (by omega)
    exact ⟨o,_,_,_,by rw [List.drop_of_length_le (by omega)]; simp [chT],lpo (s)⟩
  | succ d ih =>
    intro j w o hj hw ho
    have hlt:j < R.length:=by omega
    rw [drop_cons ([]:List Int) hlt,chT]
    by_cases hz:(o.length:Int) < best
    · rw [if_neg (by omega)]
      have helx:=hR'.el hlt
      have hlb:=less_bnd (c:=w) hg helx
      have cl:=less_at (pol':=polTc) (by kernel_rfl) (c:=w) hg hw helx [bNo 0 (rfK gl R 0),bI o]
      obtain ⟨q1,q2⟩:=row_ld hR' [bI o] (i:=j+1) (by omega) hlb
      have hx:=ix35n (m:=R.length+1) (i:=j+1) (by omega)
      have wi:=wrap_succ (j:=j) (by omega)
      have b2:=fT_bnd gl (R.drop (j+1)) (lessC gl w (R.getD j []))
      have w1:IntKind.i64.wrap (1+fT gl (R.drop (j+1)) (lessC gl w (R.getD j [])))=1+fT gl (R.drop (j+1)) (lessC gl w (R.getD j [])):=wrap_id (by omega) (by omega)
      have w2:IntKind.i64.wrap (best - (o.length:Int))=best - (o.length:Int):=wrap_id (by omega) (by omega)
      by_cases hc:1+fT gl (R.drop (j+1)) (lessC gl w (R.getD j []))=best - (o.length:Int)
      · rw [if_pos hc]
        have ap:=app_ints (H:=[bNo 0 (rfK gl R 0),bI o]) (b:=1) (o:=o) (xs:=[(j:Int)]) rfl (by simp; omega) (by simp)
        rw [List.length_append,List.length_singleton] at ap
        have s:=rf_s_0 (gl.map encI) (R.map encR) (xs.map encI) ls R.length (R.length+1) [bNo 0 (rfK gl R 0),bI o] w best o.length j (y12:=Ud) (y13:=Ud) (y14:=Ud) (y17:=Ud) (y20:=Ud) (by omega) hz (gr hlt) cl (by rw [wi,Int.toNat_natCast]; exact hx) (by rw [wi,Int.toNat_natCast]; exact q1) q2 (ldvi _ _) (by rw [w1,w2]; exact hc) ap
        obtain ⟨o',w',y19,y20,e,r⟩:=ih (j+1) (lessC gl w (R.getD j [])) (o ++ [(j:Int)]) (by omega) hlb (by simp; omega)
        rw [List.length_append,List.length_singleton] at r
        rw [wi] at s
        refine ⟨o',w',y19,y20,?_,lop (s) (gc_eq _ rfl) (r)⟩
        rw [e,List.length_append,List.length_singleton,show best - ((o.length+1:Nat):Int)=best - o.length - 1 by omega,List.append_assoc]
        rfl
      · rw [if_neg hc]
        have s:=rf_s_1 (gl.map encI) (R.map encR) (xs.map encI) ls R.length (R.length+1) [bNo 0 (rfK gl R 0),bI o] w best o.length j (y12:=Ud) (y13:=Ud) (y14:=Ud) (y17:=Ud) (y20:=Ud) (by omega) hz (gr hlt) cl (by rw [wi,Int.toNat_natCast]; exact hx) (by rw [wi,Int.toNat_natCast]; exact q1) q2 (ldvi _ _) (by rw [w1,w2]; exact hc)
        obtain ⟨o',w',y19,y20,e,r⟩:=ih (j+1) w o (by omega) hw (by omega)
        rw [wi] at s
        exact ⟨o',w',y19,y20,e,lop (s) (gc_eq _ rfl) (r)⟩
    · rw [if_pos (by omega)]
      have s:=rf_s_2 (gl.map encI) (R.map encR) (xs.map encI) ls R.length (R.length+1) [bNo 0 (rfK gl R 0),bI o] w best o.length j (y12:=Ud) (y13:=Ud) (y14:=Ud) (y17:=Ud) (y20:=Ud) (by omega) (by omega)
      exact ⟨o,_,_,_,by simp,lpo (s)⟩
end
theorem res37:Try.f37.results.toList=[.tmp 8,.tmp 9]:=by kernel_rfl
def okF (gl:List Int) (R:List (List Int)) (xs:List Int) (ls:Int):Bool:=(newGroupT gl).2 && R.all (elB gl) && decide (R.length ≤ 900) && elB gl xs && decide (0 ≤ ls∧ls ≤ 1)
def first37:List HV → Option HV
  | [.imm .arg 1 la,.imm .arg 1 ra,.imm .arg 1 xa,.int .i64 ls]=>(match mapO decI la,mapO decR ra,mapO decI xa with
    | some gl,some R,some xs=>if okF gl R xs ls=true then some (firR (firstT gl R xs ls)) else none
    | _,_,_=>none)
  | _=>none
theorem first_inv {args:List HV} {res:HV} (h:first37 args=some res):∃ (gl:List Int) (R:List (List Int)) (xs:List Int) (ls:Int),args=[.imm .arg 1 (gl.map encI),.imm .arg 1 (R.map encR),.imm .arg 1 (xs.map encI),.int .i64 ls]∧okF gl R xs ls=true∧res=firR (firstT gl R xs ls):=by
  unfold first37 at h
  split at h
  · rename_i la ra xa ls
    split at h
    · rename_i gl R xs h1 h2 h3
      split at h
      · rename_i hk
        cases h
        exact ⟨gl,R,xs,ls,by rw [mapO_inv decI_inv h1,mapO_inv decR_inv h2,mapO_inv decI_inv h3],hk,rfl⟩
      · cases h
    · cases h
  · cases h
theorem toRes_lb {H:Heap} {b k:Nat} {cap:Option Nat} {o:List Int} (hb:H[b]?=some (bI o)) (hk:o.length=k) (x:Bool):toRes H false (.tuple [.sl b 0 k cap k 1,.bool x])=some (.tuple [.own 1 (o.map encI),.bool x]):=by
  have hr:=resCell_sl (H:=H) (no:=[b]) (b:=b) (k:=1) (m:=k) (cap:=cap) (els:=o.map encI) hb (by simpa using hk) (mapO_self (fun r=>frz_int 4 r) _)
  have ho:ownedAll H false (.tuple [.sl b 0 k cap k 1,.bool x])=[b]:=by simp [ownedAll,cellsOf,owned,hb]
  simp only [toRes,ho,List.nodup_cons,List.not_mem_nil,not_false_eq_true,List.nodup_nil,and_self,if_true,resVal,mapO,hr]
  rfl
theorem first_ok:PrimOk Tp 37 first37:=by
  refine primOk_pure (pol:=polTc) (fn:=Try.f37) (cd:=B37) follows_mixed soundTc (by kernel_rfl) (by kernel_rfl) (fnokTc 37 _ (by kernel_rfl)) (by kernel_rfl) ?_
  intro args res h
  obtain ⟨gl,R,xs,ls,rfl,hk,rfl⟩:=first_inv h
  simp only [okF,Bool.and_eq_true,decide_eq_true_eq,List.all_eq_true] at hk
  obtain ⟨⟨⟨⟨hg,hel⟩,hRl⟩,hxs⟩,hls⟩:=hk
  have hR:okR gl R:=⟨hg,hel,hRl⟩
  have hs:=size_bnd hg
  have hw:=code_bnd hg hxs
  have a:=rf_a_0 (gl.map encI) (R.map encR) (xs.map encI) ls
  have b:=rf_b_0 (gl.map encI) (R.map encR) (xs.map encI) ls (y10:=Ud) (y11:=Ud) (y12:=Ud) (y13:=Ud) (y14:=Ud) (y15:=Ud) (y16:=Ud) (y17:=Ud) (y18:=Ud) (y19:=Ud) (y20:=Ud)
  rw [List.length_map] at b
  have mk:=makeV_ok (P:=Tp) (H:=[]) (t:=35) (n:=((R.length+1:Nat):Int)) u35 info22f rfl rfl (by omega) (by omega) (by simp only [roomMax]; omega)
  rw [Int.toNat_natCast] at mk
  have c:=rf_c_0 (gl.map encI) (R.map encR) (xs.map encI) ls R.length (R.length+1) (y11:=Ud) (y12:=Ud) (y13:=Ud) (y14:=Ud) (y15:=Ud) (y16:=Ud) (y17:=Ud) (y18:=Ud) (y19:=Ud) (y20:=Ud) (by rw [wrap_succ (by omega)]; exact mk)
  have d:=rf_d_0 (gl.map encI) (R.map encR) (xs.map encI) ls R.length (R.length+1) [.arr 1 (List.replicate (R.length+1) (.imm .lit 0 [])) true 0] (y12:=Ud) (y13:=Ud) (y14:=Ud) (y15:=Ud) (y16:=Ud) (y17:=Ud) (y18:=Ud) (y19:=Ud) (y20:=Ud)
  obtain ⟨y13,y14,r1⟩:=rf_i (xs:=xs) (ls:=ls) hR (R.length+1) (Nat.le_refl _)
  have e0:([bNo (R.length+1) (rfK gl R (R.length+1))]:Heap)=[.arr 1 (List.replicate (R.length+1) (.imm .lit 0 [])) true 0]:=by
    rw [rfK,if_neg (by omega)]; simp [bNo]
  rw [e0,show ((R.length+1:Nat):Int) - 1=(R.length:Int) by omega] at r1
  have cc:=code_at (pol':=polTc) (by kernel_rfl) (l:=gl) (x:=xs) (v:=.imm .arg 1 (xs.map encI)) (H:=[bNo 0 (rfK gl R 0)]) (arg_li _ _) ⟨hg,hxs⟩
  have k1:=rf_k_0 (gl.map encI) (R.map encR) (xs.map encI) ls R.length (R.length+1) [bNo 0 (rfK gl R 0)] (y12:=.int .i64 (-1)) (y13:=y13) (y14:=y14) (y15:=Ud) (y16:=Ud) (y17:=Ud) (y18:=Ud) (y19:=Ud) (y20:=Ud) cc
  have k2:=rf_l_0 (gl.map encI) (R.map encR) (xs.map encI) ls R.length (R.length+1) [bNo 0 (rfK gl R 0)] (codeT gl xs) (y12:=.int .i64 (-1)) (y13:=y13) (y14:=y14) (y16:=Ud) (y17:=Ud) (y18:=Ud) (y19:=Ud) (y20:=Ud)
  have go:∀ bs0 b1:Int,fbT gl R xs ls=b1 → (0 ≤ b1∧b1 ≤ 1099511627776) →
      RT polTc 37 (sub [1,1,1,1,1,1,0] B37) (rfB gl R xs ls (.int .i64 (-1)) y13 y14 (codeT gl xs) 1099511627776 Ud Ud Ud Ud) [bNo 0 (rfK gl R 0)] .normal (rfB gl R xs ls (.int .i64 (-1)) y13 y14 (codeT gl xs) bs0 Ud Ud Ud Ud) [bNo 0 (rfK gl R 0)] →
      (∃ y17,RT polTc 37 (sub [1,1,1,1,1,1,1,0,1,0] B37) (rfB gl R xs ls Ud Ud Ud (codeT gl xs) bs0 (.int .i64 ((0:Nat):Int)) Ud Ud Ud) [bNo 0 (rfK gl R 0)] (.exit 4)
        (rfB gl R xs ls Ud Ud Ud (codeT gl xs) b1 y17 Ud Ud Ud) [bNo 0 (rfK gl R 0)]) →
      ∃ E H v,RT polTc 37 B37 (args0 [.imm .arg 1 (gl.map encI),.imm .arg 1 (R.map encR),.imm .arg 1 (xs.map encI),.int .i64 ls]) [] .ret E H∧resultsV Tp Try.f37 E H=some v∧toRes H false v=some (firR (firstT gl R xs ls)):=fun bs0 b1 hb1 hbb k3 ⟨y17,r2⟩=>by
    have k4:=rf_n_0 (gl.map encI) (R.map encR) (xs.map encI) ls R.length (R.length+1) [bNo 0 (rfK gl R 0)] (codeT gl xs) bs0 (y12:=.int .i64 (-1)) (y13:=y13) (y14:=y14) (y17:=Ud) (y18:=Ud) (y19:=Ud) (y20:=Ud)
    have r2':=lpi (e0:=(rfB gl R xs ls (.int .i64 (-1)) y13 y14 (codeT gl xs) bs0 (.int .i64 ((0:Nat):Int)) Ud Ud Ud)) r2 (b:=sub [1,1,1,1,1,1,1,0,1,0,0] B37)
    by_cases hf:1099511627776 ≤ b1
    · have k5:=rf_p_0 (gl.map encI) (R.map encR) (xs.map encI) ls R.length (R.length+1) [bNo 0 (rfK gl R 0)] (codeT gl xs) b1 (y17:=y17) (y12:=Ud) (y13:=Ud) (y14:=Ud) (y18:=Ud) (y19:=Ud) (y20:=Ud) hf
      have u:=sq (a) (sq (b) (sq (c) (sq (sq (d) (bke (c:=sub [1,1,1,0,1] B37) (lpi (e0:=(rfI gl R xs ls (.int .i64 (R.length:Int)) Ud Ud)) r1 (b:=sub [1,1,1,0,1,0,0] B37))) (c:=sub [1,1,1,0] B37)) (sq (k1) (sq (k2) (sq (k3) (sq (sq (k4) (bke (c:=sub [1,1,1,1,1,1,1,0,1] B37) (r2')) (c:=sub [1,1,1,1,1,1,1,0] B37)) (sqo (k5) (c:=sub [1,1,1,1,1,1,1,1] B37) (b:=sub [1,1,1,1,1,1,1,1,1] B37)) (c:=sub [1,1,1,1,1,1,1] B37)) (c:=sub [1,1,1,1,1,1] B37)) (c:=sub [1,1,1,1,1] B37)) (c:=sub [1,1,1,1] B37)) (c:=sub [1,1,1] B37)) (c:=sub [1,1] B37)) (c:=sub [1] B37)) (c:=B37)
      exact ⟨_,_,.tuple [.imm .lit 1 [],.bool false],u,by simp only [resultsV,res37]; rfl,by rw [firstT,hb1,if_pos hf]; rfl⟩
    · have k5:=rf_p_1 (gl.map encI) (R.map encR) (xs.map encI) ls R.length (R.length+1) [bNo 0 (rfK gl R 0)] (codeT gl xs) b1 (y17:=y17) (y12:=Ud) (y13:=Ud) (y14:=Ud) (y18:=Ud) (y19:=Ud) (y20:=Ud) hf
      have k6:=rf_q_0 (gl.map encI) (R.map encR) (xs.map encI) ls R.length (R.length+1) [bNo 0 (rfK gl R 0)] (codeT gl xs) b1 (y17:=y17) (y12:=Ud) (y13:=Ud) (y14:=Ud) (y18:=Ud) (y19:=Ud) (y20:=Ud) (H0:=[bNo 0 (rfK gl R 0),bI []]) rfl
      have k7:=rf_r_0 (gl.map encI) (R.map encR) (xs.map encI) ls R.length (R.length+1) [bNo 0 (rfK gl R 0),bI []] (codeT gl xs) b1 0 (y17:=y17) (y12:=Ud) (y13:=Ud) (y14:=Ud) (y19:=Ud) (y20:=Ud)
      obtain ⟨o',w',y19,y20,e,r3⟩:=rf_q (xs:=xs) (ls:=ls) hR hbb R.length 0 (codeT gl xs) [] (by omega) hw (by simp)
      have ep:firstT gl R xs ls=some o':=by
        rw [firstT,hb1,if_neg hf,e]; simp
      have k8:=rf_t_0 (gl.map encI) (R.map encR) (xs.map encI) ls R.length (R.length+1) [bNo 0 (rfK gl R 0),bI o'] w' b1 o'.length (y19:=y19) (y20:=y20) (y12:=Ud) (y13:=Ud) (y14:=Ud) (y17:=Ud)
      have u:=sq (a) (sq (b) (sq (c) (sq (sq (d) (bke (c:=sub [1,1,1,0,1] B37) (lpi (e0:=(rfI gl R xs ls (.int .i64 (R.length:Int)) Ud Ud)) r1 (b:=sub [1,1,1,0,1,0,0] B37))) (c:=sub [1,1,1,0] B37)) (sq (k1) (sq (k2) (sq (k3) (sq (sq (k4) (bke (c:=sub [1,1,1,1,1,1,1,0,1] B37) (r2')) (c:=sub [1,1,1,1,1,1,1,0] B37)) (sq (k5) (sq (k6) (sq (sq (k7) (bke (c:=sub [1,1,1,1,1,1,1,1,1,1,0,1] B37) (lpi (e0:=(rfB gl R xs ls Ud Ud Ud (codeT gl xs) b1 y17 (.sl 1 0 0 none 0 1) (.int .i64 ((0:Nat):Int)) Ud)) r3 (b:=sub [1,1,1,1,1,1,1,1,1,1,0,1,0,0] B37))) (c:=sub [1,1,1,1,1,1,1,1,1,1,0] B37)) (k8) (c:=sub [1,1,1,1,1,1,1,1,1,1] B37)) (c:=sub [1,1,1,1,1,1,1,1,1] B37)) (c:=sub [1,1,1,1,1,1,1,1] B37)) (c:=sub [1,1,1,1,1,1,1] B37)) (c:=sub [1,1,1,1,1,1] B37)) (c:=sub [1,1,1,1,1] B37)) (c:=sub [1,1,1,1] B37)) (c:=sub [1,1,1] B37)) (c:=sub [1,1] B37)) (c:=sub [1] B37)) (c:=B37)
      exact ⟨_,_,.tuple [.sl 1 0 o'.length none o'.length 1,.bool true],u,by simp only [resultsV,res37]; rfl,by rw [ep]; exact toRes_lb rfl rfl true⟩
  have fin:∃ E H v,RT polTc 37 B37 (args0 [.imm .arg 1 (gl.map encI),.imm .arg 1 (R.map encR),.imm .arg 1 (xs.map encI),.int .i64 ls]) [] .ret E H∧resultsV Tp Try.f37 E H=some v∧toRes H false v=some (firR (firstT gl R xs ls)):=by
    by_cases h0:ls=0
    · obtain ⟨q1,q2⟩:=row_ld hR [] (i:=0) (by omega) hw
      have k3:=rf_m_0 (gl.map encI) (R.map encR) (xs.map encI) ls R.length (R.length+1) [bNo 0 (rfK gl R 0)] (codeT gl xs) 1099511627776 (y12:=.int .i64 (-1)) (y13:=y13) (y14:=y14) (y17:=Ud) (y18:=Ud) (y19:=Ud) (y20:=Ud) h0 (ix35n (m:=R.length+1) (i:=0) (by omega)) q1 q2 (ldvi _ _)
      have hb:=fT_bnd gl R (codeT gl xs)
      rw [List.drop_zero] at k3
      refine go _ _ (by rw [fbT,if_pos h0]) hb k3 ?_
      by_cases hR0:0 < R.length
      · have s:=rf_o_1 (gl.map encI) (R.map encR) (xs.map encI) ls R.length (R.length+1) [bNo 0 (rfK gl R 0)] (codeT gl xs) (fT gl R (codeT gl xs)) 0 (y12:=Ud) (y13:=Ud) (y14:=Ud) (y18:=Ud) (y19:=Ud) (y20:=Ud) (by omega) (by omega)
        exact ⟨_,lpo (s)⟩
      · have s:=rf_o_2 (gl.map encI) (R.map encR) (xs.map encI) ls R.length (R.length+1) [bNo 0 (rfK gl R 0)] (codeT gl xs) (fT gl R (codeT gl xs)) 0 (y12:=Ud) (y13:=Ud) (y14:=Ud) (y18:=Ud) (y19:=Ud) (y20:=Ud) (by omega)
        exact ⟨_,lpo (s)⟩
    · have k3:=rf_m_1 (gl.map encI) (R.map encR) (xs.map encI) ls R.length (R.length+1) [bNo 0 (rfK gl R 0)] (codeT gl xs) 1099511627776 (y12:=.int .i64 (-1)) (y13:=y13) (y14:=y14) (y17:=Ud) (y18:=Ud) (y19:=Ud) (y20:=Ud) h0
      obtain ⟨y17,r⟩:=rf_bst (xs:=xs) (ls:=ls) hR hw (by omega) R.length 0 1099511627776 (by omega) (by omega)
      rw [List.drop_zero] at r
      exact go _ _ (by rw [fbT,if_neg h0]) (bst_bnd gl _ R _ (by omega) (by omega)) k3 ⟨y17,r⟩
  obtain ⟨E,H,v,u,hv,ht⟩:=fin
  exact ⟨_,_,_,v,u,by simp,hv,ht⟩
end Go.Proofs.Ytaibmipamkaljaa
end
section
open Go Go.HL
namespace Go.Proofs.Ytaibmipamkaljaa
open Go.Proofs.Try renaming prog → Tp
open Go.HL.HV renaming undef → Ud
def argR (H:Heap) (v:HV) (R:List (List Int)):Prop:=toArg H 6 v=some (.imm .arg 1 (R.map encR))
theorem argR_imm (H:Heap) (R:List (List Int)):argR H (.imm .arg 1 (R.map encR)) R:=arg_rw H R
theorem argI_imm (H:Heap) (l:List Int):argI H (.imm .arg 1 (l.map encI)) l:=arg_li H l
theorem argR_sl {H:Heap} {R:List (List Int)} {b m mx:Nat} (hm:R.length=m) (hb:H[b]?=some (.arr 1 (R.map encO) true mx)):argR H (.sl b 0 m none m 1) R:=arg_rs hm hb
theorem argI_sl {H:Heap} {l:List Int} {b m:Nat} (hm:l.length=m) (hb:H[b]?=some (bI l)):argI H (.sl b 0 m none m 1) l:=arg_sl hm hb
abbrev bR (R:List (List Int)):Blk:=.arr 1 (R.map encO) true 0
theorem list_at {pol':Pol} (hp:pol'.prim 14=some list14) {l:List Int} {v:HV} {H:Heap} (h1:argI H v l) :
    ∀ k,callN Tp pol' (k+1) 14 [v] H=some (.sl H.length 0 (l.take 110).length none (l.take 110).length 1,H ++ [bI (l.take 110)]):=fun k=>by
  have hd:mapO decI (l.map encI)=some l:=mapO_map decI_enc l
  unfold argI at h1
  rw [prim_call (pol:=pol') (g:=14) (F:=list14) hp (rs:=[.imm .arg 1 (l.map encI)]) (by simp only [mapO,h1]) (res:=.own 1 ((l.take 110).map encI)) (by simp only [list14,liF,hd]),recv_ints]
theorem table_at {pol':Pol} (hp:pol'.prim 33=some table33) {R:List (List Int)} {v:HV} {H:Heap} (h1:argR H v R) :
    ∀ k,callN Tp pol' (k+1) 33 [v] H=some (.sl H.length 0 (tabT R).length none (tabT R).length 1,H ++ [bR (tabT R)]):=fun k=>by
  have hd:mapO decR (R.map encR)=some R:=mapO_map decR_enc R
  unfold argR at h1
  rw [prim_call (pol:=pol') (g:=33) (F:=table33) hp (rs:=[.imm .arg 1 (R.map encR)]) (by simp only [mapO,h1]) (res:=.own 1 ((tabT R).map encO)) (by simp only [table33,rwF,hd]),recv_rows]
theorem part34_at {pol':Pol} (hp:pol'.prim 34=some part34) {l x:List Int} {R:List (List Int)} {v1 v2 v3:HV} {H:Heap} (h1:argI H v1 l) (h2:argR H v2 R) (h3:argI H v3 x) (hR:R.length ≤ 1000) :
    ∀ k,callN Tp pol' (k+1) 34 [v1,v2,v3] H=some (.tuple [.sl H.length 0 (partTT l R x).1.length none (partTT l R x).1.length 1,.int .i64 (partTT l R x).2],H ++ [bI (partTT l R x).1]):=fun k=>by
  have hd:mapO decI (l.map encI)=some l:=mapO_map decI_enc l
  have hd2:mapO decR (R.map encR)=some R:=mapO_map decR_enc R
  have hd3:mapO decI (x.map encI)=some x:=mapO_map decI_enc x
  unfold argI at h1 h3
  unfold argR at h2
  rw [prim_call (pol:=pol') (g:=34) (F:=part34) hp (rs:=[.imm .arg 1 (l.map encI),.imm .arg 1 (R.map encR),.imm .arg 1 (x.map encI)]) (by simp only [mapO,h1,h2,h3]) (res:=.tuple [.own 1 ((partTT l R x).1.map encI),.int .i64 (partTT l R x).2]) (by simp only [part34,hd,hd2,hd3]; rw [if_pos hR]),recv_li1]
theorem group35_at {pol':Pol} (hp:pol'.prim 35=some group35) {l:List Int} {v:HV} {H:Heap} (h1:argI H v l) :
    ∀ k,callN Tp pol' (k+1) 35 [v] H=some (.bool (newGroupT l).2,H):=fun k=>by
  have hd:mapO decI (l.map encI)=some l:=mapO_map decI_enc l
  unfold argI at h1
  rw [prim_call (pol:=pol') (g:=35) (F:=group35) hp (rs:=[.imm .arg 1 (l.map encI)]) (by simp only [mapO,h1]) (res:=.bool (newGroupT l).2) (by simp only [group35,liF,hd])]
  rfl
theorem list36_at {pol':Pol} (hp:pol'.prim 36=some list36) {gl:List Int} {R:List (List Int)} {v1 v2:HV} {H:Heap} (h1:argI H v1 gl) (h2:argR H v2 R) (hl:gl.length ≤ 1000∧R.length ≤ 1000) :
    ∀ k,callN Tp pol' (k+1) 36 [v1,v2] H=some (.bool (listB gl R),H):=fun k=>by
  have hd:mapO decI (gl.map encI)=some gl:=mapO_map decI_enc gl
  have hd2:mapO decR (R.map encR)=some R:=mapO_map decR_enc R
  unfold argI at h1
  unfold argR at h2
  rw [prim_call (pol:=pol') (g:=36) (F:=list36) hp (rs:=[.imm .arg 1 (gl.map encI),.imm .arg 1 (R.map encR)]) (by simp only [mapO,h1,h2]) (res:=.bool (listB gl R)) (by simp only [list36,lrF,hd,hd2]; rw [if_pos hl])]
  rfl
theorem el38_at {pol':Pol} (hp:pol'.prim 38=some element38) {gl x:List Int} {v1 v2:HV} {H:Heap} (h1:argI H v1 gl) (h2:argI H v2 x) (hl:gl.length ≤ 1000) :
    ∀ k,callN Tp pol' (k+1) 38 [v1,v2] H=some (.bool (elB gl x),H):=fun k=>by
  have hd:mapO decI (gl.map encI)=some gl:=mapO_map decI_enc gl
  have hd2:mapO decI (x.map encI)=some x:=mapO_map decI_enc x
  unfold argI at h1 h2
  rw [prim_call (pol:=pol') (g:=38) (F:=element38) hp (rs:=[.imm .arg 1 (gl.map encI),.imm .arg 1 (x.map encI)]) (by simp only [mapO,h1,h2]) (res:=.bool (elB gl x)) (by simp only [element38,llF,hd,hd2]; rw [if_pos hl])]
  rfl
theorem zero28_at {pol':Pol} (hp:pol'.prim 28=some zero28) {l:List Int} {v:HV} {H:Heap} (h1:argI H v l) (hl:l.length ≤ 1000) :
    ∀ k,callN Tp pol' (k+1) 28 [v] H=some (.sl H.length 0 l.length none l.length 1,H ++ [bI (List.replicate l.length 0)]):=fun k=>by
  have hd:mapO decI (l.map encI)=some l:=mapO_map decI_enc l
  unfold argI at h1
  rw [prim_call (pol:=pol') (g:=28) (F:=zero28) hp (rs:=[.imm .arg 1 (l.map encI)]) (by simp only [mapO,h1]) (res:=.own 1 ((List.replicate l.length (0:Int)).map encI)) (by simp only [zero28,liF,hd]; rw [if_pos hl]),recv_ints,List.length_replicate]
def fst1 (r:Option (List Int)):List Int:=match r with | some p=>p | none=>[]
theorem firR_eq (r:Option (List Int)):firR r=.tuple [.own 1 ((fst1 r).map encI),.bool r.isSome]:=by cases r <;> rfl
theorem recv_lb (l:List Int) (x:Bool) (H:Heap):recv (.tuple [.own 1 (l.map encI),.bool x]) H=(.tuple [.sl H.length 0 l.length none l.length 1,.bool x],H ++ [bI l]):=by
  have h:recvCell (.own 1 (l.map encI)) H=(.sl H.length 0 l.length none l.length 1,H ++ [bI l]):=by
    simp only [recvCell,encI_any,List.length_map]; rfl
  simp only [recv,recvVals,recvVal,h]; rfl
theorem first_at {pol':Pol} (hp:pol'.prim 37=some first37) {gl x:List Int} {R:List (List Int)} {ls:Int} {v1 v2 v3:HV} {H:Heap} (h1:argI H v1 gl) (h2:argR H v2 R) (h3:argI H v3 x) (hk:okF gl R x ls=true) :
    ∀ k,callN Tp pol' (k+1) 37 [v1,v2,v3,.int .i64 ls] H=some (.tuple [.sl H.length 0 (fst1 (firstT gl R x ls)).length none (fst1 (firstT gl R x ls)).length 1,.bool (firstT gl R x ls).isSome],H ++ [bI (fst1 (firstT gl R x ls))]):=fun k=>by
  have hd:mapO decI (gl.map encI)=some gl:=mapO_map decI_enc gl
  have hd2:mapO decR (R.map encR)=some R:=mapO_map decR_enc R
  have hd3:mapO decI (x.map encI)=some x:=mapO_map decI_enc x
  have hN:toArg H 6 (.int .i64 ls)=some (.int .i64 ls):=rfl
  unfold argI at h1 h3
  unfold argR at h2
  rw [prim_call (pol:=pol') (g:=37) (F:=first37) hp (rs:=[.imm .arg 1 (gl.map encI),.imm .arg 1 (R.map encR),.imm .arg 1 (x.map encI),.int .i64 ls]) (by simp only [mapO,h1,h2,h3,hN]) (res:=firR (firstT gl R x ls)) (by simp only [first37,hd,hd2,hd3]; rw [if_pos hk]),firR_eq,recv_lb]
end Go.Proofs.Ytaibmipamkaljaa
end
section
open Go Go.HL
namespace Go.Proofs.Ytaibmipamkaljaa
theorem listB_iff {gl:List Int} {R:List (List Int)}:listB gl R=true ↔ (∀ x ∈ R,elB gl x=true)∧R.length ≤ 60:=by simp [listB,List.all_eq_true]
theorem elems_B {gl:List Int} (hg:(newGroupT gl).2=true) {R:List (List Int)} (h:listB gl R=true):elemsT (grG gl) R=some (els gl R):=by
  obtain ⟨h1,h2⟩:=listB_iff.1 h
  have e1:∀ x ∈ R,elementT (grG gl) x=(eE gl x,true):=fun x hx=>el_E hg (h1 x hx)
  unfold elemsT
  rw [if_pos ⟨h2,List.all_eq_true.2 fun x hx=>by rw [e1 x hx]⟩]
  congr 1
  exact List.map_congr_left fun x hx=>by rw [e1 x hx]
theorem elems_N {gl:List Int} (hg:(newGroupT gl).2=true) {R:List (List Int)} (h:listB gl R=false):elemsT (grG gl) R=none:=by
  unfold elemsT
  rw [if_neg]
  rintro ⟨h2,h1⟩
  have h3:∀ x ∈ R,elB gl x=true:=fun x hx=>by
    cases e:elB gl x with
    | true=>rfl
    | false=>have:=List.all_eq_true.1 h1 x hx; rw [el_no hg e] at this; cases this
  have:listB gl R=true:=listB_iff.2 ⟨h3,h2⟩
  rw [this] at h; cases h
theorem grp_len {gl:List Int} (hg:(newGroupT gl).2=true):1 ≤ gl.length∧gl.length ≤ 2:=by
  rcases grp_cases hg with ⟨a,rfl,_⟩ | ⟨a,b,rfl,_⟩ <;> simp
theorem zero_el {gl:List Int} (hg:(newGroupT gl).2=true):elB gl (List.replicate gl.length 0)=true∧eE gl (List.replicate gl.length 0)=(0,0):=by
  rcases grp_cases hg with ⟨a,rfl,h1,h2⟩ | ⟨a,b,rfl,h1,h2,h3,h4,h5,h6⟩
  · exact ⟨el_mk1 (by omega),rfl⟩
  · refine ⟨el_mk2 (by omega) (by omega),?_⟩
    have:=tE_two (a:=a) (b:=b) (u:=0) (v:=0) (by omega)
    exact this
theorem zeroT_first {gl:List Int} (hg:(newGroupT gl).2=true) {R:List (List Int)} (h:listB gl R=true):zeroT gl R=shP (firstT gl R (List.replicate gl.length 0) 1):=by
  obtain ⟨h1,h2⟩:=listB_iff.1 h
  obtain ⟨z1,z2⟩:=zero_el hg
  have:=first_sh hg h1 (by omega) z1 1 (by omega)
  rw [show ((1:Nat):Int)=1 by rfl] at this
  rw [this,z2]
  unfold zeroT
  rw [if_pos hg]
  have e:=elems_B hg h
  unfold grG at e
  rw [e]
  simp only [els,List.length_map,Nat.add_sub_cancel]
theorem zeroT_bad {gl:List Int} {R:List (List Int)} (h:(newGroupT gl).2=false ∨ listB gl R=false):zeroT gl R=([],2):=by
  unfold zeroT
  cases hg:(newGroupT gl).2 with
  | false=>rw [if_neg (by simp)]
  | true =>
    rw [if_pos rfl]
    have e:=elems_N hg (h.resolve_left (by rw [hg]; simp))
    unfold grG at e
    rw [e]
theorem partTT_first {gl:List Int} (hg:(newGroupT gl).2=true) {R:List (List Int)} (h:listB gl R=true) {x:List Int} (hx:elB gl x=true):partTT gl R x=shP (firstT gl R x 0):=by
  obtain ⟨h1,h2⟩:=listB_iff.1 h
  have:=first_sh hg h1 (by omega) hx 0 (by omega)
  rw [show ((0:Nat):Int)=0 by rfl] at this
  rw [this]
  unfold partTT
  rw [if_pos hg]
  have e:=elems_B hg h
  have e2:=el_E hg hx
  unfold grG at e e2
  rw [e,e2]
  simp only [els,List.length_map,if_true,Nat.sub_zero]
theorem partTT_bad {gl:List Int} {R:List (List Int)} {x:List Int} (h:(newGroupT gl).2=false ∨ listB gl R=false ∨ elB gl x=false):partTT gl R x=([],2):=by
  unfold partTT
  cases hg:(newGroupT gl).2 with
  | false=>rw [if_neg (by simp)]
  | true =>
    rw [if_pos rfl]
    cases hl:listB gl R with
    | false =>
      have e:=elems_N hg hl
      unfold grG at e
      rw [e]
    | true =>
      have e:=elems_B hg hl
      have e2:=el_no hg ((h.resolve_left (by rw [hg]; simp)).resolve_left (by rw [hl]; simp))
      unfold grG at e e2
      rw [e]
      simp only [e2]
      simp
end Go.Proofs.Ytaibmipamkaljaa
end
section
open Go Go.HL
namespace Go.Proofs.Ytaibmipamkaljaa
open Go.Proofs.Try renaming prog → Tp
open Go.HL.HV renaming undef → Ud
def prL9:FuncId → Option (List HV → Option HV):=fun g=>if g == 16 then some awakeF else if g == 14 then some list14 else if g == 33 then some table33 else if g == 26 then some zero26 else if g == 34 then some part34 else if g == 35 then some group35 else if g == 36 then some list36 else if g == 28 then some zero28 else if g == 37 then some first37 else if g == 17 then some ints17 else if g == 38 then some element38 else none
def polL9:Pol:={ pol with prim:=prL9 }
theorem soundL9 (n:Nat):CallSound Tp (callN Tp polL9 n):=sound_prim prL9 (fun g f h=>by
  unfold prL9 at h
  split at h
  · rename_i hg; cases h; rw [eq_of_beq hg]; exact awake_prim
  split at h
  · rename_i hg; cases h; rw [eq_of_beq hg]; exact list_ok
  split at h
  · rename_i hg; cases h; rw [eq_of_beq hg]; exact table_ok
  split at h
  · rename_i hg; cases h; rw [eq_of_beq hg]; exact zero_ok
  split at h
  · rename_i hg; cases h; rw [eq_of_beq hg]; exact part34_ok
  split at h
  · rename_i hg; cases h; rw [eq_of_beq hg]; exact group35_ok
  split at h
  · rename_i hg; cases h; rw [eq_of_beq hg]; exact list36_ok
  split at h
  · rename_i hg; cases h; rw [eq_of_beq hg]; exact zero28_ok
  split at h
  · rename_i hg; cases h; rw [eq_of_beq hg]; exact first_ok
  split at h
  · rename_i hg; cases h; rw [eq_of_beq hg]; exact ints_ok
  split at h
  · rename_i hg; cases h; rw [eq_of_beq hg]; exact element38_ok
  · cases h) n
end Go.Proofs.Ytaibmipamkaljaa
end
section
open Go Go.HL
namespace Go.Proofs.Ytaibmipamkaljaa
set_option maxRecDepth 100000
open Go.Proofs.Try renaming prog → Tp
open Go.HL.HV renaming undef → Ud
noncomputable def B9:Code:=Try.f9.body.getD .skip
abbrev env9 (v0 v1 v2 v6 v7 v8 v9 v10 v11 v12 v13 v14 v15 v16 v17:HV):Env:=[(0,v0),(1,v1),(2,v2),(6,v6),(7,v7),(8,v8),(9,v9),(10,v10),(11,v11),(12,v12),(13,v13),(14,v14),(15,v15),(16,v16),(17,v17)]
theorem sp_0 (l0 rw l2:List HV) (e1 e2:Int) (p0:Nat) (h0:List HV) (p1:Nat) (h1:List HV) (p2:Nat) (h2:List HV) (p3:Nat) (h3:List HV) (p4:Nat) (h4:List HV) (p5:Nat) (h5:List HV) (p6:Nat) (h6:List HV) (p7:Nat) (h7:List HV)(g0:∀ kf,callN Tp polL9 (kf+1) 14 [.imm .arg 1 l0] []=some (.sl 0 0 p0 none p0 1,[.arr 1 h0 true 0])) (g1:∀ kf,callN Tp polL9 (kf+1) 33 [.imm .arg 1 rw] [.arr 1 h0 true 0]=some (.sl 1 0 p1 none p1 1,[.arr 1 h0 true 0,.arr 1 h1 true 0])) (g2:∀ kf,callN Tp polL9 (kf+1) 14 [.imm .arg 1 l2] [.arr 1 h0 true 0,.arr 1 h1 true 0]=some (.sl 2 0 p2 none p2 1,[.arr 1 h0 true 0,.arr 1 h1 true 0,.arr 1 h2 true 0])) (g3:∀ kf,callN Tp polL9 (kf+1) 26 [.sl 0 0 p0 none p0 1,.sl 1 0 p1 none p1 1] [.arr 1 h0 true 0,.arr 1 h1 true 0,.arr 1 h2 true 0]=some (.tuple [.sl 3 0 p3 none p3 1,.i e1],[.arr 1 h0 true 0,.arr 1 h1 true 0,.arr 1 h2 true 0,.arr 1 h3 true 0])) (g4:∀ kf,callN Tp polL9 (kf+1) 34 [.sl 0 0 p0 none p0 1,.sl 1 0 p1 none p1 1,.sl 2 0 p2 none p2 1] [.arr 1 h0 true 0,.arr 1 h1 true 0,.arr 1 h2 true 0,.arr 1 h3 true 0]=some (.tuple [.sl 4 0 p4 none p4 1,.i e2],[.arr 1 h0 true 0,.arr 1 h1 true 0,.arr 1 h2 true 0,.arr 1 h3 true 0,.arr 1 h4 true 0])) (g5:∀ kf,callN Tp polL9 (kf+1) 35 [.sl 0 0 p0 none p0 1] [.arr 1 h0 true 0,.arr 1 h1 true 0,.arr 1 h2 true 0,.arr 1 h3 true 0,.arr 1 h4 true 0]=some (.bool true,[.arr 1 h0 true 0,.arr 1 h1 true 0,.arr 1 h2 true 0,.arr 1 h3 true 0,.arr 1 h4 true 0])) (g6:∀ kf,callN Tp polL9 (kf+1) 36 [.sl 0 0 p0 none p0 1,.sl 1 0 p1 none p1 1] [.arr 1 h0 true 0,.arr 1 h1 true 0,.arr 1 h2 true 0,.arr 1 h3 true 0,.arr 1 h4 true 0]=some (.bool true,[.arr 1 h0 true 0,.arr 1 h1 true 0,.arr 1 h2 true 0,.arr 1 h3 true 0,.arr 1 h4 true 0])) (g7:∀ kf,callN Tp polL9 (kf+1) 28 [.sl 0 0 p0 none p0 1] [.arr 1 h0 true 0,.arr 1 h1 true 0,.arr 1 h2 true 0,.arr 1 h3 true 0,.arr 1 h4 true 0]=some (.sl 5 0 p5 none p5 1,[.arr 1 h0 true 0,.arr 1 h1 true 0,.arr 1 h2 true 0,.arr 1 h3 true 0,.arr 1 h4 true 0,.arr 1 h5 true 0])) (g8:∀ kf,callN Tp polL9 (kf+1) 37 [.sl 0 0 p0 none p0 1,.sl 1 0 p1 none p1 1,.sl 5 0 p5 none p5 1,.i 1] [.arr 1 h0 true 0,.arr 1 h1 true 0,.arr 1 h2 true 0,.arr 1 h3 true 0,.arr 1 h4 true 0,.arr 1 h5 true 0]=some (.tuple [.sl 6 0 p6 none p6 1,.bool true],[.arr 1 h0 true 0,.arr 1 h1 true 0,.arr 1 h2 true 0,.arr 1 h3 true 0,.arr 1 h4 true 0,.arr 1 h5 true 0,.arr 1 h6 true 0])) (g9:∀ kf,callN Tp polL9 (kf+1) 17 [.sl 3 0 p3 none p3 1,.sl 6 0 p6 none p6 1] [.arr 1 h0 true 0,.arr 1 h1 true 0,.arr 1 h2 true 0,.arr 1 h3 true 0,.arr 1 h4 true 0,.arr 1 h5 true 0,.arr 1 h6 true 0]=some (.bool true,[.arr 1 h0 true 0,.arr 1 h1 true 0,.arr 1 h2 true 0,.arr 1 h3 true 0,.arr 1 h4 true 0,.arr 1 h5 true 0,.arr 1 h6 true 0])) (g10:e1=0) (g11:∀ kf,callN Tp polL9 (kf+1) 38 [.sl 0 0 p0 none p0 1,.sl 2 0 p2 none p2 1] [.arr 1 h0 true 0,.arr 1 h1 true 0,.arr 1 h2 true 0,.arr 1 h3 true 0,.arr 1 h4 true 0,.arr 1 h5 true 0,.arr 1 h6 true 0]=some (.bool true,[.arr 1 h0 true 0,.arr 1 h1 true 0,.arr 1 h2 true 0,.arr 1 h3 true 0,.arr 1 h4 true 0,.arr 1 h5 true 0,.arr 1 h6 true 0])) (g12:∀ kf,callN Tp polL9 (kf+1) 37 [.sl 0 0 p0 none p0 1,.sl 1 0 p1 none p1 1,.sl 2 0 p2 none p2 1,.i 0] [.arr 1 h0 true 0,.arr 1 h1 true 0,.arr 1 h2 true 0,.arr 1 h3 true 0,.arr 1 h4 true 0,.arr 1 h5 true 0,.arr 1 h6 true 0]=some (.tuple [.sl 7 0 p7 none p7 1,.bool true],[.arr 1 h0 true 0,.arr 1 h1 true 0,.arr 1 h2 true 0,.arr 1 h3 true 0,.arr 1 h4 true 0,.arr 1 h5 true 0,.arr 1 h6 true 0,.arr 1 h7 true 0])) (g13:∀ kf,callN Tp polL9 (kf+1) 17 [.sl 4 0 p4 none p4 1,.sl 7 0 p7 none p7 1] [.arr 1 h0 true 0,.arr 1 h1 true 0,.arr 1 h2 true 0,.arr 1 h3 true 0,.arr 1 h4 true 0,.arr 1 h5 true 0,.arr 1 h6 true 0,.arr 1 h7 true 0]=some (.bool true,[.arr 1 h0 true 0,.arr 1 h1 true 0,.arr 1 h2 true 0,.arr 1 h3 true 0,.arr 1 h4 true 0,.arr 1 h5 true 0,.arr 1 h6 true 0,.arr 1 h7 true 0])) (g14:e2=0) (g15:∀ kf,callN Tp polL9 (kf+1) 16 [] [.arr 1 h0 true 0,.arr 1 h1 true 0,.arr 1 h2 true 0,.arr 1 h3 true 0,.arr 1 h4 true 0,.arr 1 h5 true 0,.arr 1 h6 true 0,.arr 1 h7 true 0]=some (.bool true,[.arr 1 h0 true 0,.arr 1 h1 true 0,.arr 1 h2 true 0,.arr 1 h3 true 0,.arr 1 h4 true 0,.arr 1 h5 true 0,.arr 1 h6 true 0,.arr 1 h7 true 0])):RT polL9 9 (sub [] B9) [(0,.imm .arg 1 l0),(1,.imm .arg 1 rw),(2,.imm .arg 1 l2)] [] .ret (env9 (.imm .arg 1 l0) (.imm .arg 1 rw) (.imm .arg 1 l2) (.bool true) (.sl 0 0 p0 none p0 1) (.sl 1 0 p1 none p1 1) (.sl 2 0 p2 none p2 1) (.sl 3 0 p3 none p3 1) (.i e1) (.sl 4 0 p4 none p4 1) (.i e2) (.sl 6 0 p6 none p6 1) (.bool true) (.sl 7 0 p7 none p7 1) (.bool true)) [.arr 1 h0 true 0,.arr 1 h1 true 0,.arr 1 h2 true 0,.arr 1 h3 true 0,.arr 1 h4 true 0,.arr 1 h5 true 0,.arr 1 h6 true 0,.arr 1 h7 true 0] :=
  RunsTo.hin 0 60 [⟨1,1,.sl 0 0 p0 none p0 1,[.arr 1 h0 true 0]⟩,⟨1,3,.sl 1 0 p1 none p1 1,[.arr 1 h0 true 0,.arr 1 h1 true 0]⟩,⟨1,5,.sl 2 0 p2 none p2 1,[.arr 1 h0 true 0,.arr 1 h1 true 0,.arr 1 h2 true 0]⟩,⟨2,2,.tuple [.sl 3 0 p3 none p3 1,.i e1],[.arr 1 h0 true 0,.arr 1 h1 true 0,.arr 1 h2 true 0,.arr 1 h3 true 0]⟩,⟨3,3,.tuple [.sl 4 0 p4 none p4 1,.i e2],[.arr 1 h0 true 0,.arr 1 h1 true 0,.arr 1 h2 true 0,.arr 1 h3 true 0,.arr 1 h4 true 0]⟩,⟨4,1,.bool true,[.arr 1 h0 true 0,.arr 1 h1 true 0,.arr 1 h2 true 0,.arr 1 h3 true 0,.arr 1 h4 true 0]⟩,⟨4,6,.bool true,[.arr 1 h0 true 0,.arr 1 h1 true 0,.arr 1 h2 true 0,.arr 1 h3 true 0,.arr 1 h4 true 0]⟩,⟨6,3,.sl 5 0 p5 none p5 1,[.arr 1 h0 true 0,.arr 1 h1 true 0,.arr 1 h2 true 0,.arr 1 h3 true 0,.arr 1 h4 true 0,.arr 1 h5 true 0]⟩,⟨6,4,.tuple [.sl 6 0 p6 none p6 1,.bool true],[.arr 1 h0 true 0,.arr 1 h1 true 0,.arr 1 h2 true 0,.arr 1 h3 true 0,.arr 1 h4 true 0,.arr 1 h5 true 0,.arr 1 h6 true 0]⟩,⟨7,16,.bool true,[.arr 1 h0 true 0,.arr 1 h1 true 0,.arr 1 h2 true 0,.arr 1 h3 true 0,.arr 1 h4 true 0,.arr 1 h5 true 0,.arr 1 h6 true 0]⟩,⟨7,20,.bool false,[.arr 1 h0 true 0,.arr 1 h1 true 0,.arr 1 h2 true 0,.arr 1 h3 true 0,.arr 1 h4 true 0,.arr 1 h5 true 0,.arr 1 h6 true 0]⟩,⟨9,2,.bool true,[.arr 1 h0 true 0,.arr 1 h1 true 0,.arr 1 h2 true 0,.arr 1 h3 true 0,.arr 1 h4 true 0,.arr 1 h5 true 0,.arr 1 h6 true 0]⟩,⟨11,3,.tuple [.sl 7 0 p7 none p7 1,.bool true],[.arr 1 h0 true 0,.arr 1 h1 true 0,.arr 1 h2 true 0,.arr 1 h3 true 0,.arr 1 h4 true 0,.arr 1 h5 true 0,.arr 1 h6 true 0,.arr 1 h7 true 0]⟩,⟨14,2,.bool true,[.arr 1 h0 true 0,.arr 1 h1 true 0,.arr 1 h2 true 0,.arr 1 h3 true 0,.arr 1 h4 true 0,.arr 1 h5 true 0,.arr 1 h6 true 0,.arr 1 h7 true 0]⟩,⟨14,5,.bool true,[.arr 1 h0 true 0,.arr 1 h1 true 0,.arr 1 h2 true 0,.arr 1 h3 true 0,.arr 1 h4 true 0,.arr 1 h5 true 0,.arr 1 h6 true 0,.arr 1 h7 true 0]⟩,⟨14,8,.bool true,[.arr 1 h0 true 0,.arr 1 h1 true 0,.arr 1 h2 true 0,.arr 1 h3 true 0,.arr 1 h4 true 0,.arr 1 h5 true 0,.arr 1 h6 true 0,.arr 1 h7 true 0]⟩] fun kf hk=>⟨_,by kernel_rfl,(oC (g0 kf) (oC (g1 kf) (oC (g2 kf) (oC (g3 kf) (oC (g4 kf) (oC (g5 kf) (oC (g6 kf) (oC (g7 kf) (oC (g8 kf) (oC (g9 kf) (oB [.arr 1 h0 true 0,.arr 1 h1 true 0,.arr 1 h2 true 0,.arr 1 h3 true 0,.arr 1 h4 true 0,.arr 1 h5 true 0,.arr 1 h6 true 0] (congrArg not (decide_eq_true g10)) (oC (g11 kf) (oC (g12 kf) (oC (g13 kf) (oB [.arr 1 h0 true 0,.arr 1 h1 true 0,.arr 1 h2 true 0,.arr 1 h3 true 0,.arr 1 h4 true 0,.arr 1 h5 true 0,.arr 1 h6 true 0,.arr 1 h7 true 0] (decide_eq_true g14) (oC (g15 kf) .nil))))))))))))))))⟩
theorem sp_2 (l0 rw l2:List HV) (e1 e2:Int) (p0:Nat) (h0:List HV) (p1:Nat) (h1:List HV) (p2:Nat) (h2:List HV) (p3:Nat) (h3:List HV) (p4:Nat) (h4:List HV) (p5:Nat) (h5:List HV) (p6:Nat) (h6:List HV) (p7:Nat) (h7:List HV)(g0:∀ kf,callN Tp polL9 (kf+1) 14 [.imm .arg 1 l0] []=some (.sl 0 0 p0 none p0 1,[.arr 1 h0 true 0])) (g1:∀ kf,callN Tp polL9 (kf+1) 33 [.imm .arg 1 rw] [.arr 1 h0 true 0]=some (.sl 1 0 p1 none p1 1,[.arr 1 h0 true 0,.arr 1 h1 true 0])) (g2:∀ kf,callN Tp polL9 (kf+1) 14 [.imm .arg 1 l2] [.arr 1 h0 true 0,.arr 1 h1 true 0]=some (.sl 2 0 p2 none p2 1,[.arr 1 h0 true 0,.arr 1 h1 true 0,.arr 1 h2 true 0])) (g3:∀ kf,callN Tp polL9 (kf+1) 26 [.sl 0 0 p0 none p0 1,.sl 1 0 p1 none p1 1] [.arr 1 h0 true 0,.arr 1 h1 true 0,.arr 1 h2 true 0]=some (.tuple [.sl 3 0 p3 none p3 1,.i e1],[.arr 1 h0 true 0,.arr 1 h1 true 0,.arr 1 h2 true 0,.arr 1 h3 true 0])) (g4:∀ kf,callN Tp polL9 (kf+1) 34 [.sl 0 0 p0 none p0 1,.sl 1 0 p1 none p1 1,.sl 2 0 p2 none p2 1] [.arr 1 h0 true 0,.arr 1 h1 true 0,.arr 1 h2 true 0,.arr 1 h3 true 0]=some (.tuple [.sl 4 0 p4 none p4 1,.i e2],[.arr 1 h0 true 0,.arr 1 h1 true 0,.arr 1 h2 true 0,.arr 1 h3 true 0,.arr 1 h4 true 0])) (g5:∀ kf,callN Tp polL9 (kf+1) 35 [.sl 0 0 p0 none p0 1] [.arr 1 h0 true 0,.arr 1 h1 true 0,.arr 1 h2 true 0,.arr 1 h3 true 0,.arr 1 h4 true 0]=some (.bool true,[.arr 1 h0 true 0,.arr 1 h1 true 0,.arr 1 h2 true 0,.arr 1 h3 true 0,.arr 1 h4 true 0])) (g6:∀ kf,callN Tp polL9 (kf+1) 36 [.sl 0 0 p0 none p0 1,.sl 1 0 p1 none p1 1] [.arr 1 h0 true 0,.arr 1 h1 true 0,.arr 1 h2 true 0,.arr 1 h3 true 0,.arr 1 h4 true 0]=some (.bool true,[.arr 1 h0 true 0,.arr 1 h1 true 0,.arr 1 h2 true 0,.arr 1 h3 true 0,.arr 1 h4 true 0])) (g7:∀ kf,callN Tp polL9 (kf+1) 28 [.sl 0 0 p0 none p0 1] [.arr 1 h0 true 0,.arr 1 h1 true 0,.arr 1 h2 true 0,.arr 1 h3 true 0,.arr 1 h4 true 0]=some (.sl 5 0 p5 none p5 1,[.arr 1 h0 true 0,.arr 1 h1 true 0,.arr 1 h2 true 0,.arr 1 h3 true 0,.arr 1 h4 true 0,.arr 1 h5 true 0])) (g8:∀ kf,callN Tp polL9 (kf+1) 37 [.sl 0 0 p0 none p0 1,.sl 1 0 p1 none p1 1,.sl 5 0 p5 none p5 1,.i 1] [.arr 1 h0 true 0,.arr 1 h1 true 0,.arr 1 h2 true 0,.arr 1 h3 true 0,.arr 1 h4 true 0,.arr 1 h5 true 0]=some (.tuple [.sl 6 0 p6 none p6 1,.bool true],[.arr 1 h0 true 0,.arr 1 h1 true 0,.arr 1 h2 true 0,.arr 1 h3 true 0,.arr 1 h4 true 0,.arr 1 h5 true 0,.arr 1 h6 true 0])) (g9:∀ kf,callN Tp polL9 (kf+1) 17 [.sl 3 0 p3 none p3 1,.sl 6 0 p6 none p6 1] [.arr 1 h0 true 0,.arr 1 h1 true 0,.arr 1 h2 true 0,.arr 1 h3 true 0,.arr 1 h4 true 0,.arr 1 h5 true 0,.arr 1 h6 true 0]=some (.bool true,[.arr 1 h0 true 0,.arr 1 h1 true 0,.arr 1 h2 true 0,.arr 1 h3 true 0,.arr 1 h4 true 0,.arr 1 h5 true 0,.arr 1 h6 true 0])) (g10:e1=0) (g11:∀ kf,callN Tp polL9 (kf+1) 38 [.sl 0 0 p0 none p0 1,.sl 2 0 p2 none p2 1] [.arr 1 h0 true 0,.arr 1 h1 true 0,.arr 1 h2 true 0,.arr 1 h3 true 0,.arr 1 h4 true 0,.arr 1 h5 true 0,.arr 1 h6 true 0]=some (.bool true,[.arr 1 h0 true 0,.arr 1 h1 true 0,.arr 1 h2 true 0,.arr 1 h3 true 0,.arr 1 h4 true 0,.arr 1 h5 true 0,.arr 1 h6 true 0])) (g12:∀ kf,callN Tp polL9 (kf+1) 37 [.sl 0 0 p0 none p0 1,.sl 1 0 p1 none p1 1,.sl 2 0 p2 none p2 1,.i 0] [.arr 1 h0 true 0,.arr 1 h1 true 0,.arr 1 h2 true 0,.arr 1 h3 true 0,.arr 1 h4 true 0,.arr 1 h5 true 0,.arr 1 h6 true 0]=some (.tuple [.sl 7 0 p7 none p7 1,.bool false],[.arr 1 h0 true 0,.arr 1 h1 true 0,.arr 1 h2 true 0,.arr 1 h3 true 0,.arr 1 h4 true 0,.arr 1 h5 true 0,.arr 1 h6 true 0,.arr 1 h7 true 0])) (g13:(p4:Int)=0) (g14:e2=6) (g15:∀ kf,callN Tp polL9 (kf+1) 16 [] [.arr 1 h0 true 0,.arr 1 h1 true 0,.arr 1 h2 true 0,.arr 1 h3 true 0,.arr 1 h4 true 0,.arr 1 h5 true 0,.arr 1 h6 true 0,.arr 1 h7 true 0]=some (.bool true,[.arr 1 h0 true 0,.arr 1 h1 true 0,.arr 1 h2 true 0,.arr 1 h3 true 0,.arr 1 h4 true 0,.arr 1 h5 true 0,.arr 1 h6 true 0,.arr 1 h7 true 0])):RT polL9 9 (sub [] B9) [(0,.imm .arg 1 l0),(1,.imm .arg 1 rw),(2,.imm .arg 1 l2)] [] .ret (env9 (.imm .arg 1 l0) (.imm .arg 1 rw) (.imm .arg 1 l2) (.bool true) (.sl 0 0 p0 none p0 1) (.sl 1 0 p1 none p1 1) (.sl 2 0 p2 none p2 1) (.sl 3 0 p3 none p3 1) (.i e1) (.sl 4 0 p4 none p4 1) (.i e2) (.sl 6 0 p6 none p6 1) (.bool true) (.sl 7 0 p7 none p7 1) (.bool false)) [.arr 1 h0 true 0,.arr 1 h1 true 0,.arr 1 h2 true 0,.arr 1 h3 true 0,.arr 1 h4 true 0,.arr 1 h5 true 0,.arr 1 h6 true 0,.arr 1 h7 true 0] :=
  RunsTo.hin 0 60 [⟨1,1,.sl 0 0 p0 none p0 1,[.arr 1 h0 true 0]⟩,⟨1,3,.sl 1 0 p1 none p1 1,[.arr 1 h0 true 0,.arr 1 h1 true 0]⟩,⟨1,5,.sl 2 0 p2 none p2 1,[.arr 1 h0 true 0,.arr 1 h1 true 0,.arr 1 h2 true 0]⟩,⟨2,2,.tuple [.sl 3 0 p3 none p3 1,.i e1],[.arr 1 h0 true 0,.arr 1 h1 true 0,.arr 1 h2 true 0,.arr 1 h3 true 0]⟩,⟨3,3,.tuple [.sl 4 0 p4 none p4 1,.i e2],[.arr 1 h0 true 0,.arr 1 h1 true 0,.arr 1 h2 true 0,.arr 1 h3 true 0,.arr 1 h4 true 0]⟩,⟨4,1,.bool true,[.arr 1 h0 true 0,.arr 1 h1 true 0,.arr 1 h2 true 0,.arr 1 h3 true 0,.arr 1 h4 true 0]⟩,⟨4,6,.bool true,[.arr 1 h0 true 0,.arr 1 h1 true 0,.arr 1 h2 true 0,.arr 1 h3 true 0,.arr 1 h4 true 0]⟩,⟨6,3,.sl 5 0 p5 none p5 1,[.arr 1 h0 true 0,.arr 1 h1 true 0,.arr 1 h2 true 0,.arr 1 h3 true 0,.arr 1 h4 true 0,.arr 1 h5 true 0]⟩,⟨6,4,.tuple [.sl 6 0 p6 none p6 1,.bool true],[.arr 1 h0 true 0,.arr 1 h1 true 0,.arr 1 h2 true 0,.arr 1 h3 true 0,.arr 1 h4 true 0,.arr 1 h5 true 0,.arr 1 h6 true 0]⟩,⟨7,16,.bool true,[.arr 1 h0 true 0,.arr 1 h1 true 0,.arr 1 h2 true 0,.arr 1 h3 true 0,.arr 1 h4 true 0,.arr 1 h5 true 0,.arr 1 h6 true 0]⟩,⟨7,20,.bool false,[.arr 1 h0 true 0,.arr 1 h1 true 0,.arr 1 h2 true 0,.arr 1 h3 true 0,.arr 1 h4 true 0,.arr 1 h5 true 0,.arr 1 h6 true 0]⟩,⟨9,2,.bool true,[.arr 1 h0 true 0,.arr 1 h1 true 0,.arr 1 h2 true 0,.arr 1 h3 true 0,.arr 1 h4 true 0,.arr 1 h5 true 0,.arr 1 h6 true 0]⟩,⟨11,3,.tuple [.sl 7 0 p7 none p7 1,.bool false],[.arr 1 h0 true 0,.arr 1 h1 true 0,.arr 1 h2 true 0,.arr 1 h3 true 0,.arr 1 h4 true 0,.arr 1 h5 true 0,.arr 1 h6 true 0,.arr 1 h7 true 0]⟩,⟨13,2,.bool true,[.arr 1 h0 true 0,.arr 1 h1 true 0,.arr 1 h2 true 0,.arr 1 h3 true 0,.arr 1 h4 true 0,.arr 1 h5 true 0,.arr 1 h6 true 0,.arr 1 h7 true 0]⟩,⟨13,5,.bool true,[.arr 1 h0 true 0,.arr 1 h1 true 0,.arr 1 h2 true 0,.arr 1 h3 true 0,.arr 1 h4 true 0,.arr 1 h5 true 0,.arr 1 h6 true 0,.arr 1 h7 true 0]⟩,⟨13,8,.bool true,[.arr 1 h0 true 0,.arr 1 h1 true 0,.arr 1 h2 true 0,.arr 1 h3 true 0,.arr 1 h4 true 0,.arr 1 h5 true 0,.arr 1 h6 true 0,.arr 1 h7 true 0]⟩] fun kf hk=>⟨_,by kernel_rfl,(oC (g0 kf) (oC (g1 kf) (oC (g2 kf) (oC (g3 kf) (oC (g4 kf) (oC (g5 kf) (oC (g6 kf) (oC (g7 kf) (oC (g8 kf) (oC (g9 kf) (oB [.arr 1 h0 true 0,.arr 1 h1 true 0,.arr 1 h2 true 0,.arr 1 h3 true 0,.arr 1 h4 true 0,.arr 1 h5 true 0,.arr 1 h6 true 0] (congrArg not (decide_eq_true g10)) (oC (g11 kf) (oC (g12 kf) (oB [.arr 1 h0 true 0,.arr 1 h1 true 0,.arr 1 h2 true 0,.arr 1 h3 true 0,.arr 1 h4 true 0,.arr 1 h5 true 0,.arr 1 h6 true 0,.arr 1 h7 true 0] (decide_eq_true g13) (oB [.arr 1 h0 true 0,.arr 1 h1 true 0,.arr 1 h2 true 0,.arr 1 h3 true 0,.arr 1 h4 true 0,.arr 1 h5 true 0,.arr 1 h6 true 0,.arr 1 h7 true 0] (decide_eq_true g14) (oC (g15 kf) .nil))))))))))))))))⟩
theorem sp_5 (l0 rw l2:List HV) (e1 e2:Int) (p0:Nat) (h0:List HV) (p1:Nat) (h1:List HV) (p2:Nat) (h2:List HV) (p3:Nat) (h3:List HV) (p4:Nat) (h4:List HV) (p5:Nat) (h5:List HV) (p6:Nat) (h6:List HV) (p7:Nat) (h7:List HV)(g0:∀ kf,callN Tp polL9 (kf+1) 14 [.imm .arg 1 l0] []=some (.sl 0 0 p0 none p0 1,[.arr 1 h0 true 0])) (g1:∀ kf,callN Tp polL9 (kf+1) 33 [.imm .arg 1 rw] [.arr 1 h0 true 0]=some (.sl 1 0 p1 none p1 1,[.arr 1 h0 true 0,.arr 1 h1 true 0])) (g2:∀ kf,callN Tp polL9 (kf+1) 14 [.imm .arg 1 l2] [.arr 1 h0 true 0,.arr 1 h1 true 0]=some (.sl 2 0 p2 none p2 1,[.arr 1 h0 true 0,.arr 1 h1 true 0,.arr 1 h2 true 0])) (g3:∀ kf,callN Tp polL9 (kf+1) 26 [.sl 0 0 p0 none p0 1,.sl 1 0 p1 none p1 1] [.arr 1 h0 true 0,.arr 1 h1 true 0,.arr 1 h2 true 0]=some (.tuple [.sl 3 0 p3 none p3 1,.i e1],[.arr 1 h0 true 0,.arr 1 h1 true 0,.arr 1 h2 true 0,.arr 1 h3 true 0])) (g4:∀ kf,callN Tp polL9 (kf+1) 34 [.sl 0 0 p0 none p0 1,.sl 1 0 p1 none p1 1,.sl 2 0 p2 none p2 1] [.arr 1 h0 true 0,.arr 1 h1 true 0,.arr 1 h2 true 0,.arr 1 h3 true 0]=some (.tuple [.sl 4 0 p4 none p4 1,.i e2],[.arr 1 h0 true 0,.arr 1 h1 true 0,.arr 1 h2 true 0,.arr 1 h3 true 0,.arr 1 h4 true 0])) (g5:∀ kf,callN Tp polL9 (kf+1) 35 [.sl 0 0 p0 none p0 1] [.arr 1 h0 true 0,.arr 1 h1 true 0,.arr 1 h2 true 0,.arr 1 h3 true 0,.arr 1 h4 true 0]=some (.bool true,[.arr 1 h0 true 0,.arr 1 h1 true 0,.arr 1 h2 true 0,.arr 1 h3 true 0,.arr 1 h4 true 0])) (g6:∀ kf,callN Tp polL9 (kf+1) 36 [.sl 0 0 p0 none p0 1,.sl 1 0 p1 none p1 1] [.arr 1 h0 true 0,.arr 1 h1 true 0,.arr 1 h2 true 0,.arr 1 h3 true 0,.arr 1 h4 true 0]=some (.bool true,[.arr 1 h0 true 0,.arr 1 h1 true 0,.arr 1 h2 true 0,.arr 1 h3 true 0,.arr 1 h4 true 0])) (g7:∀ kf,callN Tp polL9 (kf+1) 28 [.sl 0 0 p0 none p0 1] [.arr 1 h0 true 0,.arr 1 h1 true 0,.arr 1 h2 true 0,.arr 1 h3 true 0,.arr 1 h4 true 0]=some (.sl 5 0 p5 none p5 1,[.arr 1 h0 true 0,.arr 1 h1 true 0,.arr 1 h2 true 0,.arr 1 h3 true 0,.arr 1 h4 true 0,.arr 1 h5 true 0])) (g8:∀ kf,callN Tp polL9 (kf+1) 37 [.sl 0 0 p0 none p0 1,.sl 1 0 p1 none p1 1,.sl 5 0 p5 none p5 1,.i 1] [.arr 1 h0 true 0,.arr 1 h1 true 0,.arr 1 h2 true 0,.arr 1 h3 true 0,.arr 1 h4 true 0,.arr 1 h5 true 0]=some (.tuple [.sl 6 0 p6 none p6 1,.bool true],[.arr 1 h0 true 0,.arr 1 h1 true 0,.arr 1 h2 true 0,.arr 1 h3 true 0,.arr 1 h4 true 0,.arr 1 h5 true 0,.arr 1 h6 true 0])) (g9:∀ kf,callN Tp polL9 (kf+1) 17 [.sl 3 0 p3 none p3 1,.sl 6 0 p6 none p6 1] [.arr 1 h0 true 0,.arr 1 h1 true 0,.arr 1 h2 true 0,.arr 1 h3 true 0,.arr 1 h4 true 0,.arr 1 h5 true 0,.arr 1 h6 true 0]=some (.bool true,[.arr 1 h0 true 0,.arr 1 h1 true 0,.arr 1 h2 true 0,.arr 1 h3 true 0,.arr 1 h4 true 0,.arr 1 h5 true 0,.arr 1 h6 true 0])) (g10:e1=0) (g11:∀ kf,callN Tp polL9 (kf+1) 38 [.sl 0 0 p0 none p0 1,.sl 2 0 p2 none p2 1] [.arr 1 h0 true 0,.arr 1 h1 true 0,.arr 1 h2 true 0,.arr 1 h3 true 0,.arr 1 h4 true 0,.arr 1 h5 true 0,.arr 1 h6 true 0]=some (.bool false,[.arr 1 h0 true 0,.arr 1 h1 true 0,.arr 1 h2 true 0,.arr 1 h3 true 0,.arr 1 h4 true 0,.arr 1 h5 true 0,.arr 1 h6 true 0])) (g12:(p4:Int)=0) (g13:e2=2) (g14:∀ kf,callN Tp polL9 (kf+1) 16 [] [.arr 1 h0 true 0,.arr 1 h1 true 0,.arr 1 h2 true 0,.arr 1 h3 true 0,.arr 1 h4 true 0,.arr 1 h5 true 0,.arr 1 h6 true 0]=some (.bool true,[.arr 1 h0 true 0,.arr 1 h1 true 0,.arr 1 h2 true 0,.arr 1 h3 true 0,.arr 1 h4 true 0,.arr 1 h5 true 0,.arr 1 h6 true 0])):RT polL9 9 (sub [] B9) [(0,.imm .arg 1 l0),(1,.imm .arg 1 rw),(2,.imm .arg 1 l2)] [] .ret (env9 (.imm .arg 1 l0) (.imm .arg 1 rw) (.imm .arg 1 l2) (.bool true) (.sl 0 0 p0 none p0 1) (.sl 1 0 p1 none p1 1) (.sl 2 0 p2 none p2 1) (.sl 3 0 p3 none p3 1) (.i e1) (.sl 4 0 p4 none p4 1) (.i e2) (.sl 6 0 p6 none p6 1) (.bool true) Ud Ud) [.arr 1 h0 true 0,.arr 1 h1 true 0,.arr 1 h2 true 0,.arr 1 h3 true 0,.arr 1 h4 true 0,.arr 1 h5 true 0,.arr 1 h6 true 0] :=
  RunsTo.hin 0 60 [⟨1,1,.sl 0 0 p0 none p0 1,[.arr 1 h0 true 0]⟩,⟨1,3,.sl 1 0 p1 none p1 1,[.arr 1 h0 true 0,.arr 1 h1 true 0]⟩,⟨1,5,.sl 2 0 p2 none p2 1,[.arr 1 h0 true 0,.arr 1 h1 true 0,.arr 1 h2 true 0]⟩,⟨2,2,.tuple [.sl 3 0 p3 none p3 1,.i e1],[.arr 1 h0 true 0,.arr 1 h1 true 0,.arr 1 h2 true 0,.arr 1 h3 true 0]⟩,⟨3,3,.tuple [.sl 4 0 p4 none p4 1,.i e2],[.arr 1 h0 true 0,.arr 1 h1 true 0,.arr 1 h2 true 0,.arr 1 h3 true 0,.arr 1 h4 true 0]⟩,⟨4,1,.bool true,[.arr 1 h0 true 0,.arr 1 h1 true 0,.arr 1 h2 true 0,.arr 1 h3 true 0,.arr 1 h4 true 0]⟩,⟨4,6,.bool true,[.arr 1 h0 true 0,.arr 1 h1 true 0,.arr 1 h2 true 0,.arr 1 h3 true 0,.arr 1 h4 true 0]⟩,⟨6,3,.sl 5 0 p5 none p5 1,[.arr 1 h0 true 0,.arr 1 h1 true 0,.arr 1 h2 true 0,.arr 1 h3 true 0,.arr 1 h4 true 0,.arr 1 h5 true 0]⟩,⟨6,4,.tuple [.sl 6 0 p6 none p6 1,.bool true],[.arr 1 h0 true 0,.arr 1 h1 true 0,.arr 1 h2 true 0,.arr 1 h3 true 0,.arr 1 h4 true 0,.arr 1 h5 true 0,.arr 1 h6 true 0]⟩,⟨7,16,.bool true,[.arr 1 h0 true 0,.arr 1 h1 true 0,.arr 1 h2 true 0,.arr 1 h3 true 0,.arr 1 h4 true 0,.arr 1 h5 true 0,.arr 1 h6 true 0]⟩,⟨7,20,.bool false,[.arr 1 h0 true 0,.arr 1 h1 true 0,.arr 1 h2 true 0,.arr 1 h3 true 0,.arr 1 h4 true 0,.arr 1 h5 true 0,.arr 1 h6 true 0]⟩,⟨9,2,.bool false,[.arr 1 h0 true 0,.arr 1 h1 true 0,.arr 1 h2 true 0,.arr 1 h3 true 0,.arr 1 h4 true 0,.arr 1 h5 true 0,.arr 1 h6 true 0]⟩,⟨10,2,.bool true,[.arr 1 h0 true 0,.arr 1 h1 true 0,.arr 1 h2 true 0,.arr 1 h3 true 0,.arr 1 h4 true 0,.arr 1 h5 true 0,.arr 1 h6 true 0]⟩,⟨10,5,.bool true,[.arr 1 h0 true 0,.arr 1 h1 true 0,.arr 1 h2 true 0,.arr 1 h3 true 0,.arr 1 h4 true 0,.arr 1 h5 true 0,.arr 1 h6 true 0]⟩,⟨10,8,.bool true,[.arr 1 h0 true 0,.arr 1 h1 true 0,.arr 1 h2 true 0,.arr 1 h3 true 0,.arr 1 h4 true 0,.arr 1 h5 true 0,.arr 1 h6 true 0]⟩] fun kf hk=>⟨_,by kernel_rfl,(oC (g0 kf) (oC (g1 kf) (oC (g2 kf) (oC (g3 kf) (oC (g4 kf) (oC (g5 kf) (oC (g6 kf) (oC (g7 kf) (oC (g8 kf) (oC (g9 kf) (oB [.arr 1 h0 true 0,.arr 1 h1 true 0,.arr 1 h2 true 0,.arr 1 h3 true 0,.arr 1 h4 true 0,.arr 1 h5 true 0,.arr 1 h6 true 0] (congrArg not (decide_eq_true g10)) (oC (g11 kf) (oB [.arr 1 h0 true 0,.arr 1 h1 true 0,.arr 1 h2 true 0,.arr 1 h3 true 0,.arr 1 h4 true 0,.arr 1 h5 true 0,.arr 1 h6 true 0] (decide_eq_true g12) (oB [.arr 1 h0 true 0,.arr 1 h1 true 0,.arr 1 h2 true 0,.arr 1 h3 true 0,.arr 1 h4 true 0,.arr 1 h5 true 0,.arr 1 h6 true 0] (decide_eq_true g13) (oC (g14 kf) .nil)))))))))))))))⟩
theorem sp_9 (l0 rw l2:List HV) (e1 e2:Int) (p0:Nat) (h0:List HV) (p1:Nat) (h1:List HV) (p2:Nat) (h2:List HV) (p3:Nat) (h3:List HV) (p4:Nat) (h4:List HV) (p5:Nat) (h5:List HV) (p6:Nat) (h6:List HV) (p7:Nat) (h7:List HV)(g0:∀ kf,callN Tp polL9 (kf+1) 14 [.imm .arg 1 l0] []=some (.sl 0 0 p0 none p0 1,[.arr 1 h0 true 0])) (g1:∀ kf,callN Tp polL9 (kf+1) 33 [.imm .arg 1 rw] [.arr 1 h0 true 0]=some (.sl 1 0 p1 none p1 1,[.arr 1 h0 true 0,.arr 1 h1 true 0])) (g2:∀ kf,callN Tp polL9 (kf+1) 14 [.imm .arg 1 l2] [.arr 1 h0 true 0,.arr 1 h1 true 0]=some (.sl 2 0 p2 none p2 1,[.arr 1 h0 true 0,.arr 1 h1 true 0,.arr 1 h2 true 0])) (g3:∀ kf,callN Tp polL9 (kf+1) 26 [.sl 0 0 p0 none p0 1,.sl 1 0 p1 none p1 1] [.arr 1 h0 true 0,.arr 1 h1 true 0,.arr 1 h2 true 0]=some (.tuple [.sl 3 0 p3 none p3 1,.i e1],[.arr 1 h0 true 0,.arr 1 h1 true 0,.arr 1 h2 true 0,.arr 1 h3 true 0])) (g4:∀ kf,callN Tp polL9 (kf+1) 34 [.sl 0 0 p0 none p0 1,.sl 1 0 p1 none p1 1,.sl 2 0 p2 none p2 1] [.arr 1 h0 true 0,.arr 1 h1 true 0,.arr 1 h2 true 0,.arr 1 h3 true 0]=some (.tuple [.sl 4 0 p4 none p4 1,.i e2],[.arr 1 h0 true 0,.arr 1 h1 true 0,.arr 1 h2 true 0,.arr 1 h3 true 0,.arr 1 h4 true 0])) (g5:∀ kf,callN Tp polL9 (kf+1) 35 [.sl 0 0 p0 none p0 1] [.arr 1 h0 true 0,.arr 1 h1 true 0,.arr 1 h2 true 0,.arr 1 h3 true 0,.arr 1 h4 true 0]=some (.bool true,[.arr 1 h0 true 0,.arr 1 h1 true 0,.arr 1 h2 true 0,.arr 1 h3 true 0,.arr 1 h4 true 0])) (g6:∀ kf,callN Tp polL9 (kf+1) 36 [.sl 0 0 p0 none p0 1,.sl 1 0 p1 none p1 1] [.arr 1 h0 true 0,.arr 1 h1 true 0,.arr 1 h2 true 0,.arr 1 h3 true 0,.arr 1 h4 true 0]=some (.bool true,[.arr 1 h0 true 0,.arr 1 h1 true 0,.arr 1 h2 true 0,.arr 1 h3 true 0,.arr 1 h4 true 0])) (g7:∀ kf,callN Tp polL9 (kf+1) 28 [.sl 0 0 p0 none p0 1] [.arr 1 h0 true 0,.arr 1 h1 true 0,.arr 1 h2 true 0,.arr 1 h3 true 0,.arr 1 h4 true 0]=some (.sl 5 0 p5 none p5 1,[.arr 1 h0 true 0,.arr 1 h1 true 0,.arr 1 h2 true 0,.arr 1 h3 true 0,.arr 1 h4 true 0,.arr 1 h5 true 0])) (g8:∀ kf,callN Tp polL9 (kf+1) 37 [.sl 0 0 p0 none p0 1,.sl 1 0 p1 none p1 1,.sl 5 0 p5 none p5 1,.i 1] [.arr 1 h0 true 0,.arr 1 h1 true 0,.arr 1 h2 true 0,.arr 1 h3 true 0,.arr 1 h4 true 0,.arr 1 h5 true 0]=some (.tuple [.sl 6 0 p6 none p6 1,.bool false],[.arr 1 h0 true 0,.arr 1 h1 true 0,.arr 1 h2 true 0,.arr 1 h3 true 0,.arr 1 h4 true 0,.arr 1 h5 true 0,.arr 1 h6 true 0])) (g9:(p3:Int)=0) (g10:e1=6) (g11:∀ kf,callN Tp polL9 (kf+1) 38 [.sl 0 0 p0 none p0 1,.sl 2 0 p2 none p2 1] [.arr 1 h0 true 0,.arr 1 h1 true 0,.arr 1 h2 true 0,.arr 1 h3 true 0,.arr 1 h4 true 0,.arr 1 h5 true 0,.arr 1 h6 true 0]=some (.bool true,[.arr 1 h0 true 0,.arr 1 h1 true 0,.arr 1 h2 true 0,.arr 1 h3 true 0,.arr 1 h4 true 0,.arr 1 h5 true 0,.arr 1 h6 true 0])) (g12:∀ kf,callN Tp polL9 (kf+1) 37 [.sl 0 0 p0 none p0 1,.sl 1 0 p1 none p1 1,.sl 2 0 p2 none p2 1,.i 0] [.arr 1 h0 true 0,.arr 1 h1 true 0,.arr 1 h2 true 0,.arr 1 h3 true 0,.arr 1 h4 true 0,.arr 1 h5 true 0,.arr 1 h6 true 0]=some (.tuple [.sl 7 0 p7 none p7 1,.bool true],[.arr 1 h0 true 0,.arr 1 h1 true 0,.arr 1 h2 true 0,.arr 1 h3 true 0,.arr 1 h4 true 0,.arr 1 h5 true 0,.arr 1 h6 true 0,.arr 1 h7 true 0])) (g13:∀ kf,callN Tp polL9 (kf+1) 17 [.sl 4 0 p4 none p4 1,.sl 7 0 p7 none p7 1] [.arr 1 h0 true 0,.arr 1 h1 true 0,.arr 1 h2 true 0,.arr 1 h3 true 0,.arr 1 h4 true 0,.arr 1 h5 true 0,.arr 1 h6 true 0,.arr 1 h7 true 0]=some (.bool true,[.arr 1 h0 true 0,.arr 1 h1 true 0,.arr 1 h2 true 0,.arr 1 h3 true 0,.arr 1 h4 true 0,.arr 1 h5 true 0,.arr 1 h6 true 0,.arr 1 h7 true 0])) (g14:e2=0) (g15:∀ kf,callN Tp polL9 (kf+1) 16 [] [.arr 1 h0 true 0,.arr 1 h1 true 0,.arr 1 h2 true 0,.arr 1 h3 true 0,.arr 1 h4 true 0,.arr 1 h5 true 0,.arr 1 h6 true 0,.arr 1 h7 true 0]=some (.bool true,[.arr 1 h0 true 0,.arr 1 h1 true 0,.arr 1 h2 true 0,.arr 1 h3 true 0,.arr 1 h4 true 0,.arr 1 h5 true 0,.arr 1 h6 true 0,.arr 1 h7 true 0])):RT polL9 9 (sub [] B9) [(0,.imm .arg 1 l0),(1,.imm .arg 1 rw),(2,.imm .arg 1 l2)] [] .ret (env9 (.imm .arg 1 l0) (.imm .arg 1 rw) (.imm .arg 1 l2) (.bool true) (.sl 0 0 p0 none p0 1) (.sl 1 0 p1 none p1 1) (.sl 2 0 p2 none p2 1) (.sl 3 0 p3 none p3 1) (.i e1) (.sl 4 0 p4 none p4 1) (.i e2) (.sl 6 0 p6 none p6 1) (.bool false) (.sl 7 0 p7 none p7 1) (.bool true)) [.arr 1 h0 true 0,.arr 1 h1 true 0,.arr 1 h2 true 0,.arr 1 h3 true 0,.arr 1 h4 true 0,.arr 1 h5 true 0,.arr 1 h6 true 0,.arr 1 h7 true 0] :=
  RunsTo.hin 0 60 [⟨1,1,.sl 0 0 p0 none p0 1,[.arr 1 h0 true 0]⟩,⟨1,3,.sl 1 0 p1 none p1 1,[.arr 1 h0 true 0,.arr 1 h1 true 0]⟩,⟨1,5,.sl 2 0 p2 none p2 1,[.arr 1 h0 true 0,.arr 1 h1 true 0,.arr 1 h2 true 0]⟩,⟨2,2,.tuple [.sl 3 0 p3 none p3 1,.i e1],[.arr 1 h0 true 0,.arr 1 h1 true 0,.arr 1 h2 true 0,.arr 1 h3 true 0]⟩,⟨3,3,.tuple [.sl 4 0 p4 none p4 1,.i e2],[.arr 1 h0 true 0,.arr 1 h1 true 0,.arr 1 h2 true 0,.arr 1 h3 true 0,.arr 1 h4 true 0]⟩,⟨4,1,.bool true,[.arr 1 h0 true 0,.arr 1 h1 true 0,.arr 1 h2 true 0,.arr 1 h3 true 0,.arr 1 h4 true 0]⟩,⟨4,6,.bool true,[.arr 1 h0 true 0,.arr 1 h1 true 0,.arr 1 h2 true 0,.arr 1 h3 true 0,.arr 1 h4 true 0]⟩,⟨6,3,.sl 5 0 p5 none p5 1,[.arr 1 h0 true 0,.arr 1 h1 true 0,.arr 1 h2 true 0,.arr 1 h3 true 0,.arr 1 h4 true 0,.arr 1 h5 true 0]⟩,⟨6,4,.tuple [.sl 6 0 p6 none p6 1,.bool false],[.arr 1 h0 true 0,.arr 1 h1 true 0,.arr 1 h2 true 0,.arr 1 h3 true 0,.arr 1 h4 true 0,.arr 1 h5 true 0,.arr 1 h6 true 0]⟩,⟨7,5,.bool false,[.arr 1 h0 true 0,.arr 1 h1 true 0,.arr 1 h2 true 0,.arr 1 h3 true 0,.arr 1 h4 true 0,.arr 1 h5 true 0,.arr 1 h6 true 0]⟩,⟨7,8,.bool false,[.arr 1 h0 true 0,.arr 1 h1 true 0,.arr 1 h2 true 0,.arr 1 h3 true 0,.arr 1 h4 true 0,.arr 1 h5 true 0,.arr 1 h6 true 0]⟩,⟨9,2,.bool true,[.arr 1 h0 true 0,.arr 1 h1 true 0,.arr 1 h2 true 0,.arr 1 h3 true 0,.arr 1 h4 true 0,.arr 1 h5 true 0,.arr 1 h6 true 0]⟩,⟨11,3,.tuple [.sl 7 0 p7 none p7 1,.bool true],[.arr 1 h0 true 0,.arr 1 h1 true 0,.arr 1 h2 true 0,.arr 1 h3 true 0,.arr 1 h4 true 0,.arr 1 h5 true 0,.arr 1 h6 true 0,.arr 1 h7 true 0]⟩,⟨14,2,.bool true,[.arr 1 h0 true 0,.arr 1 h1 true 0,.arr 1 h2 true 0,.arr 1 h3 true 0,.arr 1 h4 true 0,.arr 1 h5 true 0,.arr 1 h6 true 0,.arr 1 h7 true 0]⟩,⟨14,5,.bool true,[.arr 1 h0 true 0,.arr 1 h1 true 0,.arr 1 h2 true 0,.arr 1 h3 true 0,.arr 1 h4 true 0,.arr 1 h5 true 0,.arr 1 h6 true 0,.arr 1 h7 true 0]⟩,⟨14,8,.bool true,[.arr 1 h0 true 0,.arr 1 h1 true 0,.arr 1 h2 true 0,.arr 1 h3 true 0,.arr 1 h4 true 0,.arr 1 h5 true 0,.arr 1 h6 true 0,.arr 1 h7 true 0]⟩] fun kf hk=>⟨_,by kernel_rfl,(oC (g0 kf) (oC (g1 kf) (oC (g2 kf) (oC (g3 kf) (oC (g4 kf) (oC (g5 kf) (oC (g6 kf) (oC (g7 kf) (oC (g8 kf) (oB [.arr 1 h0 true 0,.arr 1 h1 true 0,.arr 1 h2 true 0,.arr 1 h3 true 0,.arr 1 h4 true 0,.arr 1 h5 true 0,.arr 1 h6 true 0] (congrArg not (decide_eq_true g9)) (oB [.arr 1 h0 true 0,.arr 1 h1 true 0,.arr 1 h2 true 0,.arr 1 h3 true 0,.arr 1 h4 true 0,.arr 1 h5 true 0,.arr 1 h6 true 0] (congrArg not (decide_eq_true g10)) (oC (g11 kf) (oC (g12 kf) (oC (g13 kf) (oB [.arr 1 h0 true 0,.arr 1 h1 true 0,.arr 1 h2 true 0,.arr 1 h3 true 0,.arr 1 h4 true 0,.arr 1 h5 true 0,.arr 1 h6 true 0,.arr 1 h7 true 0] (decide_eq_true g14) (oC (g15 kf) .nil))))))))))))))))⟩
theorem sp_11 (l0 rw l2:List HV) (e1 e2:Int) (p0:Nat) (h0:List HV) (p1:Nat) (h1:List HV) (p2:Nat) (h2:List HV) (p3:Nat) (h3:List HV) (p4:Nat) (h4:List HV) (p5:Nat) (h5:List HV) (p6:Nat) (h6:List HV) (p7:Nat) (h7:List HV)(g0:∀ kf,callN Tp polL9 (kf+1) 14 [.imm .arg 1 l0] []=some (.sl 0 0 p0 none p0 1,[.arr 1 h0 true 0])) (g1:∀ kf,callN Tp polL9 (kf+1) 33 [.imm .arg 1 rw] [.arr 1 h0 true 0]=some (.sl 1 0 p1 none p1 1,[.arr 1 h0 true 0,.arr 1 h1 true 0])) (g2:∀ kf,callN Tp polL9 (kf+1) 14 [.imm .arg 1 l2] [.arr 1 h0 true 0,.arr 1 h1 true 0]=some (.sl 2 0 p2 none p2 1,[.arr 1 h0 true 0,.arr 1 h1 true 0,.arr 1 h2 true 0])) (g3:∀ kf,callN Tp polL9 (kf+1) 26 [.sl 0 0 p0 none p0 1,.sl 1 0 p1 none p1 1] [.arr 1 h0 true 0,.arr 1 h1 true 0,.arr 1 h2 true 0]=some (.tuple [.sl 3 0 p3 none p3 1,.i e1],[.arr 1 h0 true 0,.arr 1 h1 true 0,.arr 1 h2 true 0,.arr 1 h3 true 0])) (g4:∀ kf,callN Tp polL9 (kf+1) 34 [.sl 0 0 p0 none p0 1,.sl 1 0 p1 none p1 1,.sl 2 0 p2 none p2 1] [.arr 1 h0 true 0,.arr 1 h1 true 0,.arr 1 h2 true 0,.arr 1 h3 true 0]=some (.tuple [.sl 4 0 p4 none p4 1,.i e2],[.arr 1 h0 true 0,.arr 1 h1 true 0,.arr 1 h2 true 0,.arr 1 h3 true 0,.arr 1 h4 true 0])) (g5:∀ kf,callN Tp polL9 (kf+1) 35 [.sl 0 0 p0 none p0 1] [.arr 1 h0 true 0,.arr 1 h1 true 0,.arr 1 h2 true 0,.arr 1 h3 true 0,.arr 1 h4 true 0]=some (.bool true,[.arr 1 h0 true 0,.arr 1 h1 true 0,.arr 1 h2 true 0,.arr 1 h3 true 0,.arr 1 h4 true 0])) (g6:∀ kf,callN Tp polL9 (kf+1) 36 [.sl 0 0 p0 none p0 1,.sl 1 0 p1 none p1 1] [.arr 1 h0 true 0,.arr 1 h1 true 0,.arr 1 h2 true 0,.arr 1 h3 true 0,.arr 1 h4 true 0]=some (.bool true,[.arr 1 h0 true 0,.arr 1 h1 true 0,.arr 1 h2 true 0,.arr 1 h3 true 0,.arr 1 h4 true 0])) (g7:∀ kf,callN Tp polL9 (kf+1) 28 [.sl 0 0 p0 none p0 1] [.arr 1 h0 true 0,.arr 1 h1 true 0,.arr 1 h2 true 0,.arr 1 h3 true 0,.arr 1 h4 true 0]=some (.sl 5 0 p5 none p5 1,[.arr 1 h0 true 0,.arr 1 h1 true 0,.arr 1 h2 true 0,.arr 1 h3 true 0,.arr 1 h4 true 0,.arr 1 h5 true 0])) (g8:∀ kf,callN Tp polL9 (kf+1) 37 [.sl 0 0 p0 none p0 1,.sl 1 0 p1 none p1 1,.sl 5 0 p5 none p5 1,.i 1] [.arr 1 h0 true 0,.arr 1 h1 true 0,.arr 1 h2 true 0,.arr 1 h3 true 0,.arr 1 h4 true 0,.arr 1 h5 true 0]=some (.tuple [.sl 6 0 p6 none p6 1,.bool false],[.arr 1 h0 true 0,.arr 1 h1 true 0,.arr 1 h2 true 0,.arr 1 h3 true 0,.arr 1 h4 true 0,.arr 1 h5 true 0,.arr 1 h6 true 0])) (g9:(p3:Int)=0) (g10:e1=6) (g11:∀ kf,callN Tp polL9 (kf+1) 38 [.sl 0 0 p0 none p0 1,.sl 2 0 p2 none p2 1] [.arr 1 h0 true 0,.arr 1 h1 true 0,.arr 1 h2 true 0,.arr 1 h3 true 0,.arr 1 h4 true 0,.arr 1 h5 true 0,.arr 1 h6 true 0]=some (.bool true,[.arr 1 h0 true 0,.arr 1 h1 true 0,.arr 1 h2 true 0,.arr 1 h3 true 0,.arr 1 h4 true 0,.arr 1 h5 true 0,.arr 1 h6 true 0])) (g12:∀ kf,callN Tp polL9 (kf+1) 37 [.sl 0 0 p0 none p0 1,.sl 1 0 p1 none p1 1,.sl 2 0 p2 none p2 1,.i 0] [.arr 1 h0 true 0,.arr 1 h1 true 0,.arr 1 h2 true 0,.arr 1 h3 true 0,.arr 1 h4 true 0,.arr 1 h5 true 0,.arr 1 h6 true 0]=some (.tuple [.sl 7 0 p7 none p7 1,.bool false],[.arr 1 h0 true 0,.arr 1 h1 true 0,.arr 1 h2 true 0,.arr 1 h3 true 0,.arr 1 h4 true 0,.arr 1 h5 true 0,.arr 1 h6 true 0,.arr 1 h7 true 0])) (g13:(p4:Int)=0) (g14:e2=6) (g15:∀ kf,callN Tp polL9 (kf+1) 16 [] [.arr 1 h0 true 0,.arr 1 h1 true 0,.arr 1 h2 true 0,.arr 1 h3 true 0,.arr 1 h4 true 0,.arr 1 h5 true 0,.arr 1 h6 true 0,.arr 1 h7 true 0]=some (.bool true,[.arr 1 h0 true 0,.arr 1 h1 true 0,.arr 1 h2 true 0,.arr 1 h3 true 0,.arr 1 h4 true 0,.arr 1 h5 true 0,.arr 1 h6 true 0,.arr 1 h7 true 0])):RT polL9 9 (sub [] B9) [(0,.imm .arg 1 l0),(1,.imm .arg 1 rw),(2,.imm .arg 1 l2)] [] .ret (env9 (.imm .arg 1 l0) (.imm .arg 1 rw) (.imm .arg 1 l2) (.bool true) (.sl 0 0 p0 none p0 1) (.sl 1 0 p1 none p1 1) (.sl 2 0 p2 none p2 1) (.sl 3 0 p3 none p3 1) (.i e1) (.sl 4 0 p4 none p4 1) (.i e2) (.sl 6 0 p6 none p6 1) (.bool false) (.sl 7 0 p7 none p7 1) (.bool false)) [.arr 1 h0 true 0,.arr 1 h1 true 0,.arr 1 h2 true 0,.arr 1 h3 true 0,.arr 1 h4 true 0,.arr 1 h5 true 0,.arr 1 h6 true 0,.arr 1 h7 true 0] :=
  RunsTo.hin 0 60 [⟨1,1,.sl 0 0 p0 none p0 1,[.arr 1 h0 true 0]⟩,⟨1,3,.sl 1 0 p1 none p1 1,[.arr 1 h0 true 0,.arr 1 h1 true 0]⟩,⟨1,5,.sl 2 0 p2 none p2 1,[.arr 1 h0 true 0,.arr 1 h1 true 0,.arr 1 h2 true 0]⟩,⟨2,2,.tuple [.sl 3 0 p3 none p3 1,.i e1],[.arr 1 h0 true 0,.arr 1 h1 true 0,.arr 1 h2 true 0,.arr 1 h3 true 0]⟩,⟨3,3,.tuple [.sl 4 0 p4 none p4 1,.i e2],[.arr 1 h0 true 0,.arr 1 h1 true 0,.arr 1 h2 true 0,.arr 1 h3 true 0,.arr 1 h4 true 0]⟩,⟨4,1,.bool true,[.arr 1 h0 true 0,.arr 1 h1 true 0,.arr 1 h2 true 0,.arr 1 h3 true 0,.arr 1 h4 true 0]⟩,⟨4,6,.bool true,[.arr 1 h0 true 0,.arr 1 h1 true 0,.arr 1 h2 true 0,.arr 1 h3 true 0,.arr 1 h4 true 0]⟩,⟨6,3,.sl 5 0 p5 none p5 1,[.arr 1 h0 true 0,.arr 1 h1 true 0,.arr 1 h2 true 0,.arr 1 h3 true 0,.arr 1 h4 true 0,.arr 1 h5 true 0]⟩,⟨6,4,.tuple [.sl 6 0 p6 none p6 1,.bool false],[.arr 1 h0 true 0,.arr 1 h1 true 0,.arr 1 h2 true 0,.arr 1 h3 true 0,.arr 1 h4 true 0,.arr 1 h5 true 0,.arr 1 h6 true 0]⟩,⟨7,5,.bool false,[.arr 1 h0 true 0,.arr 1 h1 true 0,.arr 1 h2 true 0,.arr 1 h3 true 0,.arr 1 h4 true 0,.arr 1 h5 true 0,.arr 1 h6 true 0]⟩,⟨7,8,.bool false,[.arr 1 h0 true 0,.arr 1 h1 true 0,.arr 1 h2 true 0,.arr 1 h3 true 0,.arr 1 h4 true 0,.arr 1 h5 true 0,.arr 1 h6 true 0]⟩,⟨9,2,.bool true,[.arr 1 h0 true 0,.arr 1 h1 true 0,.arr 1 h2 true 0,.arr 1 h3 true 0,.arr 1 h4 true 0,.arr 1 h5 true 0,.arr 1 h6 true 0]⟩,⟨11,3,.tuple [.sl 7 0 p7 none p7 1,.bool false],[.arr 1 h0 true 0,.arr 1 h1 true 0,.arr 1 h2 true 0,.arr 1 h3 true 0,.arr 1 h4 true 0,.arr 1 h5 true 0,.arr 1 h6 true 0,.arr 1 h7 true 0]⟩,⟨13,2,.bool true,[.arr 1 h0 true 0,.arr 1 h1 true 0,.arr 1 h2 true 0,.arr 1 h3 true 0,.arr 1 h4 true 0,.arr 1 h5 true 0,.arr 1 h6 true 0,.arr 1 h7 true 0]⟩,⟨13,5,.bool true,[.arr 1 h0 true 0,.arr 1 h1 true 0,.arr 1 h2 true 0,.arr 1 h3 true 0,.arr 1 h4 true 0,.arr 1 h5 true 0,.arr 1 h6 true 0,.arr 1 h7 true 0]⟩,⟨13,8,.bool true,[.arr 1 h0 true 0,.arr 1 h1 true 0,.arr 1 h2 true 0,.arr 1 h3 true 0,.arr 1 h4 true 0,.arr 1 h5 true 0,.arr 1 h6 true 0,.arr 1 h7 true 0]⟩] fun kf hk=>⟨_,by kernel_rfl,(oC (g0 kf) (oC (g1 kf) (oC (g2 kf) (oC (g3 kf) (oC (g4 kf) (oC (g5 kf) (oC (g6 kf) (oC (g7 kf) (oC (g8 kf) (oB [.arr 1 h0 true 0,.arr 1 h1 true 0,.arr 1 h2 true 0,.arr 1 h3 true 0,.arr 1 h4 true 0,.arr 1 h5 true 0,.arr 1 h6 true 0] (congrArg not (decide_eq_true g9)) (oB [.arr 1 h0 true 0,.arr 1 h1 true 0,.arr 1 h2 true 0,.arr 1 h3 true 0,.arr 1 h4 true 0,.arr 1 h5 true 0,.arr 1 h6 true 0] (congrArg not (decide_eq_true g10)) (oC (g11 kf) (oC (g12 kf) (oB [.arr 1 h0 true 0,.arr 1 h1 true 0,.arr 1 h2 true 0,.arr 1 h3 true 0,.arr 1 h4 true 0,.arr 1 h5 true 0,.arr 1 h6 true 0,.arr 1 h7 true 0] (decide_eq_true g13) (oB [.arr 1 h0 true 0,.arr 1 h1 true 0,.arr 1 h2 true 0,.arr 1 h3 true 0,.arr 1 h4 true 0,.arr 1 h5 true 0,.arr 1 h6 true 0,.arr 1 h7 true 0] (decide_eq_true g14) (oC (g15 kf) .nil))))))))))))))))⟩
theorem sp_14 (l0 rw l2:List HV) (e1 e2:Int) (p0:Nat) (h0:List HV) (p1:Nat) (h1:List HV) (p2:Nat) (h2:List HV) (p3:Nat) (h3:List HV) (p4:Nat) (h4:List HV) (p5:Nat) (h5:List HV) (p6:Nat) (h6:List HV) (p7:Nat) (h7:List HV)(g0:∀ kf,callN Tp polL9 (kf+1) 14 [.imm .arg 1 l0] []=some (.sl 0 0 p0 none p0 1,[.arr 1 h0 true 0])) (g1:∀ kf,callN Tp polL9 (kf+1) 33 [.imm .arg 1 rw] [.arr 1 h0 true 0]=some (.sl 1 0 p1 none p1 1,[.arr 1 h0 true 0,.arr 1 h1 true 0])) (g2:∀ kf,callN Tp polL9 (kf+1) 14 [.imm .arg 1 l2] [.arr 1 h0 true 0,.arr 1 h1 true 0]=some (.sl 2 0 p2 none p2 1,[.arr 1 h0 true 0,.arr 1 h1 true 0,.arr 1 h2 true 0])) (g3:∀ kf,callN Tp polL9 (kf+1) 26 [.sl 0 0 p0 none p0 1,.sl 1 0 p1 none p1 1] [.arr 1 h0 true 0,.arr 1 h1 true 0,.arr 1 h2 true 0]=some (.tuple [.sl 3 0 p3 none p3 1,.i e1],[.arr 1 h0 true 0,.arr 1 h1 true 0,.arr 1 h2 true 0,.arr 1 h3 true 0])) (g4:∀ kf,callN Tp polL9 (kf+1) 34 [.sl 0 0 p0 none p0 1,.sl 1 0 p1 none p1 1,.sl 2 0 p2 none p2 1] [.arr 1 h0 true 0,.arr 1 h1 true 0,.arr 1 h2 true 0,.arr 1 h3 true 0]=some (.tuple [.sl 4 0 p4 none p4 1,.i e2],[.arr 1 h0 true 0,.arr 1 h1 true 0,.arr 1 h2 true 0,.arr 1 h3 true 0,.arr 1 h4 true 0])) (g5:∀ kf,callN Tp polL9 (kf+1) 35 [.sl 0 0 p0 none p0 1] [.arr 1 h0 true 0,.arr 1 h1 true 0,.arr 1 h2 true 0,.arr 1 h3 true 0,.arr 1 h4 true 0]=some (.bool true,[.arr 1 h0 true 0,.arr 1 h1 true 0,.arr 1 h2 true 0,.arr 1 h3 true 0,.arr 1 h4 true 0])) (g6:∀ kf,callN Tp polL9 (kf+1) 36 [.sl 0 0 p0 none p0 1,.sl 1 0 p1 none p1 1] [.arr 1 h0 true 0,.arr 1 h1 true 0,.arr 1 h2 true 0,.arr 1 h3 true 0,.arr 1 h4 true 0]=some (.bool true,[.arr 1 h0 true 0,.arr 1 h1 true 0,.arr 1 h2 true 0,.arr 1 h3 true 0,.arr 1 h4 true 0])) (g7:∀ kf,callN Tp polL9 (kf+1) 28 [.sl 0 0 p0 none p0 1] [.arr 1 h0 true 0,.arr 1 h1 true 0,.arr 1 h2 true 0,.arr 1 h3 true 0,.arr 1 h4 true 0]=some (.sl 5 0 p5 none p5 1,[.arr 1 h0 true 0,.arr 1 h1 true 0,.arr 1 h2 true 0,.arr 1 h3 true 0,.arr 1 h4 true 0,.arr 1 h5 true 0])) (g8:∀ kf,callN Tp polL9 (kf+1) 37 [.sl 0 0 p0 none p0 1,.sl 1 0 p1 none p1 1,.sl 5 0 p5 none p5 1,.i 1] [.arr 1 h0 true 0,.arr 1 h1 true 0,.arr 1 h2 true 0,.arr 1 h3 true 0,.arr 1 h4 true 0,.arr 1 h5 true 0]=some (.tuple [.sl 6 0 p6 none p6 1,.bool false],[.arr 1 h0 true 0,.arr 1 h1 true 0,.arr 1 h2 true 0,.arr 1 h3 true 0,.arr 1 h4 true 0,.arr 1 h5 true 0,.arr 1 h6 true 0])) (g9:(p3:Int)=0) (g10:e1=6) (g11:∀ kf,callN Tp polL9 (kf+1) 38 [.sl 0 0 p0 none p0 1,.sl 2 0 p2 none p2 1] [.arr 1 h0 true 0,.arr 1 h1 true 0,.arr 1 h2 true 0,.arr 1 h3 true 0,.arr 1 h4 true 0,.arr 1 h5 true 0,.arr 1 h6 true 0]=some (.bool false,[.arr 1 h0 true 0,.arr 1 h1 true 0,.arr 1 h2 true 0,.arr 1 h3 true 0,.arr 1 h4 true 0,.arr 1 h5 true 0,.arr 1 h6 true 0])) (g12:(p4:Int)=0) (g13:e2=2) (g14:∀ kf,callN Tp polL9 (kf+1) 16 [] [.arr 1 h0 true 0,.arr 1 h1 true 0,.arr 1 h2 true 0,.arr 1 h3 true 0,.arr 1 h4 true 0,.arr 1 h5 true 0,.arr 1 h6 true 0]=some (.bool true,[.arr 1 h0 true 0,.arr 1 h1 true 0,.arr 1 h2 true 0,.arr 1 h3 true 0,.arr 1 h4 true 0,.arr 1 h5 true 0,.arr 1 h6 true 0])):RT polL9 9 (sub [] B9) [(0,.imm .arg 1 l0),(1,.imm .arg 1 rw),(2,.imm .arg 1 l2)] [] .ret (env9 (.imm .arg 1 l0) (.imm .arg 1 rw) (.imm .arg 1 l2) (.bool true) (.sl 0 0 p0 none p0 1) (.sl 1 0 p1 none p1 1) (.sl 2 0 p2 none p2 1) (.sl 3 0 p3 none p3 1) (.i e1) (.sl 4 0 p4 none p4 1) (.i e2) (.sl 6 0 p6 none p6 1) (.bool false) Ud Ud) [.arr 1 h0 true 0,.arr 1 h1 true 0,.arr 1 h2 true 0,.arr 1 h3 true 0,.arr 1 h4 true 0,.arr 1 h5 true 0,.arr 1 h6 true 0] :=
  RunsTo.hin 0 60 [⟨1,1,.sl 0 0 p0 none p0 1,[.arr 1 h0 true 0]⟩,⟨1,3,.sl 1 0 p1 none p1 1,[.arr 1 h0 true 0,.arr 1 h1 true 0]⟩,⟨1,5,.sl 2 0 p2 none p2 1,[.arr 1 h0 true 0,.arr 1 h1 true 0,.arr 1 h2 true 0]⟩,⟨2,2,.tuple [.sl 3 0 p3 none p3 1,.i e1],[.arr 1 h0 true 0,.arr 1 h1 true 0,.arr 1 h2 true 0,.arr 1 h3 true 0]⟩,⟨3,3,.tuple [.sl 4 0 p4 none p4 1,.i e2],[.arr 1 h0 true 0,.arr 1 h1 true 0,.arr 1 h2 true 0,.arr 1 h3 true 0,.arr 1 h4 true 0]⟩,⟨4,1,.bool true,[.arr 1 h0 true 0,.arr 1 h1 true 0,.arr 1 h2 true 0,.arr 1 h3 true 0,.arr 1 h4 true 0]⟩,⟨4,6,.bool true,[.arr 1 h0 true 0,.arr 1 h1 true 0,.arr 1 h2 true 0,.arr 1 h3 true 0,.arr 1 h4 true 0]⟩,⟨6,3,.sl 5 0 p5 none p5 1,[.arr 1 h0 true 0,.arr 1 h1 true 0,.arr 1 h2 true 0,.arr 1 h3 true 0,.arr 1 h4 true 0,.arr 1 h5 true 0]⟩,⟨6,4,.tuple [.sl 6 0 p6 none p6 1,.bool false],[.arr 1 h0 true 0,.arr 1 h1 true 0,.arr 1 h2 true 0,.arr 1 h3 true 0,.arr 1 h4 true 0,.arr 1 h5 true 0,.arr 1 h6 true 0]⟩,⟨7,5,.bool false,[.arr 1 h0 true 0,.arr 1 h1 true 0,.arr 1 h2 true 0,.arr 1 h3 true 0,.arr 1 h4 true 0,.arr 1 h5 true 0,.arr 1 h6 true 0]⟩,⟨7,8,.bool false,[.arr 1 h0 true 0,.arr 1 h1 true 0,.arr 1 h2 true 0,.arr 1 h3 true 0,.arr 1 h4 true 0,.arr 1 h5 true 0,.arr 1 h6 true 0]⟩,⟨9,2,.bool false,[.arr 1 h0 true 0,.arr 1 h1 true 0,.arr 1 h2 true 0,.arr 1 h3 true 0,.arr 1 h4 true 0,.arr 1 h5 true 0,.arr 1 h6 true 0]⟩,⟨10,2,.bool true,[.arr 1 h0 true 0,.arr 1 h1 true 0,.arr 1 h2 true 0,.arr 1 h3 true 0,.arr 1 h4 true 0,.arr 1 h5 true 0,.arr 1 h6 true 0]⟩,⟨10,5,.bool true,[.arr 1 h0 true 0,.arr 1 h1 true 0,.arr 1 h2 true 0,.arr 1 h3 true 0,.arr 1 h4 true 0,.arr 1 h5 true 0,.arr 1 h6 true 0]⟩,⟨10,8,.bool true,[.arr 1 h0 true 0,.arr 1 h1 true 0,.arr 1 h2 true 0,.arr 1 h3 true 0,.arr 1 h4 true 0,.arr 1 h5 true 0,.arr 1 h6 true 0]⟩] fun kf hk=>⟨_,by kernel_rfl,(oC (g0 kf) (oC (g1 kf) (oC (g2 kf) (oC (g3 kf) (oC (g4 kf) (oC (g5 kf) (oC (g6 kf) (oC (g7 kf) (oC (g8 kf) (oB [.arr 1 h0 true 0,.arr 1 h1 true 0,.arr 1 h2 true 0,.arr 1 h3 true 0,.arr 1 h4 true 0,.arr 1 h5 true 0,.arr 1 h6 true 0] (congrArg not (decide_eq_true g9)) (oB [.arr 1 h0 true 0,.arr 1 h1 true 0,.arr 1 h2 true 0,.arr 1 h3 true 0,.arr 1 h4 true 0,.arr 1 h5 true 0,.arr 1 h6 true 0] (congrArg not (decide_eq_true g10)) (oC (g11 kf) (oB [.arr 1 h0 true 0,.arr 1 h1 true 0,.arr 1 h2 true 0,.arr 1 h3 true 0,.arr 1 h4 true 0,.arr 1 h5 true 0,.arr 1 h6 true 0] (decide_eq_true g12) (oB [.arr 1 h0 true 0,.arr 1 h1 true 0,.arr 1 h2 true 0,.arr 1 h3 true 0,.arr 1 h4 true 0,.arr 1 h5 true 0,.arr 1 h6 true 0] (decide_eq_true g13) (oC (g14 kf) .nil)))))))))))))))⟩
theorem sp_19 (l0 rw l2:List HV) (e1 e2:Int) (p0:Nat) (h0:List HV) (p1:Nat) (h1:List HV) (p2:Nat) (h2:List HV) (p3:Nat) (h3:List HV) (p4:Nat) (h4:List HV) (p5:Nat) (h5:List HV) (p6:Nat) (h6:List HV) (p7:Nat) (h7:List HV)(g0:∀ kf,callN Tp polL9 (kf+1) 14 [.imm .arg 1 l0] []=some (.sl 0 0 p0 none p0 1,[.arr 1 h0 true 0])) (g1:∀ kf,callN Tp polL9 (kf+1) 33 [.imm .arg 1 rw] [.arr 1 h0 true 0]=some (.sl 1 0 p1 none p1 1,[.arr 1 h0 true 0,.arr 1 h1 true 0])) (g2:∀ kf,callN Tp polL9 (kf+1) 14 [.imm .arg 1 l2] [.arr 1 h0 true 0,.arr 1 h1 true 0]=some (.sl 2 0 p2 none p2 1,[.arr 1 h0 true 0,.arr 1 h1 true 0,.arr 1 h2 true 0])) (g3:∀ kf,callN Tp polL9 (kf+1) 26 [.sl 0 0 p0 none p0 1,.sl 1 0 p1 none p1 1] [.arr 1 h0 true 0,.arr 1 h1 true 0,.arr 1 h2 true 0]=some (.tuple [.sl 3 0 p3 none p3 1,.i e1],[.arr 1 h0 true 0,.arr 1 h1 true 0,.arr 1 h2 true 0,.arr 1 h3 true 0])) (g4:∀ kf,callN Tp polL9 (kf+1) 34 [.sl 0 0 p0 none p0 1,.sl 1 0 p1 none p1 1,.sl 2 0 p2 none p2 1] [.arr 1 h0 true 0,.arr 1 h1 true 0,.arr 1 h2 true 0,.arr 1 h3 true 0]=some (.tuple [.sl 4 0 p4 none p4 1,.i e2],[.arr 1 h0 true 0,.arr 1 h1 true 0,.arr 1 h2 true 0,.arr 1 h3 true 0,.arr 1 h4 true 0])) (g5:∀ kf,callN Tp polL9 (kf+1) 35 [.sl 0 0 p0 none p0 1] [.arr 1 h0 true 0,.arr 1 h1 true 0,.arr 1 h2 true 0,.arr 1 h3 true 0,.arr 1 h4 true 0]=some (.bool true,[.arr 1 h0 true 0,.arr 1 h1 true 0,.arr 1 h2 true 0,.arr 1 h3 true 0,.arr 1 h4 true 0])) (g6:∀ kf,callN Tp polL9 (kf+1) 36 [.sl 0 0 p0 none p0 1,.sl 1 0 p1 none p1 1] [.arr 1 h0 true 0,.arr 1 h1 true 0,.arr 1 h2 true 0,.arr 1 h3 true 0,.arr 1 h4 true 0]=some (.bool false,[.arr 1 h0 true 0,.arr 1 h1 true 0,.arr 1 h2 true 0,.arr 1 h3 true 0,.arr 1 h4 true 0])) (g7:(p3:Int)=0) (g8:e1=2) (g9:(p4:Int)=0) (g10:e2=2) (g11:∀ kf,callN Tp polL9 (kf+1) 16 [] [.arr 1 h0 true 0,.arr 1 h1 true 0,.arr 1 h2 true 0,.arr 1 h3 true 0,.arr 1 h4 true 0]=some (.bool true,[.arr 1 h0 true 0,.arr 1 h1 true 0,.arr 1 h2 true 0,.arr 1 h3 true 0,.arr 1 h4 true 0])):RT polL9 9 (sub [] B9) [(0,.imm .arg 1 l0),(1,.imm .arg 1 rw),(2,.imm .arg 1 l2)] [] .ret (env9 (.imm .arg 1 l0) (.imm .arg 1 rw) (.imm .arg 1 l2) (.bool true) (.sl 0 0 p0 none p0 1) (.sl 1 0 p1 none p1 1) (.sl 2 0 p2 none p2 1) (.sl 3 0 p3 none p3 1) (.i e1) (.sl 4 0 p4 none p4 1) (.i e2) Ud Ud Ud Ud) [.arr 1 h0 true 0,.arr 1 h1 true 0,.arr 1 h2 true 0,.arr 1 h3 true 0,.arr 1 h4 true 0] :=
  RunsTo.hin 0 60 [⟨1,1,.sl 0 0 p0 none p0 1,[.arr 1 h0 true 0]⟩,⟨1,3,.sl 1 0 p1 none p1 1,[.arr 1 h0 true 0,.arr 1 h1 true 0]⟩,⟨1,5,.sl 2 0 p2 none p2 1,[.arr 1 h0 true 0,.arr 1 h1 true 0,.arr 1 h2 true 0]⟩,⟨2,2,.tuple [.sl 3 0 p3 none p3 1,.i e1],[.arr 1 h0 true 0,.arr 1 h1 true 0,.arr 1 h2 true 0,.arr 1 h3 true 0]⟩,⟨3,3,.tuple [.sl 4 0 p4 none p4 1,.i e2],[.arr 1 h0 true 0,.arr 1 h1 true 0,.arr 1 h2 true 0,.arr 1 h3 true 0,.arr 1 h4 true 0]⟩,⟨4,1,.bool true,[.arr 1 h0 true 0,.arr 1 h1 true 0,.arr 1 h2 true 0,.arr 1 h3 true 0,.arr 1 h4 true 0]⟩,⟨4,6,.bool false,[.arr 1 h0 true 0,.arr 1 h1 true 0,.arr 1 h2 true 0,.arr 1 h3 true 0,.arr 1 h4 true 0]⟩,⟨5,2,.bool true,[.arr 1 h0 true 0,.arr 1 h1 true 0,.arr 1 h2 true 0,.arr 1 h3 true 0,.arr 1 h4 true 0]⟩,⟨5,5,.bool true,[.arr 1 h0 true 0,.arr 1 h1 true 0,.arr 1 h2 true 0,.arr 1 h3 true 0,.arr 1 h4 true 0]⟩,⟨5,10,.bool true,[.arr 1 h0 true 0,.arr 1 h1 true 0,.arr 1 h2 true 0,.arr 1 h3 true 0,.arr 1 h4 true 0]⟩,⟨5,14,.bool true,[.arr 1 h0 true 0,.arr 1 h1 true 0,.arr 1 h2 true 0,.arr 1 h3 true 0,.arr 1 h4 true 0]⟩,⟨5,17,.bool true,[.arr 1 h0 true 0,.arr 1 h1 true 0,.arr 1 h2 true 0,.arr 1 h3 true 0,.arr 1 h4 true 0]⟩] fun kf hk=>⟨_,by kernel_rfl,(oC (g0 kf) (oC (g1 kf) (oC (g2 kf) (oC (g3 kf) (oC (g4 kf) (oC (g5 kf) (oC (g6 kf) (oB [.arr 1 h0 true 0,.arr 1 h1 true 0,.arr 1 h2 true 0,.arr 1 h3 true 0,.arr 1 h4 true 0] (decide_eq_true g7) (oB [.arr 1 h0 true 0,.arr 1 h1 true 0,.arr 1 h2 true 0,.arr 1 h3 true 0,.arr 1 h4 true 0] (decide_eq_true g8) (oB [.arr 1 h0 true 0,.arr 1 h1 true 0,.arr 1 h2 true 0,.arr 1 h3 true 0,.arr 1 h4 true 0] (decide_eq_true g9) (oB [.arr 1 h0 true 0,.arr 1 h1 true 0,.arr 1 h2 true 0,.arr 1 h3 true 0,.arr 1 h4 true 0] (decide_eq_true g10) (oC (g11 kf) .nil))))))))))))⟩
theorem sp_24 (l0 rw l2:List HV) (e1 e2:Int) (p0:Nat) (h0:List HV) (p1:Nat) (h1:List HV) (p2:Nat) (h2:List HV) (p3:Nat) (h3:List HV) (p4:Nat) (h4:List HV) (p5:Nat) (h5:List HV) (p6:Nat) (h6:List HV) (p7:Nat) (h7:List HV)(g0:∀ kf,callN Tp polL9 (kf+1) 14 [.imm .arg 1 l0] []=some (.sl 0 0 p0 none p0 1,[.arr 1 h0 true 0])) (g1:∀ kf,callN Tp polL9 (kf+1) 33 [.imm .arg 1 rw] [.arr 1 h0 true 0]=some (.sl 1 0 p1 none p1 1,[.arr 1 h0 true 0,.arr 1 h1 true 0])) (g2:∀ kf,callN Tp polL9 (kf+1) 14 [.imm .arg 1 l2] [.arr 1 h0 true 0,.arr 1 h1 true 0]=some (.sl 2 0 p2 none p2 1,[.arr 1 h0 true 0,.arr 1 h1 true 0,.arr 1 h2 true 0])) (g3:∀ kf,callN Tp polL9 (kf+1) 26 [.sl 0 0 p0 none p0 1,.sl 1 0 p1 none p1 1] [.arr 1 h0 true 0,.arr 1 h1 true 0,.arr 1 h2 true 0]=some (.tuple [.sl 3 0 p3 none p3 1,.i e1],[.arr 1 h0 true 0,.arr 1 h1 true 0,.arr 1 h2 true 0,.arr 1 h3 true 0])) (g4:∀ kf,callN Tp polL9 (kf+1) 34 [.sl 0 0 p0 none p0 1,.sl 1 0 p1 none p1 1,.sl 2 0 p2 none p2 1] [.arr 1 h0 true 0,.arr 1 h1 true 0,.arr 1 h2 true 0,.arr 1 h3 true 0]=some (.tuple [.sl 4 0 p4 none p4 1,.i e2],[.arr 1 h0 true 0,.arr 1 h1 true 0,.arr 1 h2 true 0,.arr 1 h3 true 0,.arr 1 h4 true 0])) (g5:∀ kf,callN Tp polL9 (kf+1) 35 [.sl 0 0 p0 none p0 1] [.arr 1 h0 true 0,.arr 1 h1 true 0,.arr 1 h2 true 0,.arr 1 h3 true 0,.arr 1 h4 true 0]=some (.bool false,[.arr 1 h0 true 0,.arr 1 h1 true 0,.arr 1 h2 true 0,.arr 1 h3 true 0,.arr 1 h4 true 0])) (g6:(p3:Int)=0) (g7:e1=2) (g8:(p4:Int)=0) (g9:e2=2) (g10:∀ kf,callN Tp polL9 (kf+1) 16 [] [.arr 1 h0 true 0,.arr 1 h1 true 0,.arr 1 h2 true 0,.arr 1 h3 true 0,.arr 1 h4 true 0]=some (.bool true,[.arr 1 h0 true 0,.arr 1 h1 true 0,.arr 1 h2 true 0,.arr 1 h3 true 0,.arr 1 h4 true 0])):RT polL9 9 (sub [] B9) [(0,.imm .arg 1 l0),(1,.imm .arg 1 rw),(2,.imm .arg 1 l2)] [] .ret (env9 (.imm .arg 1 l0) (.imm .arg 1 rw) (.imm .arg 1 l2) (.bool true) (.sl 0 0 p0 none p0 1) (.sl 1 0 p1 none p1 1) (.sl 2 0 p2 none p2 1) (.sl 3 0 p3 none p3 1) (.i e1) (.sl 4 0 p4 none p4 1) (.i e2) Ud Ud Ud Ud) [.arr 1 h0 true 0,.arr 1 h1 true 0,.arr 1 h2 true 0,.arr 1 h3 true 0,.arr 1 h4 true 0] :=
  RunsTo.hin 0 60 [⟨1,1,.sl 0 0 p0 none p0 1,[.arr 1 h0 true 0]⟩,⟨1,3,.sl 1 0 p1 none p1 1,[.arr 1 h0 true 0,.arr 1 h1 true 0]⟩,⟨1,5,.sl 2 0 p2 none p2 1,[.arr 1 h0 true 0,.arr 1 h1 true 0,.arr 1 h2 true 0]⟩,⟨2,2,.tuple [.sl 3 0 p3 none p3 1,.i e1],[.arr 1 h0 true 0,.arr 1 h1 true 0,.arr 1 h2 true 0,.arr 1 h3 true 0]⟩,⟨3,3,.tuple [.sl 4 0 p4 none p4 1,.i e2],[.arr 1 h0 true 0,.arr 1 h1 true 0,.arr 1 h2 true 0,.arr 1 h3 true 0,.arr 1 h4 true 0]⟩,⟨4,1,.bool false,[.arr 1 h0 true 0,.arr 1 h1 true 0,.arr 1 h2 true 0,.arr 1 h3 true 0,.arr 1 h4 true 0]⟩,⟨5,2,.bool true,[.arr 1 h0 true 0,.arr 1 h1 true 0,.arr 1 h2 true 0,.arr 1 h3 true 0,.arr 1 h4 true 0]⟩,⟨5,5,.bool true,[.arr 1 h0 true 0,.arr 1 h1 true 0,.arr 1 h2 true 0,.arr 1 h3 true 0,.arr 1 h4 true 0]⟩,⟨5,10,.bool true,[.arr 1 h0 true 0,.arr 1 h1 true 0,.arr 1 h2 true 0,.arr 1 h3 true 0,.arr 1 h4 true 0]⟩,⟨5,14,.bool true,[.arr 1 h0 true 0,.arr 1 h1 true 0,.arr 1 h2 true 0,.arr 1 h3 true 0,.arr 1 h4 true 0]⟩,⟨5,17,.bool true,[.arr 1 h0 true 0,.arr 1 h1 true 0,.arr 1 h2 true 0,.arr 1 h3 true 0,.arr 1 h4 true 0]⟩] fun kf hk=>⟨_,by kernel_rfl,(oC (g0 kf) (oC (g1 kf) (oC (g2 kf) (oC (g3 kf) (oC (g4 kf) (oC (g5 kf) (oB [.arr 1 h0 true 0,.arr 1 h1 true 0,.arr 1 h2 true 0,.arr 1 h3 true 0,.arr 1 h4 true 0] (decide_eq_true g6) (oB [.arr 1 h0 true 0,.arr 1 h1 true 0,.arr 1 h2 true 0,.arr 1 h3 true 0,.arr 1 h4 true 0] (decide_eq_true g7) (oB [.arr 1 h0 true 0,.arr 1 h1 true 0,.arr 1 h2 true 0,.arr 1 h3 true 0,.arr 1 h4 true 0] (decide_eq_true g8) (oB [.arr 1 h0 true 0,.arr 1 h1 true 0,.arr 1 h2 true 0,.arr 1 h3 true 0,.arr 1 h4 true 0] (decide_eq_true g9) (oC (g10 kf) .nil)))))))))))⟩
end Go.Proofs.Ytaibmipamkaljaa
end
section
open Go Go.HL
namespace Go.Proofs.Ytaibmipamkaljaa
open Go.Proofs.Try renaming prog → Tp
open Go.HL.HV renaming undef → Ud
theorem res9:Try.f9.results.toList=[.tmp 6]:=by kernel_rfl
theorem firstT_len {gl:List Int} {R:List (List Int)} {x:List Int} {ls:Int}:(fst1 (firstT gl R x ls)).length ≤ R.length:=by
  have h:∀ (R:List (List Int)) (i:Nat) (c b:Int),(chT gl R i c b).length ≤ R.length:=by
    intro R
    induction R with
    | nil=>intro i c b; simp [chT]
    | cons x R ih =>
      intro i c b
      rw [chT]
      split
      · simp
      · split
        · have:=ih (i+1) (lessC gl c x) (b - 1); simp; omega
        · have:=ih (i+1) c b; simp; omega
  unfold firstT
  split
  · simp [fst1]
  · simp only [fst1,List.length_map]; exact h R _ _ _
theorem tabT_len (R:List (List Int)):(tabT R).length ≤ 61:=by simp [tabT]; omega
theorem sumsParts_law (l0:List Int) (R1:List (List Int)) (l2:List Int):∃ E H,RT polL9 9 B9 (args0 [.imm .arg 1 (l0.map encI),.imm .arg 1 (R1.map encR),.imm .arg 1 (l2.map encI)]) [] .ret E H∧E.get 6=.bool true:=by
  have c0:=list_at (pol':=polL9) (by kernel_rfl) (H:=[]) (argI_imm _ l0)
  have hGl:(l0.take 110).length ≤ 110:=by rw [List.length_take]; omega
  generalize l0.take 110=G at *
  have c1:=table_at (pol':=polL9) (by kernel_rfl) (H:=[bI G]) (argR_imm _ R1)
  have hOl:=tabT_len R1
  generalize tabT R1=O at *
  have c2:=list_at (pol':=polL9) (by kernel_rfl) (H:=[bI G,bR O]) (argI_imm _ l2)
  have hSl:(l2.take 110).length ≤ 110:=by rw [List.length_take]; omega
  generalize l2.take 110=S at *
  have c3:=zero_at (pol':=polL9) (by kernel_rfl) (H:=[bI G,bR O,bI S]) (v1:=.sl 0 0 G.length none G.length 1) (v2:=.sl 1 0 O.length none O.length 1) (argI_sl rfl rfl) (argR_sl rfl rfl) (by omega)
  have c4:∀ Z,_:=fun Z=>part34_at (pol':=polL9) (by kernel_rfl) (H:=[bI G,bR O,bI S,bI Z]) (v1:=.sl 0 0 G.length none G.length 1) (v2:=.sl 1 0 O.length none O.length 1) (v3:=.sl 2 0 S.length none S.length 1) (argI_sl rfl rfl) (argR_sl rfl rfl) (argI_sl rfl rfl) (by omega)
  have c5:∀ H:Heap,_:=fun H=>group35_at (pol':=polL9) (by kernel_rfl) (H:=bI G :: H) (v:=.sl 0 0 G.length none G.length 1) (argI_sl rfl rfl)
  have c6:∀ H:Heap,_:=fun H=>list36_at (pol':=polL9) (by kernel_rfl) (H:=bI G :: bR O :: H) (v1:=.sl 0 0 G.length none G.length 1) (v2:=.sl 1 0 O.length none O.length 1) (argI_sl rfl rfl) (argR_sl rfl rfl) (by omega)
  have c8:∀ H:Heap,_:=fun H=>el38_at (pol':=polL9) (by kernel_rfl) (H:=bI G :: bR O :: bI S :: H) (v1:=.sl 0 0 G.length none G.length 1) (v2:=.sl 2 0 S.length none S.length 1) (argI_sl rfl rfl) (argI_sl rfl rfl) (by omega)
  have aw:∀ H:Heap,_:=fun H=>awake_at (pol':=polL9) (by kernel_rfl) H
  cases hg:(newGroupT G).2 with
  | false =>
    rw [zeroT_bad (.inl hg)] at c3
    have c4:=c4 []
    rw [partTT_bad (.inl hg)] at c4
    have c5:=c5 [bR O,bI S,bI [],bI []]
    rw [hg] at c5
    exact ⟨_,_,sp_24 (l0.map encI) (R1.map encR) (l2.map encI) 2 2 G.length (G.map encI) O.length (O.map encO) S.length (S.map encI) 0 [] 0 [] 0 [] 0 [] 0 [] c0 c1 c2 c3 c4 c5 rfl rfl rfl rfl (aw _),rfl⟩
  | true =>
    have gb:=grp_len hg
    cases hl:listB G O with
    | false =>
      rw [zeroT_bad (.inr hl)] at c3
      have c4:=c4 []
      rw [partTT_bad (.inr (.inl hl))] at c4
      have c5:=c5 [bR O,bI S,bI [],bI []]
      rw [hg] at c5
      have c6:=c6 [bI S,bI [],bI []]
      rw [hl] at c6
      exact ⟨_,_,sp_19 (l0.map encI) (R1.map encR) (l2.map encI) 2 2 G.length (G.map encI) O.length (O.map encO) S.length (S.map encI) 0 [] 0 [] 0 [] 0 [] 0 [] c0 c1 c2 c3 c4 c5 c6 rfl rfl rfl rfl (aw _),rfl⟩
    | true =>
      obtain ⟨k1,k2⟩:=listB_iff.1 hl
      rw [zeroT_first hg hl] at c3
      have ok1:okF G O (List.replicate G.length 0) 1=true:=by
        have a1:O.all (elB G)=true:=List.all_eq_true.2 k1
        rw [okF,hg,a1,(zero_el hg).1,decide_eq_true (show O.length ≤ 900 by omega)]; rfl
      have f1:∀ Z P:List Int,_:=fun Z P=>first_at (pol':=polL9) (by kernel_rfl) (H:=[bI G,bR O,bI S,bI Z,bI P,bI (List.replicate G.length 0)]) (v1:=.sl 0 0 G.length none G.length 1) (v2:=.sl 1 0 O.length none O.length 1) (v3:=.sl 5 0 G.length none G.length 1) (argI_sl rfl rfl) (argR_sl rfl rfl) (argI_sl (by simp) rfl) ok1
      have z1:∀ Z P:List Int,_:=fun Z P=>zero28_at (pol':=polL9) (by kernel_rfl) (H:=[bI G,bR O,bI S,bI Z,bI P]) (v:=.sl 0 0 G.length none G.length 1) (argI_sl rfl rfl) (by omega)
      have L1:=firstT_len (gl:=G) (R:=O) (x:=List.replicate G.length 0) (ls:=1)
      generalize firstT G O (List.replicate G.length 0) 1=F at *
      have it:∀ (Q:List Int) (b1 b2:Nat) (H:Heap),Q.length ≤ 1000 → H[b1]?=some (bI Q) → H[b2]?=some (bI Q) → ∀ k,callN Tp polL9 (k+1) 17 [.sl b1 0 Q.length none Q.length 1,.sl b2 0 Q.length none Q.length 1] H=some (.bool true,H):=fun Q b1 b2 H hQ h1 h2=>by
        have:=ints_at (pol':=polL9) (by kernel_rfl) (a:=Q) (b:=Q) (v1:=.sl b1 0 Q.length none Q.length 1) (v2:=.sl b2 0 Q.length none Q.length 1) (H:=H) (argI_sl rfl h1) (argI_sl rfl h2) hQ
        rwa [decide_eq_true rfl] at this
      cases he:elB G S with
      | false =>
        have c4:∀ Z,_:=fun Z=>by
          have h:=c4 Z
          rw [partTT_bad (.inr (.inr he))] at h
          exact h
        cases F with
        | none =>
          have c5:=c5 [bR O,bI S,bI [],bI []]
          rw [hg] at c5
          have c6:=c6 [bI S,bI [],bI []]
          rw [hl] at c6
          have c8:=c8 [bI [],bI [],bI (List.replicate G.length 0),bI []]
          rw [he] at c8
          exact ⟨_,_,sp_14 (l0.map encI) (R1.map encR) (l2.map encI) 6 2 G.length (G.map encI) O.length (O.map encO) S.length (S.map encI) 0 [] 0 [] G.length ((List.replicate G.length 0).map encI) 0 [] 0 [] c0 c1 c2 c3 (c4 []) c5 c6 (z1 [] []) (f1 [] []) rfl rfl c8 rfl rfl (aw _),rfl⟩
        | some Q =>
          have hQ:Q.length ≤ 1000:=by simp only [fst1] at L1; omega
          have c5:=c5 [bR O,bI S,bI Q,bI []]
          rw [hg] at c5
          have c6:=c6 [bI S,bI Q,bI []]
          rw [hl] at c6
          have c8:=c8 [bI Q,bI [],bI (List.replicate G.length 0),bI Q]
          rw [he] at c8
          exact ⟨_,_,sp_5 (l0.map encI) (R1.map encR) (l2.map encI) 0 2 G.length (G.map encI) O.length (O.map encO) S.length (S.map encI) Q.length (Q.map encI) 0 [] G.length ((List.replicate G.length 0).map encI) Q.length (Q.map encI) 0 [] c0 c1 c2 c3 (c4 Q) c5 c6 (z1 Q []) (f1 Q []) (it Q 3 6 _ hQ rfl rfl) rfl c8 rfl rfl (aw _),rfl⟩
      | true =>
        have c4:∀ Z,_:=fun Z=>by
          have h:=c4 Z
          rw [partTT_first hg hl he] at h
          exact h
        have ok2:okF G O S 0=true:=by
          have a1:O.all (elB G)=true:=List.all_eq_true.2 k1
          rw [okF,hg,a1,he,decide_eq_true (show O.length ≤ 900 by omega)]; rfl
        have f2:∀ Z P W:List Int,_:=fun Z P W=>first_at (pol':=polL9) (by kernel_rfl) (H:=[bI G,bR O,bI S,bI Z,bI P,bI (List.replicate G.length 0),bI W]) (v1:=.sl 0 0 G.length none G.length 1) (v2:=.sl 1 0 O.length none O.length 1) (v3:=.sl 2 0 S.length none S.length 1) (argI_sl rfl rfl) (argR_sl rfl rfl) (argI_sl rfl rfl) ok2
        have L2:=firstT_len (gl:=G) (R:=O) (x:=S) (ls:=0)
        generalize firstT G O S 0=F2 at *
        cases F with
        | none =>
          cases F2 with
          | none =>
            have c5:=c5 [bR O,bI S,bI [],bI []]
            rw [hg] at c5
            have c6:=c6 [bI S,bI [],bI []]
            rw [hl] at c6
            have c8:=c8 [bI [],bI [],bI (List.replicate G.length 0),bI []]
            rw [he] at c8
            exact ⟨_,_,sp_11 (l0.map encI) (R1.map encR) (l2.map encI) 6 6 G.length (G.map encI) O.length (O.map encO) S.length (S.map encI) 0 [] 0 [] G.length ((List.replicate G.length 0).map encI) 0 [] 0 [] c0 c1 c2 c3 (c4 []) c5 c6 (z1 [] []) (f1 [] []) rfl rfl c8 (f2 [] [] []) rfl rfl (aw _),rfl⟩
          | some P =>
            have hP:P.length ≤ 1000:=by simp only [fst1] at L2; omega
            have c5:=c5 [bR O,bI S,bI [],bI P]
            rw [hg] at c5
            have c6:=c6 [bI S,bI [],bI P]
            rw [hl] at c6
            have c8:=c8 [bI [],bI P,bI (List.replicate G.length 0),bI []]
            rw [he] at c8
            exact ⟨_,_,sp_9 (l0.map encI) (R1.map encR) (l2.map encI) 6 0 G.length (G.map encI) O.length (O.map encO) S.length (S.map encI) 0 [] P.length (P.map encI) G.length ((List.replicate G.length 0).map encI) 0 [] P.length (P.map encI) c0 c1 c2 c3 (c4 []) c5 c6 (z1 [] P) (f1 [] P) rfl rfl c8 (f2 [] P []) (it P 4 7 _ hP rfl rfl) rfl (aw _),rfl⟩
        | some Q =>
          have hQ:Q.length ≤ 1000:=by simp only [fst1] at L1; omega
          cases F2 with
          | none =>
            have c5:=c5 [bR O,bI S,bI Q,bI []]
            rw [hg] at c5
            have c6:=c6 [bI S,bI Q,bI []]
            rw [hl] at c6
            have c8:=c8 [bI Q,bI [],bI (List.replicate G.length 0),bI Q]
            rw [he] at c8
            exact ⟨_,_,sp_2 (l0.map encI) (R1.map encR) (l2.map encI) 0 6 G.length (G.map encI) O.length (O.map encO) S.length (S.map encI) Q.length (Q.map encI) 0 [] G.length ((List.replicate G.length 0).map encI) Q.length (Q.map encI) 0 [] c0 c1 c2 c3 (c4 Q) c5 c6 (z1 Q []) (f1 Q []) (it Q 3 6 _ hQ rfl rfl) rfl c8 (f2 Q [] Q) rfl rfl (aw _),rfl⟩
          | some P =>
            have hP:P.length ≤ 1000:=by simp only [fst1] at L2; omega
            have c5:=c5 [bR O,bI S,bI Q,bI P]
            rw [hg] at c5
            have c6:=c6 [bI S,bI Q,bI P]
            rw [hl] at c6
            have c8:=c8 [bI Q,bI P,bI (List.replicate G.length 0),bI Q]
            rw [he] at c8
            exact ⟨_,_,sp_0 (l0.map encI) (R1.map encR) (l2.map encI) 0 0 G.length (G.map encI) O.length (O.map encO) S.length (S.map encI) Q.length (Q.map encI) P.length (P.map encI) G.length ((List.replicate G.length 0).map encI) Q.length (Q.map encI) P.length (P.map encI) c0 c1 c2 c3 (c4 Q) c5 c6 (z1 Q P) (f1 Q P) (it Q 3 6 _ hQ rfl rfl) rfl c8 (f2 Q P Q) (it P 4 7 _ hP rfl rfl) rfl (aw _),rfl⟩
end Go.Proofs.Ytaibmipamkaljaa
end
section
namespace Go.HL
open Go.ChangeShapes Go.WideShapes Go.ChangeAt Go.RowKit Go.Deep
theorem okNil (w:World) (r:Nat):okOf Ctx.nil w.heap.size false r:=by
  refine ⟨fun hM=>?_,by simp⟩
  obtain ⟨b,y,h1,_,_⟩:=M_iff.1 hM
  simp [Ctx.nil] at h1
theorem cell_lt {w:World} {a:Addr} {v:Value} (h:w.cell? a=some v):a.block < w.heap.size:=by
  rcases Nat.lt_or_ge a.block w.heap.size with hl | hl
  · exact hl
  · have:w.heap[a.block]?=none:=by simp [hl]
    simp [World.cell?,this] at h
end Go.HL
end
