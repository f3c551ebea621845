/- A part of the proof. -/
import Derived.Test.YtaibmipamkaljaaSzA
set_option linter.unusedVariables false
set_option linter.unusedSimpArgs false
set_option linter.unnecessarySimpa false
section
open Go Go.HL
namespace Go.Proofs.Ytaibmipamkaljaa
open Go.Proofs.Try renaming prog → Tp
open Go.HL.HV renaming undef → Ud
theorem res82:Try.f82.results.toList=[.tmp 2]:=by kernel_rfl
theorem res68:Try.f68.results.toList=[.tmp 2]:=by kernel_rfl
theorem res93:Try.f93.results.toList=[.tmp 2]:=by kernel_rfl
theorem u8w {n:Nat} (h:n < 256):IntKind.u8.wrap (n:Int)=(n:Int):=by
  have:IntKind.u8.wrap (n:Int)=(n:Int) % 256:=by simp [IntKind.wrap,IntKind.signed,IntKind.bits]
  rw [this]; omega
theorem len82_ok:PrimOk Tp 82 len82:=by
  refine primOk_pure (pol:=pol) (fn:=Try.f82) (cd:=B82) follows_mixed sound (by kernel_rfl) (by kernel_rfl) (fnok pol.prim _ _ (by kernel_rfl)) (by kernel_rfl) ?_
  intro args res h
  unfold len82 at h
  split at h
  · rename_i x
    split at h
    · rename_i hx
      cases h
      obtain ⟨n,rfl⟩:∃ n:Nat,x=(n:Int):=⟨x.toNat,by omega⟩
      rw [Int.toNat_natCast]
      unfold lenN
      split
      · rename_i c
        obtain ⟨h1,_,_,h4⟩:=tab_at c
        have t:=l82_7 (n:Int) (bl 8 n:Int) (by omega) (by omega) (by omega) (by rw [u8w c]; exact h1)
        rw [wrap_id (n:=(bl 8 n:Int)) (by omega) (by omega),wrap_id (by omega) (by omega),Int.zero_add] at t
        exact ⟨_,_,_,.int .i64 (bl 8 n:Int),t,by simp,by simp only [resultsV,res82]; rfl,rfl⟩
      · rename_i c
        obtain ⟨h1,_,_,h4⟩:=tab_at (y:=n / 256) (by omega)
        have hs:binV Tp .shr 108 (.int .u64 (n:Int)) (.int .u64 8)=some (.int .u64 ((n / 256:Nat):Int)):=by
          have e:binV Tp .shr 108 (.int .u64 (n:Int)) (.int .u64 8)=some (.int .u64 ((n:Int).fdiv (2 ^ min (8:Int).toNat 64))):=rfl
          rw [e]
          have:((n:Int).fdiv (2 ^ min (8:Int).toNat 64))=((n / 256:Nat):Int):=by
            rw [show ((2:Int) ^ min (8:Int).toNat 64)=((256:Nat):Int) by decide,Int.fdiv_eq_ediv_of_nonneg _ (Int.natCast_nonneg _)]
            rfl
          rw [this]
        have t:=l82_6 (n:Int) _ (bl 8 (n / 256):Int) (by omega) (by omega) (by omega) hs (by rw [u8w (by omega)]; exact h1)
        rw [wrap_id (n:=(bl 8 (n / 256):Int)) (by omega) (by omega),wrap_id (by omega) (by omega),show (8:Int)+(bl 8 (n / 256):Int)=((8+bl 8 (n / 256):Nat):Int) by omega] at t
        exact ⟨_,_,_,.int .i64 ((8+bl 8 (n / 256):Nat):Int),t,by simp,by simp only [resultsV,res82]; rfl,rfl⟩
    · cases h
  · cases h
theorem soundLb (n:Nat):CallSound Tp (callN Tp polLb n):=sound_prim _ (fun g f h=>by
  split at h
  · rename_i hg; cases h; rw [eq_of_beq hg]; exact len82_ok
  · cases h) n
theorem len68_ok:PrimOk Tp 68 len82:=by
  refine primOk_pure (pol:=polLb) (fn:=Try.f68) (cd:=B68) follows_mixed soundLb (by kernel_rfl) (by kernel_rfl) (fnok polLb.prim _ _ (by kernel_rfl)) (by kernel_rfl) ?_
  intro args res h
  have h':=h
  unfold len82 at h
  split at h
  · rename_i x
    split at h
    · rename_i hx
      cases h
      have t:=l68_0 x _ (fun kf=>by
        rw [prim_call (pol:=polLb) (g:=82) (F:=len82) (by kernel_rfl) (rs:=[.int .u64 x]) rfl h']; rfl)
      exact ⟨_,_,_,.int .i64 (lenN x.toNat:Int),t,by simp,by simp only [resultsV,res68]; rfl,rfl⟩
    · cases h
  · cases h
theorem soundLc (n:Nat):CallSound Tp (callN Tp polLc n):=sound_prim _ (fun g f h=>by
  split at h
  · rename_i hg; cases h; rw [eq_of_beq hg]; exact len68_ok
  · cases h) n
theorem next_ok:PrimOk Tp 93 next93:=by
  refine primOk_pure (pol:=polLc) (fn:=Try.f93) (cd:=B93) follows_mixed soundLc (by kernel_rfl) (by kernel_rfl) (fnok polLc.prim _ _ (by kernel_rfl)) (by kernel_rfl) ?_
  intro args res h
  unfold next93 at h
  split at h
  · rename_i x
    split at h
    · rename_i hx
      cases h
      obtain ⟨n,rfl⟩:∃ n:Nat,x=(n:Int):=⟨x.toNat,by omega⟩
      rw [Int.toNat_natCast]
      have hl:=(lenN_ok (x:=n) (by omega)).2
      have hu:IntKind.u64.wrap (n:Int)=(n:Int):=by rw [wrapU64]; omega
      have hs:binV Tp .shl 85 (.int .u64 1) (.int .i64 (lenN n:Int))=some (.int .u64 ((2 ^ lenN n:Nat):Int)):=by
        have e:binV Tp .shl 85 (.int .u64 1) (.int .i64 (lenN n:Int))=if (lenN n:Int) < 0 then none else some (.int .u64 (IntKind.u64.wrap (1 * 2 ^ min (lenN n:Int).toNat 64))):=rfl
        rw [e,if_neg (by omega),Int.toNat_natCast,show min (lenN n) 64=lenN n by omega,Int.one_mul,show ((2:Int) ^ lenN n)=((2 ^ lenN n:Nat):Int) by push_cast; rfl]
        have h2:2 ^ lenN n ≤ 2 ^ 16:=Nat.pow_le_pow_right (by omega) hl
        have h3:2 ^ lenN n ≤ 65536:=h2
        generalize 2 ^ lenN n=p at h3
        rw [wrapU64,show (p:Int) % 18446744073709551616=p by omega]
      have t:=l93_0 (n:Int) (lenN n:Int) _ (fun kf=>by
        rw [hu,prim_call (pol:=polLc) (g:=68) (F:=len82) (by kernel_rfl) (rs:=[.int .u64 (n:Int)]) rfl (res:=.int .i64 (lenN n:Int)) (by simp only [len82]; rw [if_pos (by omega),Int.toNat_natCast])]; rfl) hs
      exact ⟨_,_,_,.int .u64 ((2 ^ lenN n:Nat):Int),t,by simp,by simp only [resultsV,res93]; rfl,rfl⟩
    · cases h
  · cases h
end Go.Proofs.Ytaibmipamkaljaa
end
section
open Go Go.HL
namespace Go.Proofs.Ytaibmipamkaljaa
open Go.Proofs.Try renaming prog → Tp
open Go.HL.HV renaming undef → Ud
def polZ:Pol:={ pol with prim:=fun g=>if g == 55 then some newGroup55 else if g == 56 then some elements56 else if g == 57 then some short57 else if g == 58 then some element58 else if g == 59 then some add59 else none }
theorem soundZ (n:Nat):CallSound Tp (callN Tp polZ n):=sound_prim _ (fun g f h=>by
  split at h
  · rename_i hg; cases h; rw [eq_of_beq hg]; exact newGroup_ok
  split at h
  · rename_i hg; cases h; rw [eq_of_beq hg]; exact elements_ok
  split at h
  · rename_i hg; cases h; rw [eq_of_beq hg]; exact short_ok
  split at h
  · rename_i hg; cases h; rw [eq_of_beq hg]; exact element_ok
  split at h
  · rename_i hg; cases h; rw [eq_of_beq hg]; exact add_ok
  · cases h) n
theorem recv_X (l:List El) (t:Bool) (H:Heap):recv (.tuple [.own 2 (l.map encX),.bool t]) H=(.tuple [.sl H.length 0 l.length none l.length 2,.bool t],H ++ [bX l]):=by
  have h:recvCell (.own 2 (l.map encX)) H=(.sl H.length 0 l.length none l.length 2,H ++ [bX l]):=by
    simp only [recvCell,encX_any,List.length_map]; rfl
  simp only [recv,recvVals,recvVal,h]; rfl
theorem newGroup_at {pol':Pol} (hp:pol'.prim 55=some newGroup55) (l:List Int) (H:Heap):∀ k,callN Tp pol' (k+1) 55 [.imm .arg 1 (l.map encI)] H=some (.tuple [encG (newGroupT l).1,.bool (newGroupT l).2],H):=fun k=>by
  have hX:=arg_li H l
  have hd:mapO decI (l.map encI)=some l:=mapO_map decI_enc l
  rw [prim_call (pol:=pol') (g:=55) (F:=newGroup55) hp (rs:=[.imm .arg 1 (l.map encI)]) (by simp only [mapO,hX]) (res:=.tuple [encG (newGroupT l).1,.bool (newGroupT l).2]) (by simp only [newGroup55,liF,hd])]
  rfl
theorem elements_at {g:Gr} {pol':Pol} (hp:pol'.prim 56=some elements56) (hg:grOk g) (hr:g.2.2=1 ∨ g.2.2=2) {R:List (List Int)} (hR:R.length ≤ 1000) (H:Heap):∀ k,callN Tp pol' (k+1) 56 [encG g,.imm .arg 1 (R.map encR)] H =
    some (.tuple [.sl H.length 0 ((elemsT g R).getD []).length none ((elemsT g R).getD []).length 2,.bool (elemsT g R).isSome],H ++ [bX ((elemsT g R).getD [])]):=fun k=>by
  have hG:toArg H 6 (encG g)=some (encG g):=rfl
  have hX:=arg_rw H R
  have hd:mapO decR (R.map encR)=some R:=mapO_map decR_enc R
  rw [prim_call (pol:=pol') (g:=56) (F:=elements56) hp (rs:=[encG g,.imm .arg 1 (R.map encR)]) (by simp only [mapO,hG,hX]) (res:=.tuple [.own 2 (((elemsT g R).getD []).map encX),.bool (elemsT g R).isSome]) (by
    simp only [elements56,decG_enc,hd]
    rw [if_pos ⟨hg,hr,hR⟩]
    cases elemsT g R <;> rfl),recv_X]
theorem recv_li1 (l:List Int) (x:Int) (H:Heap):recv (.tuple [.own 1 (l.map encI),.int .i64 x]) H=(.tuple [.sl H.length 0 l.length none l.length 1,.int .i64 x],H ++ [bI l]):=by
  have h:recvCell (.own 1 (l.map encI)) H=(.sl H.length 0 l.length none l.length 1,H ++ [bI l]):=by
    simp only [recvCell,encI_any,List.length_map]; rfl
  simp only [recv,recvVals,recvVal,h]; rfl
def shP (r:Option (List Int)):List Int × Int:=match r with | some p=>(p,0) | none=>([],6)
theorem shR_eq (r:Option (List Int)):shR r=.tuple [.own 1 ((shP r).1.map encI),.int .i64 (shP r).2]:=by cases r <;> rfl
theorem short_at {g:Gr} {l:List El} {t:El} {pol':Pol} (hp:pol'.prim 57=some short57) (hg:grOk g) (hl:allEl g l=true) (hll:l.length ≤ 1000) {k:Nat} (hk:k ≤ 1001) {H:Heap} {b:Nat} (hb:H[b]?=some (bX l)) :
    ∀ kf,callN Tp pol' (kf+1) 57 [encG g,.sl b 0 l.length none l.length 2,encX t,.int .i64 (k:Int)] H =
      some (.tuple [.sl H.length 0 (shP (shT g l t (l.length+1 - k) k)).1.length none (shP (shT g l t (l.length+1 - k) k)).1.length 1,.int .i64 (shP (shT g l t (l.length+1 - k) k)).2],H ++ [bI (shP (shT g l t (l.length+1 - k) k)).1]):=fun kf=>by
  have hG:toArg H 6 (encG g)=some (encG g):=rfl
  have hT:toArg H 6 (encX t)=some (encX t):=rfl
  have hN:toArg H 6 (.int .i64 (k:Int))=some (.int .i64 (k:Int)):=rfl
  have hX:=arg_Xs (cap:=none) rfl hb
  have hd:mapO decX (l.map encX)=some l:=mapO_map decX_enc l
  rw [prim_call (pol:=pol') (g:=57) (F:=short57) hp (rs:=[encG g,.imm .arg 2 (l.map encX),encX t,.int .i64 (k:Int)]) (by simp only [mapO,hG,hX,hT,hN]) (res:=shR (shT g l t (l.length+1 - k) k)) (by
    simp only [short57,decG_enc,hd,decX_enc]
    rw [if_pos ⟨⟨hg,hl,hll⟩,by omega,by omega⟩,Int.toNat_natCast]),shR_eq,recv_li1]
theorem newGroup_gr {l:List Int} (h:(newGroupT l).2=true):grOk (newGroupT l).1∧((newGroupT l).1.2.2=1 ∨ (newGroupT l).1.2.2=2):=by
  match l with
  | []=>simp [newGroupT] at h
  | [a] =>
    simp only [newGroupT] at h ⊢
    split
    · rename_i c
      have:=of_decide_eq_true c
      exact ⟨⟨⟨by show 1 ≤ a; omega,by show a ≤ 1000; omega⟩,by show (1:Int) ≤ 1; omega,by show (1:Int) ≤ 1000; omega⟩,.inl rfl⟩
    · rename_i c; rw [if_neg c] at h; cases h
  | [a,b] =>
    simp only [newGroupT] at h ⊢
    split
    · rename_i c
      rw [Bool.and_eq_true] at c
      have h1:=of_decide_eq_true c.1
      have h2:=of_decide_eq_true c.2
      exact ⟨⟨⟨by show 1 ≤ a; omega,by show a ≤ 1000; omega⟩,by show 1 ≤ b; omega,by show b ≤ 1000; omega⟩,.inr rfl⟩
    · rename_i c; rw [if_neg c] at h; cases h
  | a :: b :: c :: l=>simp [newGroupT] at h
theorem element_el {g:Gr} (hg:grOk g) {l:List Int} (h:(elementT g l).2=true):elOk g (elementT g l).1:=by
  match l with
  | []=>simp [elementT] at h
  | [a] =>
    simp only [elementT] at h ⊢
    split
    · rename_i c
      have:=of_decide_eq_true c.2
      exact ⟨⟨this.1,by show a < g.1; omega⟩,Int.le_refl _,by show (0:Int) < g.2.1; have:=hg.2; omega⟩
    · rename_i c; rw [if_neg c] at h; cases h
  | [a,b] =>
    simp only [elementT] at h ⊢
    split
    · rename_i c
      rw [if_pos c] at h
      have h1:=of_decide_eq_true c.2
      split
      · rename_i d
        have h2:=of_decide_eq_true d
        exact ⟨⟨h1.1,by show a < g.1; omega⟩,h2.1,by show b < g.2.1; omega⟩
      · rename_i d; rw [if_neg d] at h; cases h
    · rename_i c; rw [if_neg c] at h; cases h
  | a :: b :: c :: l=>simp [elementT] at h
theorem elems_el {g:Gr} (hg:grOk g) {R:List (List Int)} {l:List El} (h:elemsT g R=some l):allEl g l=true∧l.length=R.length∧R.length ≤ 60:=by
  unfold elemsT at h
  split at h
  · rename_i c
    cases h
    refine ⟨?_,by simp,c.1⟩
    rw [allEl_iff]
    intro x hx
    obtain ⟨r,hr,rfl⟩:=List.mem_map.1 hx
    exact element_el hg (List.all_eq_true.1 c.2 r hr)
  · cases h
def zeroT (l:List Int) (R:List (List Int)):List Int × Int :=
  if (newGroupT l).2=true then (match elemsT (newGroupT l).1 R with | some els=>shP (shT (newGroupT l).1 els (0,0) els.length 1) | none=>([],2)) else ([],2)
def zero26:List HV → Option HV
  | [.imm .arg 1 la,.imm .arg 1 rw]=>(match mapO decI la,mapO decR rw with | some l,some R=>if R.length ≤ 1000 then some (.tuple [.own 1 ((zeroT l R).1.map encI),.int .i64 (zeroT l R).2]) else none | _,_=>none)
  | _=>none
theorem zero_inv {args:List HV} {res:HV} (h:zero26 args=some res):∃ l R,args=[.imm .arg 1 (l.map encI),.imm .arg 1 (R.map encR)]∧R.length ≤ 1000∧res=.tuple [.own 1 ((zeroT l R).1.map encI),.int .i64 (zeroT l R).2]:=by
  unfold zero26 at h
  split at h
  · rename_i la rw_
    split at h
    · rename_i l R hl hR
      split at h
      · rename_i hk
        cases h
        exact ⟨l,R,by rw [mapO_inv decI_inv hl,mapO_inv decR_inv hR],hk,rfl⟩
      · cases h
    · cases h
  · cases h
end Go.Proofs.Ytaibmipamkaljaa
end
section
open Go Go.HL
namespace Go.Proofs.Ytaibmipamkaljaa
set_option maxRecDepth 100000
open Go.Proofs.Try renaming prog → Tp
open Go.HL.HV renaming undef → Ud
noncomputable def B26:Code:=Try.f26.body.getD .skip
abbrev env26 (v0 v1 v4 v5 v6 v7 v8:HV):Env:=[(0,v0),(1,v1),(4,v4),(5,v5),(6,v6),(7,v7),(8,v8)]
theorem ze_0 (l rw:List HV) (m0:Int) (m1:Int) (sz:Int) (q:Nat) (es:List HV) (pn:Nat) (er:Int) (ps:List HV) (g0:∀ kf,callN Tp polZ (kf+1) 55 [.a l] []=some (.tuple [.agg [.i m0,.i m1,.i sz],.bool true],[])) (g1:∀ kf,callN Tp polZ (kf+1) 56 [.agg [.i m0,.i m1,.i sz],.a rw] [.arr 3 [.agg [.i m0,.i m1,.i sz]] true 0]=some (.tuple [.sl 1 0 q none q 2,.bool true],[.arr 3 [.agg [.i m0,.i m1,.i sz]] true 0,.arr 2 es true 0])) (g2:∀ kf,callN Tp polZ (kf+1) 57 [.agg [.i m0,.i m1,.i sz],.sl 1 0 q none q 2,.agg [.i 0,.i 0],.i 1] [.arr 3 [.agg [.i m0,.i m1,.i sz]] true 0,.arr 2 es true 0]=some (.tuple [.s 2 pn,.i er],[.arr 3 [.agg [.i m0,.i m1,.i sz]] true 0,.arr 2 es true 0,.b ps])):RT polZ 26 (sub [] B26) [(0,.a l),(1,.a rw)] [] .ret (env26 (.a l) (.a rw) (.s 2 pn) (.i er) (.ptr 0 0 0 1) (.bool true) (.sl 1 0 q none q 2)) [.arr 3 [.agg [.i m0,.i m1,.i sz]] true 0,.arr 2 es true 0,.b ps] :=
  RunsTo.hin 0 60 [⟨1,1,.tuple [.agg [.i m0,.i m1,.i sz],.bool true],[]⟩,⟨4,2,.tuple [.sl 1 0 q none q 2,.bool true],[.arr 3 [.agg [.i m0,.i m1,.i sz]] true 0,.arr 2 es true 0]⟩,⟨7,3,.tuple [.s 2 pn,.i er],[.arr 3 [.agg [.i m0,.i m1,.i sz]] true 0,.arr 2 es true 0,.b ps]⟩] fun kf hk=>⟨_,by kernel_rfl,(oC (g0 kf) (oC (g1 kf) (oC (g2 kf) .nil)))⟩
theorem ze_1 (l rw:List HV) (m0:Int) (m1:Int) (sz:Int) (q:Nat) (es:List HV) (g0:∀ kf,callN Tp polZ (kf+1) 55 [.a l] []=some (.tuple [.agg [.i m0,.i m1,.i sz],.bool true],[])) (g1:∀ kf,callN Tp polZ (kf+1) 56 [.agg [.i m0,.i m1,.i sz],.a rw] [.arr 3 [.agg [.i m0,.i m1,.i sz]] true 0]=some (.tuple [.sl 1 0 q none q 2,.bool false],[.arr 3 [.agg [.i m0,.i m1,.i sz]] true 0,.arr 2 es true 0])):RT polZ 26 (sub [] B26) [(0,.a l),(1,.a rw)] [] .ret (env26 (.a l) (.a rw) (.imm .lit 1 []) (.i 2) (.ptr 0 0 0 1) (.bool false) (.sl 1 0 q none q 2)) [.arr 3 [.agg [.i m0,.i m1,.i sz]] true 0,.arr 2 es true 0] :=
  RunsTo.hin 0 60 [⟨1,1,.tuple [.agg [.i m0,.i m1,.i sz],.bool true],[]⟩,⟨4,2,.tuple [.sl 1 0 q none q 2,.bool false],[.arr 3 [.agg [.i m0,.i m1,.i sz]] true 0,.arr 2 es true 0]⟩] fun kf hk=>⟨_,by kernel_rfl,(oC (g0 kf) (oC (g1 kf) .nil))⟩
theorem ze_2 (l rw:List HV) (m0:Int) (m1:Int) (sz:Int) (g0:∀ kf,callN Tp polZ (kf+1) 55 [.a l] []=some (.tuple [.agg [.i m0,.i m1,.i sz],.bool false],[])):RT polZ 26 (sub [] B26) [(0,.a l),(1,.a rw)] [] .ret (env26 (.a l) (.a rw) (.imm .lit 1 []) (.i 2) (.ptr 0 0 0 1) (.bool false) Ud) [.arr 3 [.agg [.i m0,.i m1,.i sz]] true 0] :=
  RunsTo.hin 0 60 [⟨1,1,.tuple [.agg [.i m0,.i m1,.i sz],.bool false],[]⟩] fun kf hk=>⟨_,by kernel_rfl,(oC (g0 kf) .nil)⟩
end Go.Proofs.Ytaibmipamkaljaa
end
section
open Go Go.HL
namespace Go.Proofs.Ytaibmipamkaljaa
open Go.Proofs.Try renaming prog → Tp
open Go.HL.HV renaming undef → Ud
theorem res26:Try.f26.results.toList=[.tmp 4,.tmp 5]:=by kernel_rfl
theorem zero_ok:PrimOk Tp 26 zero26:=by
  refine primOk_pure (pol:=polZ) (fn:=Try.f26) (cd:=B26) follows_mixed soundZ (by kernel_rfl) (by kernel_rfl) (fnok polZ.prim _ _ (by kernel_rfl)) (by kernel_rfl) ?_
  intro args res h
  obtain ⟨l,R,rfl,hR,rfl⟩:=zero_inv h
  have h5:=newGroup_at (pol':=polZ) (by kernel_rfl) l []
  by_cases c:(newGroupT l).2=true
  · obtain ⟨hg,hr⟩:=newGroup_gr c
    rw [c] at h5
    have h6:=elements_at (pol':=polZ) (by kernel_rfl) hg hr hR [bGr (newGroupT l).1]
    cases he:elemsT (newGroupT l).1 R with
    | some els =>
      rw [he] at h6
      obtain ⟨k1,k2,k3⟩:=elems_el hg he
      have h7:=short_at (pol':=polZ) (g:=(newGroupT l).1) (l:=els) (t:=(0,0)) (by kernel_rfl) hg k1 (by omega) (k:=1) (by omega) (H:=[bGr (newGroupT l).1,bX els]) (b:=1) rfl
      have s:=ze_0 (l.map encI) (R.map encR) _ _ _ _ _ _ _ _ h5 h6 h7
      refine ⟨_,_,_,_,s,by simp,by simp only [resultsV,res26]; rfl,?_⟩
      have e:zeroT l R=shP (shT (newGroupT l).1 els (0,0) els.length 1):=by simp only [zeroT,c,if_true,he]
      rw [e]
      exact toRes_li1 (b:=2) rfl rfl _
    | none =>
      rw [he] at h6
      have s:=ze_1 (l.map encI) (R.map encR) _ _ _ _ _ h5 h6
      refine ⟨_,_,_,.tuple [.imm .lit 1 [],.int .i64 2],s,by simp,by simp only [resultsV,res26]; rfl,?_⟩
      have e:zeroT l R=([],2):=by simp only [zeroT,c,if_true,he]
      rw [e]; rfl
  · rw [nb_false c] at h5
    have s:=ze_2 (l.map encI) (R.map encR) _ _ _ h5
    refine ⟨_,_,_,.tuple [.imm .lit 1 [],.int .i64 2],s,by simp,by simp only [resultsV,res26]; rfl,?_⟩
    have e:zeroT l R=([],2):=by simp only [zeroT,nb_false c,Bool.false_eq_true,if_false]
    rw [e]; rfl
theorem get_app (H:Heap) (B:Blk):(H ++ [B])[H.length]?=some B:=by rw [List.getElem?_append_right (Nat.le_refl _),Nat.sub_self]; rfl
end Go.Proofs.Ytaibmipamkaljaa
end
section
open Go Go.HL Go.HL.So
namespace Go.Proofs.Ytaibmipamkaljaa
open Go.Proofs.Try renaming prog → Tp
open Go.HL.HV renaming undef → Ud
def prSl:FuncId → Option (List HV → Option HV):=fun g=>if g == 64 then some compare64 else if g == 68 then some len82 else if g == 93 then some next93 else if g == 55 then some newGroup55 else if g == 56 then some elements56 else if g == 59 then some add59 else if g == 62 then some list62 else none
def polSl:Pol:={ pol with prim:=prSl,freeze:=fun g r=>!(g == 39 && r == 23),deep:=fun g=>g == 39 }
theorem prSl_ok (g:FuncId) (f:List HV → Option HV) (h:prSl g=some f):PrimOk Tp g f:=by
  unfold prSl at h
  split at h
  · rename_i hg; cases h; rw [eq_of_beq hg]; exact compare64_ok
  split at h
  · rename_i hg; cases h; rw [eq_of_beq hg]; exact len68_ok
  split at h
  · rename_i hg; cases h; rw [eq_of_beq hg]; exact next_ok
  split at h
  · rename_i hg; cases h; rw [eq_of_beq hg]; exact newGroup_ok
  split at h
  · rename_i hg; cases h; rw [eq_of_beq hg]; exact elements_ok
  split at h
  · rename_i hg; cases h; rw [eq_of_beq hg]; exact add_ok
  split at h
  · rename_i hg; cases h; rw [eq_of_beq hg]; exact list62_ok
  · cases h
theorem fnOk_polSl (g:FuncId) (fn:Func):fnOk polSl g fn=fnOk pol g fn:=rfl
theorem soundSl (n:Nat):CallSound Tp (callN Tp polSl n) :=
  callN_ok follows_mixed (fun g fn h=>by
    rw [fnOk_polSl]
    exact List.all_eq_true.1 fns_ok (fn,g) (by
      rw [List.mem_zipIdx_iff_getElem?]
      simpa using h)) prSl_ok n
theorem RunsTo.block_other {P:Program} {pol:Pol} {f:FuncId} {b c:Code} {e E:Env} {H H':Heap} {x:X} {K:List Nat} {i:Nat} (h:RunsTo P pol f b e H x K E H') (hx:x ≠ .exit i) (hc:c=.block i b):RunsTo P pol f c e H x K E H':=by
  have:=RunsTo.block hc h
  rwa [if_neg hx] at this
theorem RunsTo.skip {P:Program} {pol:Pol} {f:FuncId} {c:Code} {e E:Env} {H:Heap} {K:List Nat} (hE:restr K e=E) (hc:c=.skip):RunsTo P pol f c e H .normal K E H:=by
  subst hc
  refine ⟨1,fun n k hn _=>⟨e,?_,hE⟩⟩
  obtain ⟨n,rfl⟩:∃ m,n=m+1:=⟨n - 1,by omega⟩
  rfl
theorem mxs_le {m:Nat}:∀ {H:Heap},mxs H ≤ m ↔ ∀ B ∈ H,B.mx ≤ m
  | []=>by simp [mxs]
  | B :: H=>by
    have:=mxs_le (m:=m) (H:=H)
    simp only [mxs,List.mem_cons,forall_eq_or_imp,← this]
    omega
abbrev ClL (g:FuncId) (args:List HV) (H:Heap) (r:HV) (H':Heap):Prop:=CallsTo (P:=Tp) (pol:=polSl) g args H r H'
end Go.Proofs.Ytaibmipamkaljaa
end
section
open Go Go.HL
namespace Go.Proofs.Ytaibmipamkaljaa
set_option maxRecDepth 100000
open Go.Proofs.Try renaming prog → Tp
open Go.HL.HV renaming undef → Ud
noncomputable def B39:Code:=Try.f39.body.getD .skip
abbrev env39 (v0 v1 v4 v5 v6 v7 v8 v9 v11 v12 v13 v14 v15 v32 v33 v34 v42 v57:HV):Env:=[(0,v0),(1,v1),(4,v4),(5,v5),(6,v6),(7,v7),(8,v8),(9,v9),(11,v11),(12,v12),(13,v13),(14,v14),(15,v15),(32,v32),(33,v33),(34,v34),(42,v42),(57,v57)]
theorem su_a_0 (l rw:List HV) :RT polSl 39 (sub [0] B39) [(0,.a l),(1,.a rw)] [] .normal (env39 (.a l) (.a rw) (.imm .lit 1 []) (.i 0) Ud Ud Ud Ud Ud Ud Ud Ud Ud Ud Ud Ud Ud Ud) [] :=
  RunsTo.hin 0 60 [] fun kf hk=>⟨_,by kernel_rfl,.nil⟩
theorem su_b_0 (l rw:List HV)  {y6 y7 y8 y9 y11 y12 y13 y14 y15 y32 y33 y34 y42 y57:HV} {m0:Int} {m1:Int} {sz:Int} (g0:∀ kf,callN Tp polSl (kf+1) 55 [.a l] []=some (.tuple [.agg [.i m0,.i m1,.i sz],.bool true],[])):RT polSl 39 (sub [1,0] B39) (env39 (.a l) (.a rw) (.imm .lit 1 []) (.i 0) y6 y7 y8 y9 y11 y12 y13 y14 y15 y32 y33 y34 y42 y57) [] .normal (env39 (.a l) (.a rw) (.imm .lit 1 []) (.i 0) (.ptr 0 0 0 1) (.bool true) y8 y9 y11 y12 y13 y14 y15 y32 y33 y34 y42 y57) [.arr 3 [.agg [.i m0,.i m1,.i sz]] true 0] :=
  RunsTo.hin 0 60 [⟨1,1,.tuple [.agg [.i m0,.i m1,.i sz],.bool true],[]⟩] fun kf hk=>⟨_,by kernel_rfl,(oC (g0 kf) .nil)⟩
theorem su_b_1 (l rw:List HV)  {y6 y7 y8 y9 y11 y12 y13 y14 y15 y32 y33 y34 y42 y57:HV} {m0:Int} {m1:Int} {sz:Int} (g0:∀ kf,callN Tp polSl (kf+1) 55 [.a l] []=some (.tuple [.agg [.i m0,.i m1,.i sz],.bool false],[])):RT polSl 39 (sub [1,0] B39) (env39 (.a l) (.a rw) (.imm .lit 1 []) (.i 0) y6 y7 y8 y9 y11 y12 y13 y14 y15 y32 y33 y34 y42 y57) [] .normal (env39 (.a l) (.a rw) (.imm .lit 1 []) (.i 0) (.ptr 0 0 0 1) (.bool false) y8 y9 y11 y12 y13 y14 y15 y32 y33 y34 y42 y57) [.arr 3 [.agg [.i m0,.i m1,.i sz]] true 0] :=
  RunsTo.hin 0 60 [⟨1,1,.tuple [.agg [.i m0,.i m1,.i sz],.bool false],[]⟩] fun kf hk=>⟨_,by kernel_rfl,(oC (g0 kf) .nil)⟩
theorem su_ct_0 (l rw:List HV) (m0 m1 sz:Int) {y8 y9 y11 y12 y13 y14 y15 y32 y33 y34 y42 y57:HV}:RT polSl 39 (sub [1,1,0] B39) (env39 (.a l) (.a rw) (.imm .lit 1 []) (.i 0) (.ptr 0 0 0 1) (.bool true) y8 y9 y11 y12 y13 y14 y15 y32 y33 y34 y42 y57) [.arr 3 [.agg [.i m0,.i m1,.i sz]] true 0] .normal (env39 (.a l) (.a rw) (.imm .lit 1 []) (.i 0) (.ptr 0 0 0 1) (.bool true) y8 y9 y11 y12 y13 y14 y15 y32 y33 y34 y42 y57) [.arr 3 [.agg [.i m0,.i m1,.i sz]] true 0] :=
  RunsTo.hin 0 60 [] fun kf hk=>⟨_,by kernel_rfl,.nil⟩
theorem su_cf_0 (l rw:List HV) (m0 m1 sz:Int) {y8 y9 y11 y12 y13 y14 y15 y32 y33 y34 y42 y57:HV}:RT polSl 39 (sub [1,1,0] B39) (env39 (.a l) (.a rw) (.imm .lit 1 []) (.i 0) (.ptr 0 0 0 1) (.bool false) y8 y9 y11 y12 y13 y14 y15 y32 y33 y34 y42 y57) [.arr 3 [.agg [.i m0,.i m1,.i sz]] true 0] .ret (env39 (.a l) (.a rw) (.imm .lit 1 []) (.i 2) (.ptr 0 0 0 1) (.bool false) y8 y9 y11 y12 y13 y14 y15 y32 y33 y34 y42 y57) [.arr 3 [.agg [.i m0,.i m1,.i sz]] true 0] :=
  RunsTo.hin 0 60 [] fun kf hk=>⟨_,by kernel_rfl,.nil⟩
theorem su_d_0 (l rw:List HV) (m0 m1 sz:Int) {y8 y9 y11 y12 y13 y14 y15 y32 y33 y34 y42 y57:HV} {q:Nat} {es:List HV} (g0:∀ kf,callN Tp polSl (kf+1) 56 [.agg [.i m0,.i m1,.i sz],.a rw] [.arr 3 [.agg [.i m0,.i m1,.i sz]] true 0]=some (.tuple [.sl 1 0 q none q 2,.bool true],[.arr 3 [.agg [.i m0,.i m1,.i sz]] true 0,.arr 2 es true 0])):RT polSl 39 (sub [1,1,1,0] B39) (env39 (.a l) (.a rw) (.imm .lit 1 []) (.i 0) (.ptr 0 0 0 1) (.bool true) y8 y9 y11 y12 y13 y14 y15 y32 y33 y34 y42 y57) [.arr 3 [.agg [.i m0,.i m1,.i sz]] true 0] .normal (env39 (.a l) (.a rw) (.imm .lit 1 []) (.i 0) (.ptr 0 0 0 1) (.bool true) (.sl 1 0 q none q 2) y9 y11 y12 y13 y14 y15 y32 y33 y34 y42 y57) [.arr 3 [.agg [.i m0,.i m1,.i sz]] true 0,.arr 2 es true 0] :=
  RunsTo.hin 0 60 [⟨4,2,.tuple [.sl 1 0 q none q 2,.bool true],[.arr 3 [.agg [.i m0,.i m1,.i sz]] true 0,.arr 2 es true 0]⟩] fun kf hk=>⟨_,by kernel_rfl,(oC (g0 kf) .nil)⟩
theorem su_d_1 (l rw:List HV) (m0 m1 sz:Int) {y8 y9 y11 y12 y13 y14 y15 y32 y33 y34 y42 y57:HV} {q:Nat} {es:List HV} (g0:∀ kf,callN Tp polSl (kf+1) 56 [.agg [.i m0,.i m1,.i sz],.a rw] [.arr 3 [.agg [.i m0,.i m1,.i sz]] true 0]=some (.tuple [.sl 1 0 q none q 2,.bool false],[.arr 3 [.agg [.i m0,.i m1,.i sz]] true 0,.arr 2 es true 0])):RT polSl 39 (sub [1,1,1,0] B39) (env39 (.a l) (.a rw) (.imm .lit 1 []) (.i 0) (.ptr 0 0 0 1) (.bool true) y8 y9 y11 y12 y13 y14 y15 y32 y33 y34 y42 y57) [.arr 3 [.agg [.i m0,.i m1,.i sz]] true 0] .normal (env39 (.a l) (.a rw) (.imm .lit 1 []) (.i 0) (.ptr 0 0 0 1) (.bool false) (.sl 1 0 q none q 2) y9 y11 y12 y13 y14 y15 y32 y33 y34 y42 y57) [.arr 3 [.agg [.i m0,.i m1,.i sz]] true 0,.arr 2 es true 0] :=
  RunsTo.hin 0 60 [⟨4,2,.tuple [.sl 1 0 q none q 2,.bool false],[.arr 3 [.agg [.i m0,.i m1,.i sz]] true 0,.arr 2 es true 0]⟩] fun kf hk=>⟨_,by kernel_rfl,(oC (g0 kf) .nil)⟩
theorem su_et_0 (l rw:List HV) (m0 m1 sz:Int) (q:Nat) (es:List HV) {y9 y11 y12 y13 y14 y15 y32 y33 y34 y42 y57:HV}:RT polSl 39 (sub [1,1,1,1,0] B39) (env39 (.a l) (.a rw) (.imm .lit 1 []) (.i 0) (.ptr 0 0 0 1) (.bool true) (.sl 1 0 q none q 2) y9 y11 y12 y13 y14 y15 y32 y33 y34 y42 y57) [.arr 3 [.agg [.i m0,.i m1,.i sz]] true 0,.arr 2 es true 0] .normal (env39 (.a l) (.a rw) (.imm .lit 1 []) (.i 0) (.ptr 0 0 0 1) (.bool true) (.sl 1 0 q none q 2) y9 y11 y12 y13 y14 y15 y32 y33 y34 y42 y57) [.arr 3 [.agg [.i m0,.i m1,.i sz]] true 0,.arr 2 es true 0] :=
  RunsTo.hin 0 60 [] fun kf hk=>⟨_,by kernel_rfl,.nil⟩
theorem su_ef_0 (l rw:List HV) (m0 m1 sz:Int) (q:Nat) (es:List HV) {y9 y11 y12 y13 y14 y15 y32 y33 y34 y42 y57:HV}:RT polSl 39 (sub [1,1,1,1,0] B39) (env39 (.a l) (.a rw) (.imm .lit 1 []) (.i 0) (.ptr 0 0 0 1) (.bool false) (.sl 1 0 q none q 2) y9 y11 y12 y13 y14 y15 y32 y33 y34 y42 y57) [.arr 3 [.agg [.i m0,.i m1,.i sz]] true 0,.arr 2 es true 0] .ret (env39 (.a l) (.a rw) (.imm .lit 1 []) (.i 2) (.ptr 0 0 0 1) (.bool false) (.sl 1 0 q none q 2) y9 y11 y12 y13 y14 y15 y32 y33 y34 y42 y57) [.arr 3 [.agg [.i m0,.i m1,.i sz]] true 0,.arr 2 es true 0] :=
  RunsTo.hin 0 60 [] fun kf hk=>⟨_,by kernel_rfl,.nil⟩
theorem su_f_0 (l rw:List HV)  (H:Heap) (q:Nat) {y7 y9 y11 y12 y13 y14 y15 y32 y33 y34 y42 y57:HV} {H0:Heap} (g0:some (HV.map H.length,H ++ [Blk.map [] [] 0])=some (.map 2,H0)):RT polSl 39 (sub [1,1,1,1,1,0] B39) (env39 (.a l) (.a rw) (.imm .lit 1 []) (.i 0) (.ptr 0 0 0 1) y7 (.sl 1 0 q none q 2) y9 y11 y12 y13 y14 y15 y32 y33 y34 y42 y57) H .normal (env39 (.a l) (.a rw) (.imm .lit 1 []) (.i 0) (.ptr 0 0 0 1) y7 (.sl 1 0 q none q 2) (.map 2) y11 y12 y13 y14 y15 y32 y33 y34 y42 y57) H0 :=
  RunsTo.hin 0 60 [⟨7,0,.map 2,H0⟩] fun kf hk=>⟨_,by kernel_rfl,(oC (g0) .nil)⟩
theorem su_g_0 (l rw:List HV)  (H:Heap) (q:Nat) (m9:HV) {y7 y11 y12 y13 y14 y15 y32 y33 y34 y42 y57:HV}:RT polSl 39 (sub [1,1,1,1,1,1,0,0] B39) (env39 (.a l) (.a rw) (.imm .lit 1 []) (.i 0) (.ptr 0 0 0 1) y7 (.sl 1 0 q none q 2) m9 y11 y12 y13 y14 y15 y32 y33 y34 y42 y57) H .normal (env39 (.a l) (.a rw) (.imm .lit 1 []) (.i 0) (.ptr 0 0 0 1) y7 (.sl 1 0 q none q 2) m9 y11 y12 y13 y14 y15 (.sl 1 0 q none q 2) (.i (q:Int)) (.i 0) y42 y57) H :=
  RunsTo.hin 0 60 [] fun kf hk=>⟨_,by kernel_rfl,.nil⟩
theorem su_h_0 (l rw:List HV)  (H:Heap) (m9:HV) (q i:Nat) {y7 y8 y11 y12 y13 y14 y15 y42 y57:HV}(g0:(i:Int) < (q:Int)):RunsTo Tp polSl 39 (sub [1,1,1,1,1,1,0,1,0,0,0] B39) (env39 (.a l) (.a rw) (.imm .lit 1 []) (.i 0) (.ptr 0 0 0 1) y7 y8 m9 y11 y12 y13 y14 y15 (.sl 1 0 q none q 2) (.i (q:Int)) (.i (i:Int)) y42 y57) H .normal [0,1,4,5,6,7,8,9,11,12,13,14,15,32,33,34,42,57,35] [(0,.a l),(1,.a rw),(4,.imm .lit 1 []),(5,.i 0),(6,.ptr 0 0 0 1),(7,y7),(8,y8),(9,m9),(11,y11),(12,y12),(13,y13),(14,y14),(15,y15),(32,.sl 1 0 q none q 2),(33,.i (q:Int)),(34,.i (i:Int)),(42,y42),(57,y57),(35,.bool true)] H :=
  RunsTo.hin 0 60 [⟨9,0,.bool true,H⟩] fun kf hk=>⟨_,by kernel_rfl,(oB H (decide_eq_true g0) .nil)⟩
theorem su_h_1 (l rw:List HV)  (H:Heap) (m9:HV) (q i:Nat) {y7 y8 y11 y12 y13 y14 y15 y42 y57:HV}(g0:¬ ((i:Int) < (q:Int))):RunsTo Tp polSl 39 (sub [1,1,1,1,1,1,0,1,0,0,0] B39) (env39 (.a l) (.a rw) (.imm .lit 1 []) (.i 0) (.ptr 0 0 0 1) y7 y8 m9 y11 y12 y13 y14 y15 (.sl 1 0 q none q 2) (.i (q:Int)) (.i (i:Int)) y42 y57) H .normal [0,1,4,5,6,7,8,9,11,12,13,14,15,32,33,34,42,57,35] [(0,.a l),(1,.a rw),(4,.imm .lit 1 []),(5,.i 0),(6,.ptr 0 0 0 1),(7,y7),(8,y8),(9,m9),(11,y11),(12,y12),(13,y13),(14,y14),(15,y15),(32,.sl 1 0 q none q 2),(33,.i (q:Int)),(34,.i (i:Int)),(42,y42),(57,y57),(35,.bool false)] H :=
  RunsTo.hin 0 60 [⟨9,0,.bool false,H⟩] fun kf hk=>⟨_,by kernel_rfl,(oB H (decide_eq_false g0) .nil)⟩
theorem su_ht_0 (l rw:List HV)  (H:Heap) (m9:HV) (q i:Nat) {y7 y8 y11 y12 y13 y14 y15 y42 y57:HV}:RT polSl 39 (sub [1,1,1,1,1,1,0,1,0,0,1,0] B39) [(0,.a l),(1,.a rw),(4,.imm .lit 1 []),(5,.i 0),(6,.ptr 0 0 0 1),(7,y7),(8,y8),(9,m9),(11,y11),(12,y12),(13,y13),(14,y14),(15,y15),(32,.sl 1 0 q none q 2),(33,.i (q:Int)),(34,.i (i:Int)),(42,y42),(57,y57),(35,.bool true)] H .normal (env39 (.a l) (.a rw) (.imm .lit 1 []) (.i 0) (.ptr 0 0 0 1) y7 y8 m9 y11 y12 y13 y14 y15 (.sl 1 0 q none q 2) (.i (q:Int)) (.i (i:Int)) y42 y57) H :=
  RunsTo.hin 0 60 [] fun kf hk=>⟨_,by kernel_rfl,.nil⟩
theorem su_hf_0 (l rw:List HV)  (H:Heap) (m9:HV) (q i:Nat) {y7 y8 y11 y12 y13 y14 y15 y42 y57:HV}:RT polSl 39 (sub [1,1,1,1,1,1,0,1,0,0,1,0] B39) [(0,.a l),(1,.a rw),(4,.imm .lit 1 []),(5,.i 0),(6,.ptr 0 0 0 1),(7,y7),(8,y8),(9,m9),(11,y11),(12,y12),(13,y13),(14,y14),(15,y15),(32,.sl 1 0 q none q 2),(33,.i (q:Int)),(34,.i (i:Int)),(42,y42),(57,y57),(35,.bool false)] H (.exit 0) (env39 (.a l) (.a rw) (.imm .lit 1 []) (.i 0) (.ptr 0 0 0 1) y7 y8 m9 y11 y12 y13 y14 y15 (.sl 1 0 q none q 2) (.i (q:Int)) (.i (i:Int)) y42 y57) H :=
  RunsTo.hin 0 60 [] fun kf hk=>⟨_,by kernel_rfl,.nil⟩
theorem su_i_0 (l rw:List HV) (m0 m1 sz:Int) (es:List HV) (x0 x1:Int) (m9:HV) (q i:Nat) {y7 y8 y11 y12 y13 y14 y15 y42 y57:HV}(g0:idxV Tp 67 (.sl 1 0 q none q 2) (.i (i:Int))=some (.ptr 1 i 0 q)) (g1:loadV Tp [.arr 3 [.agg [.i m0,.i m1,.i sz]] true 0,.arr 2 es true 0] 64 (.ptr 1 i 0 q)=some (.agg [.i x0,.i x1])):RT polSl 39 (sub [1,1,1,1,1,1,0,1,0,0,1,1,0,0,0] B39) (env39 (.a l) (.a rw) (.imm .lit 1 []) (.i 0) (.ptr 0 0 0 1) y7 y8 m9 y11 y12 y13 y14 y15 (.sl 1 0 q none q 2) (.i (q:Int)) (.i (i:Int)) y42 y57) [.arr 3 [.agg [.i m0,.i m1,.i sz]] true 0,.arr 2 es true 0] .normal (env39 (.a l) (.a rw) (.imm .lit 1 []) (.i 0) (.ptr 0 0 0 1) y7 y8 m9 (.ptr 2 0 0 1) y12 y13 y14 y15 (.sl 1 0 q none q 2) (.i (q:Int)) (.i (i:Int)) y42 y57) [.arr 3 [.agg [.i m0,.i m1,.i sz]] true 0,.arr 2 es true 0,.arr 2 [.agg [.i x0,.i x1]] true 0] :=
  RunsTo.hin 0 60 [⟨10,0,.ptr 1 i 0 q,[.arr 3 [.agg [.i m0,.i m1,.i sz]] true 0,.arr 2 es true 0]⟩,⟨10,1,.agg [.i x0,.i x1],[.arr 3 [.agg [.i m0,.i m1,.i sz]] true 0,.arr 2 es true 0]⟩] fun kf hk=>⟨_,by kernel_rfl,(oP [.arr 3 [.agg [.i m0,.i m1,.i sz]] true 0,.arr 2 es true 0] g0 (oP [.arr 3 [.agg [.i m0,.i m1,.i sz]] true 0,.arr 2 es true 0] g1 .nil))⟩
theorem su_j_0 (l rw:List HV)  (H:Heap) (x0 x1:Int) (m9:HV) (q i:Nat) {y7 y8 y12 y13 y14 y15 y42 y57:HV} {H0:Heap} {H1:Heap} (g0:some (HV.map H.length,H ++ [Blk.map [] [] 0])=some (.map 3,H0)) (g1:loadV Tp H0 64 (.ptr 2 0 0 1)=some (.agg [.i x0,.i x1])) (g2:updV Tp false 87 (.map 3) (.agg [.i x0,.i x1]) (.bool true) H0=some H1):RT polSl 39 (sub [1,1,1,1,1,1,0,1,0,0,1,1,0,0,1,0] B39) (env39 (.a l) (.a rw) (.imm .lit 1 []) (.i 0) (.ptr 0 0 0 1) y7 y8 m9 (.ptr 2 0 0 1) y12 y13 y14 y15 (.sl 1 0 q none q 2) (.i (q:Int)) (.i (i:Int)) y42 y57) H .normal (env39 (.a l) (.a rw) (.imm .lit 1 []) (.i 0) (.ptr 0 0 0 1) y7 y8 m9 (.ptr 2 0 0 1) (.map 3) y13 y14 y15 (.sl 1 0 q none q 2) (.i (q:Int)) (.i (i:Int)) y42 y57) H1 :=
  RunsTo.hin 0 60 [⟨11,0,.map 3,H0⟩,⟨11,1,.agg [.i x0,.i x1],H0⟩,⟨11,2,.tuple [],H1⟩] fun kf hk=>⟨_,by kernel_rfl,(oC (g0) (oP H0 g1 (oS g2 .nil)))⟩
theorem su_k_0 (l rw:List HV)  (H:Heap) (kb:Nat) (w0 w1:Int) (m9:HV) (q i:Nat) {y7 y8 y14 y15 y42 y57:HV} {H0:Heap} (g0:loadV Tp H 64 (.ptr kb 0 0 1)=some (.agg [.i w0,.i w1])) (g1:updV Tp false 87 (.map 3) (.agg [.i w0,.i w1]) (.bool true) H=some H0):RT polSl 39 (sub [1,1,1,1,1,1,0,1,0,0,1,1,0,0,1,1,0,1,0,0,1,1,0,1,0] B39) (env39 (.a l) (.a rw) (.imm .lit 1 []) (.i 0) (.ptr 0 0 0 1) y7 y8 m9 (.ptr 2 0 0 1) (.map 3) (.ptr kb 0 0 1) y14 y15 (.sl 1 0 q none q 2) (.i (q:Int)) (.i (i:Int)) y42 y57) H .normal (env39 (.a l) (.a rw) (.imm .lit 1 []) (.i 0) (.ptr 0 0 0 1) y7 y8 m9 (.ptr 2 0 0 1) (.map 3) (.ptr kb 0 0 1) y14 y15 (.sl 1 0 q none q 2) (.i (q:Int)) (.i (i:Int)) y42 y57) H0 :=
  RunsTo.hin 0 60 [⟨15,1,.agg [.i w0,.i w1],H⟩,⟨15,2,.tuple [],H0⟩] fun kf hk=>⟨_,by kernel_rfl,(oP H g0 (oS g1 .nil))⟩
theorem su_l_0 (l rw:List HV)  (H:Heap) (kb:Nat) (x0 x1 w0 w1 z0 z1 m0 m1 sz:Int) (m9:HV) (q i:Nat) {y7 y8 y14 y15 y42 y57:HV} {H0:Heap} (g0:loadV Tp H 66 (.ptr 0 0 0 1)=some (.agg [.i m0,.i m1,.i sz])) (g1:loadV Tp H 64 (.ptr 2 0 0 1)=some (.agg [.i x0,.i x1])) (g2:loadV Tp H 64 (.ptr kb 0 0 1)=some (.agg [.i w0,.i w1])) (g3:∀ kf,callN Tp polSl (kf+1) 59 [.agg [.i m0,.i m1,.i sz],.agg [.i x0,.i x1],.agg [.i w0,.i w1]] H=some (.agg [.i z0,.i z1],H)) (g4:updV Tp false 87 (.map 3) (.agg [.i z0,.i z1]) (.bool true) H=some H0):RT polSl 39 (sub [1,1,1,1,1,1,0,1,0,0,1,1,0,0,1,1,0,1,0,0,1,1,0,1,1] B39) (env39 (.a l) (.a rw) (.imm .lit 1 []) (.i 0) (.ptr 0 0 0 1) y7 y8 m9 (.ptr 2 0 0 1) (.map 3) (.ptr kb 0 0 1) y14 y15 (.sl 1 0 q none q 2) (.i (q:Int)) (.i (i:Int)) y42 y57) H .normal (env39 (.a l) (.a rw) (.imm .lit 1 []) (.i 0) (.ptr 0 0 0 1) y7 y8 m9 (.ptr 2 0 0 1) (.map 3) (.ptr kb 0 0 1) y14 y15 (.sl 1 0 q none q 2) (.i (q:Int)) (.i (i:Int)) y42 y57) H0 :=
  RunsTo.hin 0 60 [⟨16,1,.agg [.i m0,.i m1,.i sz],H⟩,⟨16,2,.agg [.i x0,.i x1],H⟩,⟨16,3,.agg [.i w0,.i w1],H⟩,⟨16,4,.agg [.i z0,.i z1],H⟩,⟨16,5,.tuple [],H0⟩] fun kf hk=>⟨_,by kernel_rfl,(oP H g0 (oP H g1 (oP H g2 (oC (g3 kf) (oS g4 .nil)))))⟩
theorem su_m_0 (l rw:List HV)  (H:Heap) (m9:HV) (q i:Nat) {y7 y8 y11 y13 y14 y15 y42 y57:HV}:RT polSl 39 (sub [1,1,1,1,1,1,0,1,0,0,1,1,0,0,1,1,1] B39) (env39 (.a l) (.a rw) (.imm .lit 1 []) (.i 0) (.ptr 0 0 0 1) y7 y8 m9 y11 (.map 3) y13 y14 y15 (.sl 1 0 q none q 2) (.i (q:Int)) (.i (i:Int)) y42 y57) H .normal (env39 (.a l) (.a rw) (.imm .lit 1 []) (.i 0) (.ptr 0 0 0 1) y7 y8 (.map 3) y11 (.map 3) y13 y14 y15 (.sl 1 0 q none q 2) (.i (q:Int)) (.i (i:Int)) y42 y57) H :=
  RunsTo.hin 0 60 [] fun kf hk=>⟨_,by kernel_rfl,.nil⟩
theorem su_n_0 (l rw:List HV)  (H:Heap) (m9:HV) (q i:Nat) {y7 y8 y11 y12 y13 y14 y15 y42 y57:HV}:RT polSl 39 (sub [1,1,1,1,1,1,0,1,0,0,1,1,1] B39) (env39 (.a l) (.a rw) (.imm .lit 1 []) (.i 0) (.ptr 0 0 0 1) y7 y8 m9 y11 y12 y13 y14 y15 (.sl 1 0 q none q 2) (.i (q:Int)) (.i (i:Int)) y42 y57) H .normal (env39 (.a l) (.a rw) (.imm .lit 1 []) (.i 0) (.ptr 0 0 0 1) y7 y8 m9 y11 y12 y13 y14 y15 (.sl 1 0 q none q 2) (.i (q:Int)) (.i (IntKind.i64.wrap ((i:Int)+1))) y42 y57) H :=
  RunsTo.hin 0 60 [] fun kf hk=>⟨_,by kernel_rfl,.nil⟩
theorem su_o_0 (l rw:List HV) (m0 m1 sz:Int) (es:List HV) (m9:HV) {y7 y8 y11 y12 y13 y14 y15 y32 y33 y34 y42 y57:HV}:RT polSl 39 (sub [1,1,1,1,1,1,1,0] B39) (env39 (.a l) (.a rw) (.imm .lit 1 []) (.i 0) (.ptr 0 0 0 1) y7 y8 m9 y11 y12 y13 y14 y15 y32 y33 y34 y42 y57) [.arr 3 [.agg [.i m0,.i m1,.i sz]] true 0,.arr 2 es true 0] .normal (env39 (.a l) (.a rw) (.imm .lit 1 []) (.i 0) (.ptr 0 0 0 1) y7 y8 m9 y11 y12 y13 (.s 2 0) y15 y32 y33 y34 y42 y57) [.arr 3 [.agg [.i m0,.i m1,.i sz]] true 0,.arr 2 es true 0,.b []] :=
  RunsTo.hin 0 60 [] fun kf hk=>⟨_,by kernel_rfl,.nil⟩
theorem su_q_0 (l rw:List HV)  (H:Heap) (kb nb tb n z:Nat) (m0 m1 sz w0 w1:Int) (lo:List HV) {y7 y8 y9 y11 y12 y13 y32 y33 y34 y42 y57:HV} {H0:Heap} {H1:Heap} {H2:Heap} (g0:loadV Tp H 66 (.ptr 0 0 0 1)=some (.agg [.i m0,.i m1,.i sz])) (g1:loadV Tp H 64 (.ptr kb 0 0 1)=some (.agg [.i w0,.i w1])) (g2:∀ kf,callN Tp polSl (kf+1) 62 [.agg [.i m0,.i m1,.i sz],.agg [.i w0,.i w1]] H=some (.s nb z,H0)) (g3:litV Tp false false 35 1 [(0,.s nb z)] H0=some (.o tb 1,H1)) (g4:builtinV Tp .append [35,35] [.s 2 n,.o tb 1] H1=some (.sl 2 0 (n+1) none (n+1) 1,H2)):RT polSl 39 (sub [1,1,1,1,1,1,1,1,0,1,0,0,1,1,0,1] B39) (env39 (.a l) (.a rw) (.imm .lit 1 []) (.i 0) (.ptr 0 0 0 1) y7 y8 y9 y11 y12 y13 (.s 2 n) (.ptr kb 0 0 1) y32 y33 y34 y42 y57) H .normal (env39 (.a l) (.a rw) (.imm .lit 1 []) (.i 0) (.ptr 0 0 0 1) y7 y8 y9 y11 y12 y13 (.sl 2 0 (n+1) none (n+1) 1) (.ptr kb 0 0 1) y32 y33 y34 y42 y57) H2 :=
  RunsTo.hin 0 60 [⟨23,1,.agg [.i m0,.i m1,.i sz],H⟩,⟨23,2,.agg [.i w0,.i w1],H⟩,⟨23,3,.s nb z,H0⟩,⟨23,4,.o tb 1,H1⟩,⟨23,5,.sl 2 0 (n+1) none (n+1) 1,H2⟩] fun kf hk=>⟨_,by kernel_rfl,(oP H g0 (oP H g1 (oC (g2 kf) (oC (g3) (oC (g4) .nil)))))⟩
theorem su_z_0 (N:Nat) (n:Nat) (H:Heap) {y0 y1 y6 y7 y8 y9 y11 y12 y13 y15 y32 y33 y34 y42 y57:HV} {H0:Heap} (g0:∀ kf,N ≤ kf → callN Tp polSl (kf+1) 63 [.s 2 n,.func 64 [] []] H=some (.tuple [],H0)):RT polSl 39 (sub [1,1,1,1,1,1,1,1,1] B39) (env39 y0 y1 (.imm .lit 1 []) (.i 0) y6 y7 y8 y9 y11 y12 y13 (.s 2 n) y15 y32 y33 y34 y42 y57) H .ret (env39 y0 y1 (.s 2 n) (.i 0) y6 y7 y8 y9 y11 y12 y13 (.s 2 n) y15 y32 y33 y34 y42 y57) H0 :=
  RunsTo.hin N 60 [⟨24,1,.tuple [],H0⟩] fun kf hk=>⟨_,by kernel_rfl,(oC (g0 kf (by omega)) .nil)⟩
end Go.Proofs.Ytaibmipamkaljaa
end
section
open Go Go.HL
namespace Go.Proofs.Ytaibmipamkaljaa
set_option maxRecDepth 100000
open Go.Proofs.Try renaming prog → Tp
open Go.HL.HV renaming undef → Ud
noncomputable def B83:Code:=Try.f83.body.getD .skip
abbrev env83 (v0 v1 v2 v3 v8 v9:HV):Env:=[(0,v0),(1,v1),(2,v2),(3,v3),(8,v8),(9,v9)]
theorem is_a_0 (N:Nat) (db n:Nat) (cap:Option Nat) (H:Heap) (x:Nat) (a:Nat) (b:Nat):RT polSl 83 (sub [0] B83) [(0,.c db n cap),(1,.i (a:Int)),(2,.i (b:Int)),(3,.func 64 [] [])] H .normal (env83 (.c db n cap) (.i (a:Int)) (.i (b:Int)) (.func 64 [] []) (.i (IntKind.i64.wrap ((a:Int)+1))) Ud) H :=
  RunsTo.hin N 60 [] fun kf hk=>⟨_,by kernel_rfl,.nil⟩
theorem is_b_0 (N:Nat) (db n:Nat) (cap:Option Nat) (H:Heap) (x:Nat) (a:Nat) (b:Nat) (i:Nat) {y9:HV}(g0:(i:Int) < (b:Int)):RT polSl 83 (sub [1,0,0,0] B83) (env83 (.c db n cap) (.i (a:Int)) (.i (b:Int)) (.func 64 [] []) (.i (i:Int)) y9) H .normal (env83 (.c db n cap) (.i (a:Int)) (.i (b:Int)) (.func 64 [] []) (.i (i:Int)) y9) H :=
  RunsTo.hin N 60 [⟨1,2,.bool true,H⟩] fun kf hk=>⟨_,by kernel_rfl,(oB H (decide_eq_true g0) .nil)⟩
theorem is_b_1 (N:Nat) (db n:Nat) (cap:Option Nat) (H:Heap) (x:Nat) (a:Nat) (b:Nat) (i:Nat) {y9:HV}(g0:¬ ((i:Int) < (b:Int))):RT polSl 83 (sub [1,0,0,0] B83) (env83 (.c db n cap) (.i (a:Int)) (.i (b:Int)) (.func 64 [] []) (.i (i:Int)) y9) H (.exit 0) (env83 (.c db n cap) (.i (a:Int)) (.i (b:Int)) (.func 64 [] []) (.i (i:Int)) y9) H :=
  RunsTo.hin N 60 [⟨1,2,.bool false,H⟩] fun kf hk=>⟨_,by kernel_rfl,(oB H (decide_eq_false g0) .nil)⟩
theorem is_c_0 (N:Nat) (db n:Nat) (cap:Option Nat) (H:Heap) (x:Nat) (a:Nat) (b:Nat) (i:Nat) {y9:HV}:RT polSl 83 (sub [1,0,0,1,0,0,0] B83) (env83 (.c db n cap) (.i (a:Int)) (.i (b:Int)) (.func 64 [] []) (.i (i:Int)) y9) H .normal (env83 (.c db n cap) (.i (a:Int)) (.i (b:Int)) (.func 64 [] []) (.i (i:Int)) (.i (i:Int))) H :=
  RunsTo.hin N 60 [] fun kf hk=>⟨_,by kernel_rfl,.nil⟩
theorem is_d_0 (N:Nat) (db n:Nat) (cap:Option Nat) (H:Heap) (x:Nat) (a:Nat) (b:Nat) (i:Nat) (j:Nat) {a0:HV} {v0:HV} {a1:HV} {v1:HV} {c0:Int} {H0:Heap} {a2:HV} {v2:HV} {a3:HV} {v3:HV} {a4:HV} {H1:Heap} {a5:HV} {H2:Heap} (g0:(a:Int) < (j:Int)) (g1:idxV Tp 35 (.c db n cap) (.i (j:Int))=some (a0)) (g2:loadV Tp H 22 (a0)=some (v0)) (g3:idxV Tp 35 (.c db n cap) (.i (IntKind.i64.wrap ((j:Int) - 1)))=some (a1)) (g4:loadV Tp H 22 (a1)=some (v1)) (g5:∀ kf,N ≤ kf → callN Tp polSl (kf+1) 64 [v0,v1] H=some (.i c0,H0)) (g6:c0 < 0) (g7:idxV Tp 35 (.c db n cap) (.i (IntKind.i64.wrap ((j:Int) - 1)))=some (a2)) (g8:loadV Tp H0 22 (a2)=some (v2)) (g9:idxV Tp 35 (.c db n cap) (.i (j:Int))=some (a3)) (g10:loadV Tp H0 22 (a3)=some (v3)) (g11:idxV Tp 35 (.c db n cap) (.i (j:Int))=some (a4)) (g12:storeV Tp H0 22 (a4) (v2)=some H1) (g13:idxV Tp 35 (.c db n cap) (.i (IntKind.i64.wrap ((j:Int) - 1)))=some (a5)) (g14:storeV Tp H1 22 (a5) (v3)=some H2):RT polSl 83 (sub [1,0,0,1,0,0,1,0,0] B83) (env83 (.c db n cap) (.i (a:Int)) (.i (b:Int)) (.func 64 [] []) (.i (i:Int)) (.i (j:Int))) H .normal (env83 (.c db n cap) (.i (a:Int)) (.i (b:Int)) (.func 64 [] []) (.i (i:Int)) (.i (IntKind.i64.wrap ((j:Int) - 1)))) H2 :=
  RunsTo.hin N 60 [⟨4,2,.bool true,H⟩,⟨4,7,a0,H⟩,⟨4,8,v0,H⟩,⟨4,12,a1,H⟩,⟨4,13,v1,H⟩,⟨4,14,.i c0,H0⟩,⟨4,15,.bool true,H0⟩,⟨6,8,a2,H0⟩,⟨6,9,v2,H0⟩,⟨6,12,a3,H0⟩,⟨6,13,v3,H0⟩,⟨6,14,a4,H0⟩,⟨6,15,.tuple [],H1⟩,⟨6,16,a5,H1⟩,⟨6,17,.tuple [],H2⟩] fun kf hk=>⟨_,by kernel_rfl,(oB H (decide_eq_true g0) (oP H g1 (oP H g2 (oP H g3 (oP H g4 (oC (g5 kf (by omega)) (oB H0 (decide_eq_true g6) (oP H0 g7 (oP H0 g8 (oP H0 g9 (oP H0 g10 (oP H0 g11 (oS g12 (oP H1 g13 (oS g14 .nil)))))))))))))))⟩
theorem is_d_1 (N:Nat) (db n:Nat) (cap:Option Nat) (H:Heap) (x:Nat) (a:Nat) (b:Nat) (i:Nat) (j:Nat) {a0:HV} {v0:HV} {a1:HV} {v1:HV} {c0:Int} {H0:Heap} (g0:(a:Int) < (j:Int)) (g1:idxV Tp 35 (.c db n cap) (.i (j:Int))=some (a0)) (g2:loadV Tp H 22 (a0)=some (v0)) (g3:idxV Tp 35 (.c db n cap) (.i (IntKind.i64.wrap ((j:Int) - 1)))=some (a1)) (g4:loadV Tp H 22 (a1)=some (v1)) (g5:∀ kf,N ≤ kf → callN Tp polSl (kf+1) 64 [v0,v1] H=some (.i c0,H0)) (g6:¬ (c0 < 0)):RT polSl 83 (sub [1,0,0,1,0,0,1,0,0] B83) (env83 (.c db n cap) (.i (a:Int)) (.i (b:Int)) (.func 64 [] []) (.i (i:Int)) (.i (j:Int))) H (.exit 2) (env83 (.c db n cap) (.i (a:Int)) (.i (b:Int)) (.func 64 [] []) (.i (i:Int)) (.i (j:Int))) H0 :=
  RunsTo.hin N 60 [⟨4,2,.bool true,H⟩,⟨4,7,a0,H⟩,⟨4,8,v0,H⟩,⟨4,12,a1,H⟩,⟨4,13,v1,H⟩,⟨4,14,.i c0,H0⟩,⟨4,15,.bool false,H0⟩] fun kf hk=>⟨_,by kernel_rfl,(oB H (decide_eq_true g0) (oP H g1 (oP H g2 (oP H g3 (oP H g4 (oC (g5 kf (by omega)) (oB H0 (decide_eq_false g6) .nil)))))))⟩
theorem is_d_2 (N:Nat) (db n:Nat) (cap:Option Nat) (H:Heap) (x:Nat) (a:Nat) (b:Nat) (i:Nat) (j:Nat)(g0:¬ ((a:Int) < (j:Int))):RT polSl 83 (sub [1,0,0,1,0,0,1,0,0] B83) (env83 (.c db n cap) (.i (a:Int)) (.i (b:Int)) (.func 64 [] []) (.i (i:Int)) (.i (j:Int))) H (.exit 2) (env83 (.c db n cap) (.i (a:Int)) (.i (b:Int)) (.func 64 [] []) (.i (i:Int)) (.i (j:Int))) H :=
  RunsTo.hin N 60 [⟨4,2,.bool false,H⟩] fun kf hk=>⟨_,by kernel_rfl,(oB H (decide_eq_false g0) .nil)⟩
theorem is_e_0 (N:Nat) (db n:Nat) (cap:Option Nat) (H:Heap) (x:Nat) (a:Nat) (b:Nat) (i:Nat) {y9:HV}:RT polSl 83 (sub [1,0,0,1,1] B83) (env83 (.c db n cap) (.i (a:Int)) (.i (b:Int)) (.func 64 [] []) (.i (i:Int)) y9) H .normal (env83 (.c db n cap) (.i (a:Int)) (.i (b:Int)) (.func 64 [] []) (.i (IntKind.i64.wrap ((i:Int)+1))) y9) H :=
  RunsTo.hin N 60 [] fun kf hk=>⟨_,by kernel_rfl,.nil⟩
noncomputable def B87:Code:=Try.f87.body.getD .skip
abbrev env87 (v0 v1 v2 v8 v9:HV):Env:=[(0,v0),(1,v1),(2,v2),(8,v8),(9,v9)]
theorem rvs_a_0 (N:Nat) (db n:Nat) (cap:Option Nat) (H:Heap) (x:Nat) (a:Nat) (b:Nat):RT polSl 87 (sub [0] B87) [(0,.c db n cap),(1,.i (a:Int)),(2,.i (b:Int)),(3,.func 64 [] [])] H .normal (env87 (.c db n cap) (.i (a:Int)) (.i (b:Int)) (.i (a:Int)) Ud) H :=
  RunsTo.hin N 60 [] fun kf hk=>⟨_,by kernel_rfl,.nil⟩
theorem rvs_b_0 (N:Nat) (db n:Nat) (cap:Option Nat) (H:Heap) (x:Nat) (a:Nat) (b:Nat) (i:Nat) {y9:HV}:RT polSl 87 (sub [1,0] B87) (env87 (.c db n cap) (.i (a:Int)) (.i (b:Int)) (.i (i:Int)) y9) H .normal (env87 (.c db n cap) (.i (a:Int)) (.i (b:Int)) (.i (i:Int)) (.i (IntKind.i64.wrap ((b:Int) - 1)))) H :=
  RunsTo.hin N 60 [] fun kf hk=>⟨_,by kernel_rfl,.nil⟩
theorem rvs_c_0 (N:Nat) (db n:Nat) (cap:Option Nat) (H:Heap) (x:Nat) (a:Nat) (b:Nat) (i:Nat) (j:Nat) {a0:HV} {v0:HV} {a1:HV} {v1:HV} {a2:HV} {H0:Heap} {a3:HV} {H1:Heap} (g0:(i:Int) < (j:Int)) (g1:idxV Tp 35 (.c db n cap) (.i (j:Int))=some (a0)) (g2:loadV Tp H 22 (a0)=some (v0)) (g3:idxV Tp 35 (.c db n cap) (.i (i:Int))=some (a1)) (g4:loadV Tp H 22 (a1)=some (v1)) (g5:idxV Tp 35 (.c db n cap) (.i (i:Int))=some (a2)) (g6:storeV Tp H 22 (a2) (v0)=some H0) (g7:idxV Tp 35 (.c db n cap) (.i (j:Int))=some (a3)) (g8:storeV Tp H0 22 (a3) (v1)=some H1):RT polSl 87 (sub [1,1,0,0] B87) (env87 (.c db n cap) (.i (a:Int)) (.i (b:Int)) (.i (i:Int)) (.i (j:Int))) H .normal (env87 (.c db n cap) (.i (a:Int)) (.i (b:Int)) (.i (IntKind.i64.wrap ((i:Int)+1))) (.i (IntKind.i64.wrap ((j:Int) - 1)))) H1 :=
  RunsTo.hin N 60 [⟨2,2,.bool true,H⟩,⟨3,6,a0,H⟩,⟨3,7,v0,H⟩,⟨3,10,a1,H⟩,⟨3,11,v1,H⟩,⟨3,12,a2,H⟩,⟨3,13,.tuple [],H0⟩,⟨3,14,a3,H0⟩,⟨3,15,.tuple [],H1⟩] fun kf hk=>⟨_,by kernel_rfl,(oB H (decide_eq_true g0) (oP H g1 (oP H g2 (oP H g3 (oP H g4 (oP H g5 (oS g6 (oP H0 g7 (oS g8 .nil)))))))))⟩
theorem rvs_c_1 (N:Nat) (db n:Nat) (cap:Option Nat) (H:Heap) (x:Nat) (a:Nat) (b:Nat) (i:Nat) (j:Nat)(g0:¬ ((i:Int) < (j:Int))):RT polSl 87 (sub [1,1,0,0] B87) (env87 (.c db n cap) (.i (a:Int)) (.i (b:Int)) (.i (i:Int)) (.i (j:Int))) H (.exit 0) (env87 (.c db n cap) (.i (a:Int)) (.i (b:Int)) (.i (i:Int)) (.i (j:Int))) H :=
  RunsTo.hin N 60 [⟨2,2,.bool false,H⟩] fun kf hk=>⟨_,by kernel_rfl,(oB H (decide_eq_false g0) .nil)⟩
noncomputable def B97:Code:=Try.f97.body.getD .skip
abbrev env97 (v0 v1 v2 v3 v4 v10 v11:HV):Env:=[(0,v0),(1,v1),(2,v2),(3,v3),(4,v4),(10,v10),(11,v11)]
theorem sf_a_0 (N:Nat) (db n:Nat) (cap:Option Nat) (H:Heap) (x:Nat) (lo:Nat) (hi:Nat) (fi:Nat):RT polSl 97 (sub [0] B97) [(0,.c db n cap),(1,.i (lo:Int)),(2,.i (hi:Int)),(3,.i (fi:Int)),(4,.func 64 [] [])] H .normal (env97 (.c db n cap) (.i (lo:Int)) (.i (hi:Int)) (.i (fi:Int)) (.func 64 [] []) (.i (lo:Int)) Ud) H :=
  RunsTo.hin N 60 [] fun kf hk=>⟨_,by kernel_rfl,.nil⟩
theorem sf_b_0 (N:Nat) (db n:Nat) (cap:Option Nat) (H:Heap) (x:Nat) (lo:Nat) (hi:Nat) (fi:Nat) (r:Nat) {y11:HV}(g0:(hi:Int) ≤ IntKind.i64.wrap (IntKind.i64.wrap (2 * (r:Int))+1)):RT polSl 97 (sub [1,0,0] B97) (env97 (.c db n cap) (.i (lo:Int)) (.i (hi:Int)) (.i (fi:Int)) (.func 64 [] []) (.i (r:Int)) y11) H (.exit 0) (env97 (.c db n cap) (.i (lo:Int)) (.i (hi:Int)) (.i (fi:Int)) (.func 64 [] []) (.i (r:Int)) (.i (IntKind.i64.wrap (IntKind.i64.wrap (2 * (r:Int))+1)))) H :=
  RunsTo.hin N 60 [⟨2,2,.bool true,H⟩] fun kf hk=>⟨_,by kernel_rfl,(oB H (decide_eq_true g0) .nil)⟩
theorem sf_b_1 (N:Nat) (db n:Nat) (cap:Option Nat) (H:Heap) (x:Nat) (lo:Nat) (hi:Nat) (fi:Nat) (r:Nat) {y11:HV} {a0:HV} {v0:HV} {a1:HV} {v1:HV} {c0:Int} {H0:Heap} {a2:HV} {v2:HV} {a3:HV} {v3:HV} {c1:Int} {H1:Heap} {a4:HV} {v4:HV} {a5:HV} {v5:HV} {a6:HV} {H2:Heap} {a7:HV} {H3:Heap} (g0:¬ ((hi:Int) ≤ IntKind.i64.wrap (IntKind.i64.wrap (2 * (r:Int))+1))) (g1:IntKind.i64.wrap (IntKind.i64.wrap (IntKind.i64.wrap (2 * (r:Int))+1)+1) < (hi:Int)) (g2:idxV Tp 35 (.c db n cap) (.i (IntKind.i64.wrap ((fi:Int)+IntKind.i64.wrap (IntKind.i64.wrap (2 * (r:Int))+1))))=some (a0)) (g3:loadV Tp H 22 (a0)=some (v0)) (g4:idxV Tp 35 (.c db n cap) (.i (IntKind.i64.wrap (IntKind.i64.wrap ((fi:Int)+IntKind.i64.wrap (IntKind.i64.wrap (2 * (r:Int))+1))+1)))=some (a1)) (g5:loadV Tp H 22 (a1)=some (v1)) (g6:∀ kf,N ≤ kf → callN Tp polSl (kf+1) 64 [v0,v1] H=some (.i c0,H0)) (g7:c0 < 0) (g8:idxV Tp 35 (.c db n cap) (.i (IntKind.i64.wrap ((fi:Int)+(r:Int))))=some (a2)) (g9:loadV Tp H0 22 (a2)=some (v2)) (g10:idxV Tp 35 (.c db n cap) (.i (IntKind.i64.wrap ((fi:Int)+IntKind.i64.wrap (IntKind.i64.wrap (IntKind.i64.wrap (2 * (r:Int))+1)+1))))=some (a3)) (g11:loadV Tp H0 22 (a3)=some (v3)) (g12:∀ kf,N ≤ kf → callN Tp polSl (kf+1) 64 [v2,v3] H0=some (.i c1,H1)) (g13:c1 < 0) (g14:idxV Tp 35 (.c db n cap) (.i (IntKind.i64.wrap ((fi:Int)+IntKind.i64.wrap (IntKind.i64.wrap (IntKind.i64.wrap (2 * (r:Int))+1)+1))))=some (a4)) (g15:loadV Tp H1 22 (a4)=some (v4)) (g16:idxV Tp 35 (.c db n cap) (.i (IntKind.i64.wrap ((fi:Int)+(r:Int))))=some (a5)) (g17:loadV Tp H1 22 (a5)=some (v5)) (g18:idxV Tp 35 (.c db n cap) (.i (IntKind.i64.wrap ((fi:Int)+(r:Int))))=some (a6)) (g19:storeV Tp H1 22 (a6) (v4)=some H2) (g20:idxV Tp 35 (.c db n cap) (.i (IntKind.i64.wrap ((fi:Int)+IntKind.i64.wrap (IntKind.i64.wrap (IntKind.i64.wrap (2 * (r:Int))+1)+1))))=some (a7)) (g21:storeV Tp H2 22 (a7) (v5)=some H3):RT polSl 97 (sub [1,0,0] B97) (env97 (.c db n cap) (.i (lo:Int)) (.i (hi:Int)) (.i (fi:Int)) (.func 64 [] []) (.i (r:Int)) y11) H .normal (env97 (.c db n cap) (.i (lo:Int)) (.i (hi:Int)) (.i (fi:Int)) (.func 64 [] []) (.i (IntKind.i64.wrap (IntKind.i64.wrap (IntKind.i64.wrap (2 * (r:Int))+1)+1))) (.i (IntKind.i64.wrap (IntKind.i64.wrap (IntKind.i64.wrap (2 * (r:Int))+1)+1)))) H3 :=
  RunsTo.hin N 60 [⟨2,2,.bool false,H⟩,⟨3,3,.bool true,H⟩,⟨3,10,a0,H⟩,⟨3,11,v0,H⟩,⟨3,17,a1,H⟩,⟨3,18,v1,H⟩,⟨3,19,.i c0,H0⟩,⟨3,20,.bool true,H0⟩,⟨5,5,a2,H0⟩,⟨5,6,v2,H0⟩,⟨5,11,a3,H0⟩,⟨5,12,v3,H0⟩,⟨5,13,.i c1,H1⟩,⟨5,14,.bool true,H1⟩,⟨6,12,a4,H1⟩,⟨6,13,v4,H1⟩,⟨6,18,a5,H1⟩,⟨6,19,v5,H1⟩,⟨6,20,a6,H1⟩,⟨6,21,.tuple [],H2⟩,⟨6,22,a7,H2⟩,⟨6,23,.tuple [],H3⟩] fun kf hk=>⟨_,by kernel_rfl,(oB H (decide_eq_false g0) (oB H (decide_eq_true g1) (oP H g2 (oP H g3 (oP H g4 (oP H g5 (oC (g6 kf (by omega)) (oB H0 (decide_eq_true g7) (oP H0 g8 (oP H0 g9 (oP H0 g10 (oP H0 g11 (oC (g12 kf (by omega)) (oB H1 (decide_eq_true g13) (oP H1 g14 (oP H1 g15 (oP H1 g16 (oP H1 g17 (oP H1 g18 (oS g19 (oP H2 g20 (oS g21 .nil))))))))))))))))))))))⟩
theorem sf_b_2 (N:Nat) (db n:Nat) (cap:Option Nat) (H:Heap) (x:Nat) (lo:Nat) (hi:Nat) (fi:Nat) (r:Nat) {y11:HV} {a0:HV} {v0:HV} {a1:HV} {v1:HV} {c0:Int} {H0:Heap} {a2:HV} {v2:HV} {a3:HV} {v3:HV} {c1:Int} {H1:Heap} (g0:¬ ((hi:Int) ≤ IntKind.i64.wrap (IntKind.i64.wrap (2 * (r:Int))+1))) (g1:IntKind.i64.wrap (IntKind.i64.wrap (IntKind.i64.wrap (2 * (r:Int))+1)+1) < (hi:Int)) (g2:idxV Tp 35 (.c db n cap) (.i (IntKind.i64.wrap ((fi:Int)+IntKind.i64.wrap (IntKind.i64.wrap (2 * (r:Int))+1))))=some (a0)) (g3:loadV Tp H 22 (a0)=some (v0)) (g4:idxV Tp 35 (.c db n cap) (.i (IntKind.i64.wrap (IntKind.i64.wrap ((fi:Int)+IntKind.i64.wrap (IntKind.i64.wrap (2 * (r:Int))+1))+1)))=some (a1)) (g5:loadV Tp H 22 (a1)=some (v1)) (g6:∀ kf,N ≤ kf → callN Tp polSl (kf+1) 64 [v0,v1] H=some (.i c0,H0)) (g7:c0 < 0) (g8:idxV Tp 35 (.c db n cap) (.i (IntKind.i64.wrap ((fi:Int)+(r:Int))))=some (a2)) (g9:loadV Tp H0 22 (a2)=some (v2)) (g10:idxV Tp 35 (.c db n cap) (.i (IntKind.i64.wrap ((fi:Int)+IntKind.i64.wrap (IntKind.i64.wrap (IntKind.i64.wrap (2 * (r:Int))+1)+1))))=some (a3)) (g11:loadV Tp H0 22 (a3)=some (v3)) (g12:∀ kf,N ≤ kf → callN Tp polSl (kf+1) 64 [v2,v3] H0=some (.i c1,H1)) (g13:¬ (c1 < 0)):RT polSl 97 (sub [1,0,0] B97) (env97 (.c db n cap) (.i (lo:Int)) (.i (hi:Int)) (.i (fi:Int)) (.func 64 [] []) (.i (r:Int)) y11) H .ret (env97 (.c db n cap) (.i (lo:Int)) (.i (hi:Int)) (.i (fi:Int)) (.func 64 [] []) (.i (r:Int)) (.i (IntKind.i64.wrap (IntKind.i64.wrap (IntKind.i64.wrap (2 * (r:Int))+1)+1)))) H1 :=
  RunsTo.hin N 60 [⟨2,2,.bool false,H⟩,⟨3,3,.bool true,H⟩,⟨3,10,a0,H⟩,⟨3,11,v0,H⟩,⟨3,17,a1,H⟩,⟨3,18,v1,H⟩,⟨3,19,.i c0,H0⟩,⟨3,20,.bool true,H0⟩,⟨5,5,a2,H0⟩,⟨5,6,v2,H0⟩,⟨5,11,a3,H0⟩,⟨5,12,v3,H0⟩,⟨5,13,.i c1,H1⟩,⟨5,14,.bool false,H1⟩] fun kf hk=>⟨_,by kernel_rfl,(oB H (decide_eq_false g0) (oB H (decide_eq_true g1) (oP H g2 (oP H g3 (oP H g4 (oP H g5 (oC (g6 kf (by omega)) (oB H0 (decide_eq_true g7) (oP H0 g8 (oP H0 g9 (oP H0 g10 (oP H0 g11 (oC (g12 kf (by omega)) (oB H1 (decide_eq_false g13) .nil))))))))))))))⟩
theorem sf_b_3 (N:Nat) (db n:Nat) (cap:Option Nat) (H:Heap) (x:Nat) (lo:Nat) (hi:Nat) (fi:Nat) (r:Nat) {y11:HV} {a0:HV} {v0:HV} {a1:HV} {v1:HV} {c0:Int} {H0:Heap} {a2:HV} {v2:HV} {a3:HV} {v3:HV} {c1:Int} {H1:Heap} {a4:HV} {v4:HV} {a5:HV} {v5:HV} {a6:HV} {H2:Heap} {a7:HV} {H3:Heap} (g0:¬ ((hi:Int) ≤ IntKind.i64.wrap (IntKind.i64.wrap (2 * (r:Int))+1))) (g1:IntKind.i64.wrap (IntKind.i64.wrap (IntKind.i64.wrap (2 * (r:Int))+1)+1) < (hi:Int)) (g2:idxV Tp 35 (.c db n cap) (.i (IntKind.i64.wrap ((fi:Int)+IntKind.i64.wrap (IntKind.i64.wrap (2 * (r:Int))+1))))=some (a0)) (g3:loadV Tp H 22 (a0)=some (v0)) (g4:idxV Tp 35 (.c db n cap) (.i (IntKind.i64.wrap (IntKind.i64.wrap ((fi:Int)+IntKind.i64.wrap (IntKind.i64.wrap (2 * (r:Int))+1))+1)))=some (a1)) (g5:loadV Tp H 22 (a1)=some (v1)) (g6:∀ kf,N ≤ kf → callN Tp polSl (kf+1) 64 [v0,v1] H=some (.i c0,H0)) (g7:¬ (c0 < 0)) (g8:idxV Tp 35 (.c db n cap) (.i (IntKind.i64.wrap ((fi:Int)+(r:Int))))=some (a2)) (g9:loadV Tp H0 22 (a2)=some (v2)) (g10:idxV Tp 35 (.c db n cap) (.i (IntKind.i64.wrap ((fi:Int)+IntKind.i64.wrap (IntKind.i64.wrap (2 * (r:Int))+1))))=some (a3)) (g11:loadV Tp H0 22 (a3)=some (v3)) (g12:∀ kf,N ≤ kf → callN Tp polSl (kf+1) 64 [v2,v3] H0=some (.i c1,H1)) (g13:c1 < 0) (g14:idxV Tp 35 (.c db n cap) (.i (IntKind.i64.wrap ((fi:Int)+IntKind.i64.wrap (IntKind.i64.wrap (2 * (r:Int))+1))))=some (a4)) (g15:loadV Tp H1 22 (a4)=some (v4)) (g16:idxV Tp 35 (.c db n cap) (.i (IntKind.i64.wrap ((fi:Int)+(r:Int))))=some (a5)) (g17:loadV Tp H1 22 (a5)=some (v5)) (g18:idxV Tp 35 (.c db n cap) (.i (IntKind.i64.wrap ((fi:Int)+(r:Int))))=some (a6)) (g19:storeV Tp H1 22 (a6) (v4)=some H2) (g20:idxV Tp 35 (.c db n cap) (.i (IntKind.i64.wrap ((fi:Int)+IntKind.i64.wrap (IntKind.i64.wrap (2 * (r:Int))+1))))=some (a7)) (g21:storeV Tp H2 22 (a7) (v5)=some H3):RT polSl 97 (sub [1,0,0] B97) (env97 (.c db n cap) (.i (lo:Int)) (.i (hi:Int)) (.i (fi:Int)) (.func 64 [] []) (.i (r:Int)) y11) H .normal (env97 (.c db n cap) (.i (lo:Int)) (.i (hi:Int)) (.i (fi:Int)) (.func 64 [] []) (.i (IntKind.i64.wrap (IntKind.i64.wrap (2 * (r:Int))+1))) (.i (IntKind.i64.wrap (IntKind.i64.wrap (2 * (r:Int))+1)))) H3 :=
  RunsTo.hin N 60 [⟨2,2,.bool false,H⟩,⟨3,3,.bool true,H⟩,⟨3,10,a0,H⟩,⟨3,11,v0,H⟩,⟨3,17,a1,H⟩,⟨3,18,v1,H⟩,⟨3,19,.i c0,H0⟩,⟨3,20,.bool false,H0⟩,⟨5,5,a2,H0⟩,⟨5,6,v2,H0⟩,⟨5,11,a3,H0⟩,⟨5,12,v3,H0⟩,⟨5,13,.i c1,H1⟩,⟨5,14,.bool true,H1⟩,⟨6,12,a4,H1⟩,⟨6,13,v4,H1⟩,⟨6,18,a5,H1⟩,⟨6,19,v5,H1⟩,⟨6,20,a6,H1⟩,⟨6,21,.tuple [],H2⟩,⟨6,22,a7,H2⟩,⟨6,23,.tuple [],H3⟩] fun kf hk=>⟨_,by kernel_rfl,(oB H (decide_eq_false g0) (oB H (decide_eq_true g1) (oP H g2 (oP H g3 (oP H g4 (oP H g5 (oC (g6 kf (by omega)) (oB H0 (decide_eq_false g7) (oP H0 g8 (oP H0 g9 (oP H0 g10 (oP H0 g11 (oC (g12 kf (by omega)) (oB H1 (decide_eq_true g13) (oP H1 g14 (oP H1 g15 (oP H1 g16 (oP H1 g17 (oP H1 g18 (oS g19 (oP H2 g20 (oS g21 .nil))))))))))))))))))))))⟩
theorem sf_b_4 (N:Nat) (db n:Nat) (cap:Option Nat) (H:Heap) (x:Nat) (lo:Nat) (hi:Nat) (fi:Nat) (r:Nat) {y11:HV} {a0:HV} {v0:HV} {a1:HV} {v1:HV} {c0:Int} {H0:Heap} {a2:HV} {v2:HV} {a3:HV} {v3:HV} {c1:Int} {H1:Heap} (g0:¬ ((hi:Int) ≤ IntKind.i64.wrap (IntKind.i64.wrap (2 * (r:Int))+1))) (g1:IntKind.i64.wrap (IntKind.i64.wrap (IntKind.i64.wrap (2 * (r:Int))+1)+1) < (hi:Int)) (g2:idxV Tp 35 (.c db n cap) (.i (IntKind.i64.wrap ((fi:Int)+IntKind.i64.wrap (IntKind.i64.wrap (2 * (r:Int))+1))))=some (a0)) (g3:loadV Tp H 22 (a0)=some (v0)) (g4:idxV Tp 35 (.c db n cap) (.i (IntKind.i64.wrap (IntKind.i64.wrap ((fi:Int)+IntKind.i64.wrap (IntKind.i64.wrap (2 * (r:Int))+1))+1)))=some (a1)) (g5:loadV Tp H 22 (a1)=some (v1)) (g6:∀ kf,N ≤ kf → callN Tp polSl (kf+1) 64 [v0,v1] H=some (.i c0,H0)) (g7:¬ (c0 < 0)) (g8:idxV Tp 35 (.c db n cap) (.i (IntKind.i64.wrap ((fi:Int)+(r:Int))))=some (a2)) (g9:loadV Tp H0 22 (a2)=some (v2)) (g10:idxV Tp 35 (.c db n cap) (.i (IntKind.i64.wrap ((fi:Int)+IntKind.i64.wrap (IntKind.i64.wrap (2 * (r:Int))+1))))=some (a3)) (g11:loadV Tp H0 22 (a3)=some (v3)) (g12:∀ kf,N ≤ kf → callN Tp polSl (kf+1) 64 [v2,v3] H0=some (.i c1,H1)) (g13:¬ (c1 < 0)):RT polSl 97 (sub [1,0,0] B97) (env97 (.c db n cap) (.i (lo:Int)) (.i (hi:Int)) (.i (fi:Int)) (.func 64 [] []) (.i (r:Int)) y11) H .ret (env97 (.c db n cap) (.i (lo:Int)) (.i (hi:Int)) (.i (fi:Int)) (.func 64 [] []) (.i (r:Int)) (.i (IntKind.i64.wrap (IntKind.i64.wrap (2 * (r:Int))+1)))) H1 :=
  RunsTo.hin N 60 [⟨2,2,.bool false,H⟩,⟨3,3,.bool true,H⟩,⟨3,10,a0,H⟩,⟨3,11,v0,H⟩,⟨3,17,a1,H⟩,⟨3,18,v1,H⟩,⟨3,19,.i c0,H0⟩,⟨3,20,.bool false,H0⟩,⟨5,5,a2,H0⟩,⟨5,6,v2,H0⟩,⟨5,11,a3,H0⟩,⟨5,12,v3,H0⟩,⟨5,13,.i c1,H1⟩,⟨5,14,.bool false,H1⟩] fun kf hk=>⟨_,by kernel_rfl,(oB H (decide_eq_false g0) (oB H (decide_eq_true g1) (oP H g2 (oP H g3 (oP H g4 (oP H g5 (oC (g6 kf (by omega)) (oB H0 (decide_eq_false g7) (oP H0 g8 (oP H0 g9 (oP H0 g10 (oP H0 g11 (oC (g12 kf (by omega)) (oB H1 (decide_eq_false g13) .nil))))))))))))))⟩
theorem sf_b_5 (N:Nat) (db n:Nat) (cap:Option Nat) (H:Heap) (x:Nat) (lo:Nat) (hi:Nat) (fi:Nat) (r:Nat) {y11:HV} {a0:HV} {v0:HV} {a1:HV} {v1:HV} {c0:Int} {H0:Heap} {a2:HV} {v2:HV} {a3:HV} {v3:HV} {a4:HV} {H1:Heap} {a5:HV} {H2:Heap} (g0:¬ ((hi:Int) ≤ IntKind.i64.wrap (IntKind.i64.wrap (2 * (r:Int))+1))) (g1:¬ (IntKind.i64.wrap (IntKind.i64.wrap (IntKind.i64.wrap (2 * (r:Int))+1)+1) < (hi:Int))) (g2:idxV Tp 35 (.c db n cap) (.i (IntKind.i64.wrap ((fi:Int)+(r:Int))))=some (a0)) (g3:loadV Tp H 22 (a0)=some (v0)) (g4:idxV Tp 35 (.c db n cap) (.i (IntKind.i64.wrap ((fi:Int)+IntKind.i64.wrap (IntKind.i64.wrap (2 * (r:Int))+1))))=some (a1)) (g5:loadV Tp H 22 (a1)=some (v1)) (g6:∀ kf,N ≤ kf → callN Tp polSl (kf+1) 64 [v0,v1] H=some (.i c0,H0)) (g7:c0 < 0) (g8:idxV Tp 35 (.c db n cap) (.i (IntKind.i64.wrap ((fi:Int)+IntKind.i64.wrap (IntKind.i64.wrap (2 * (r:Int))+1))))=some (a2)) (g9:loadV Tp H0 22 (a2)=some (v2)) (g10:idxV Tp 35 (.c db n cap) (.i (IntKind.i64.wrap ((fi:Int)+(r:Int))))=some (a3)) (g11:loadV Tp H0 22 (a3)=some (v3)) (g12:idxV Tp 35 (.c db n cap) (.i (IntKind.i64.wrap ((fi:Int)+(r:Int))))=some (a4)) (g13:storeV Tp H0 22 (a4) (v2)=some H1) (g14:idxV Tp 35 (.c db n cap) (.i (IntKind.i64.wrap ((fi:Int)+IntKind.i64.wrap (IntKind.i64.wrap (2 * (r:Int))+1))))=some (a5)) (g15:storeV Tp H1 22 (a5) (v3)=some H2):RT polSl 97 (sub [1,0,0] B97) (env97 (.c db n cap) (.i (lo:Int)) (.i (hi:Int)) (.i (fi:Int)) (.func 64 [] []) (.i (r:Int)) y11) H .normal (env97 (.c db n cap) (.i (lo:Int)) (.i (hi:Int)) (.i (fi:Int)) (.func 64 [] []) (.i (IntKind.i64.wrap (IntKind.i64.wrap (2 * (r:Int))+1))) (.i (IntKind.i64.wrap (IntKind.i64.wrap (2 * (r:Int))+1)))) H2 :=
  RunsTo.hin N 60 [⟨2,2,.bool false,H⟩,⟨3,3,.bool false,H⟩,⟨5,5,a0,H⟩,⟨5,6,v0,H⟩,⟨5,11,a1,H⟩,⟨5,12,v1,H⟩,⟨5,13,.i c0,H0⟩,⟨5,14,.bool true,H0⟩,⟨6,12,a2,H0⟩,⟨6,13,v2,H0⟩,⟨6,18,a3,H0⟩,⟨6,19,v3,H0⟩,⟨6,20,a4,H0⟩,⟨6,21,.tuple [],H1⟩,⟨6,22,a5,H1⟩,⟨6,23,.tuple [],H2⟩] fun kf hk=>⟨_,by kernel_rfl,(oB H (decide_eq_false g0) (oB H (decide_eq_false g1) (oP H g2 (oP H g3 (oP H g4 (oP H g5 (oC (g6 kf (by omega)) (oB H0 (decide_eq_true g7) (oP H0 g8 (oP H0 g9 (oP H0 g10 (oP H0 g11 (oP H0 g12 (oS g13 (oP H1 g14 (oS g15 .nil))))))))))))))))⟩
theorem sf_b_6 (N:Nat) (db n:Nat) (cap:Option Nat) (H:Heap) (x:Nat) (lo:Nat) (hi:Nat) (fi:Nat) (r:Nat) {y11:HV} {a0:HV} {v0:HV} {a1:HV} {v1:HV} {c0:Int} {H0:Heap} (g0:¬ ((hi:Int) ≤ IntKind.i64.wrap (IntKind.i64.wrap (2 * (r:Int))+1))) (g1:¬ (IntKind.i64.wrap (IntKind.i64.wrap (IntKind.i64.wrap (2 * (r:Int))+1)+1) < (hi:Int))) (g2:idxV Tp 35 (.c db n cap) (.i (IntKind.i64.wrap ((fi:Int)+(r:Int))))=some (a0)) (g3:loadV Tp H 22 (a0)=some (v0)) (g4:idxV Tp 35 (.c db n cap) (.i (IntKind.i64.wrap ((fi:Int)+IntKind.i64.wrap (IntKind.i64.wrap (2 * (r:Int))+1))))=some (a1)) (g5:loadV Tp H 22 (a1)=some (v1)) (g6:∀ kf,N ≤ kf → callN Tp polSl (kf+1) 64 [v0,v1] H=some (.i c0,H0)) (g7:¬ (c0 < 0)):RT polSl 97 (sub [1,0,0] B97) (env97 (.c db n cap) (.i (lo:Int)) (.i (hi:Int)) (.i (fi:Int)) (.func 64 [] []) (.i (r:Int)) y11) H .ret (env97 (.c db n cap) (.i (lo:Int)) (.i (hi:Int)) (.i (fi:Int)) (.func 64 [] []) (.i (r:Int)) (.i (IntKind.i64.wrap (IntKind.i64.wrap (2 * (r:Int))+1)))) H0 :=
  RunsTo.hin N 60 [⟨2,2,.bool false,H⟩,⟨3,3,.bool false,H⟩,⟨5,5,a0,H⟩,⟨5,6,v0,H⟩,⟨5,11,a1,H⟩,⟨5,12,v1,H⟩,⟨5,13,.i c0,H0⟩,⟨5,14,.bool false,H0⟩] fun kf hk=>⟨_,by kernel_rfl,(oB H (decide_eq_false g0) (oB H (decide_eq_false g1) (oP H g2 (oP H g3 (oP H g4 (oP H g5 (oC (g6 kf (by omega)) (oB H0 (decide_eq_false g7) .nil))))))))⟩
noncomputable def B84:Code:=Try.f84.body.getD .skip
abbrev env84 (v0 v1 v2 v3 v8 v9 v10 v11 v12:HV):Env:=[(0,v0),(1,v1),(2,v2),(3,v3),(8,v8),(9,v9),(10,v10),(11,v11),(12,v12)]
theorem hs_a_0 (N:Nat) (db n:Nat) (cap:Option Nat) (H:Heap) (x:Nat) (a:Nat) (b:Nat):RT polSl 84 (sub [0] B84) [(0,.c db n cap),(1,.i (a:Int)),(2,.i (b:Int)),(3,.func 64 [] [])] H .normal (env84 (.c db n cap) (.i (a:Int)) (.i (b:Int)) (.func 64 [] []) (.i (a:Int)) Ud Ud Ud Ud) H :=
  RunsTo.hin N 60 [] fun kf hk=>⟨_,by kernel_rfl,.nil⟩
theorem hs_b_0 (N:Nat) (db n:Nat) (cap:Option Nat) (H:Heap) (x:Nat) (a:Nat) (b:Nat) (fi:Nat) {y9 y10 y11 y12:HV}:RT polSl 84 (sub [1,0] B84) (env84 (.c db n cap) (.i (a:Int)) (.i (b:Int)) (.func 64 [] []) (.i (fi:Int)) y9 y10 y11 y12) H .normal (env84 (.c db n cap) (.i (a:Int)) (.i (b:Int)) (.func 64 [] []) (.i (fi:Int)) (.i 0) y10 y11 y12) H :=
  RunsTo.hin N 60 [] fun kf hk=>⟨_,by kernel_rfl,.nil⟩
theorem hs_c_0 (N:Nat) (db n:Nat) (cap:Option Nat) (H:Heap) (x:Nat) (a:Nat) (b:Nat) (fi:Nat) {y10 y11 y12:HV}:RT polSl 84 (sub [1,1,0] B84) (env84 (.c db n cap) (.i (a:Int)) (.i (b:Int)) (.func 64 [] []) (.i (fi:Int)) (.i 0) y10 y11 y12) H .normal (env84 (.c db n cap) (.i (a:Int)) (.i (b:Int)) (.func 64 [] []) (.i (fi:Int)) (.i 0) (.i (IntKind.i64.wrap ((b:Int) - (a:Int)))) y11 y12) H :=
  RunsTo.hin N 60 [] fun kf hk=>⟨_,by kernel_rfl,.nil⟩
theorem hs_d_0 (N:Nat) (db n:Nat) (cap:Option Nat) (H:Heap) (x:Nat) (a:Nat) (b:Nat) (fi:Nat) (hi:Nat) {y11 y12:HV}:RT polSl 84 (sub [1,1,1,0,0] B84) (env84 (.c db n cap) (.i (a:Int)) (.i (b:Int)) (.func 64 [] []) (.i (fi:Int)) (.i 0) (.i (hi:Int)) y11 y12) H .normal (env84 (.c db n cap) (.i (a:Int)) (.i (b:Int)) (.func 64 [] []) (.i (fi:Int)) (.i 0) (.i (hi:Int)) (.i (IntKind.i64.wrap ((IntKind.i64.wrap ((hi:Int) - 1):Int).tdiv 2))) y12) H :=
  RunsTo.hin N 60 [] fun kf hk=>⟨_,by kernel_rfl,.nil⟩
theorem hs_e_0 (N:Nat) (db n:Nat) (cap:Option Nat) (H:Heap) (x:Nat) (a:Nat) (b:Nat) (fi:Nat) (hi:Nat) (x:Int) {y12:HV} {H0:Heap} (g0:0 ≤ x) (g1:∀ kf,N ≤ kf → callN Tp polSl (kf+1) 97 [.c db n cap,.i x,.i (hi:Int),.i (fi:Int),.func 64 [] []] H=some (.tuple [],H0)):RT polSl 84 (sub [1,1,1,0,1,0,0] B84) (env84 (.c db n cap) (.i (a:Int)) (.i (b:Int)) (.func 64 [] []) (.i (fi:Int)) (.i 0) (.i (hi:Int)) (.i x) y12) H .normal (env84 (.c db n cap) (.i (a:Int)) (.i (b:Int)) (.func 64 [] []) (.i (fi:Int)) (.i 0) (.i (hi:Int)) (.i (IntKind.i64.wrap (x - 1))) y12) H0 :=
  RunsTo.hin N 60 [⟨4,1,.bool true,H⟩,⟨6,5,.tuple [],H0⟩] fun kf hk=>⟨_,by kernel_rfl,(oB H (decide_eq_true g0) (oC (g1 kf (by omega)) .nil))⟩
theorem hs_e_1 (N:Nat) (db n:Nat) (cap:Option Nat) (H:Heap) (x:Nat) (a:Nat) (b:Nat) (fi:Nat) (hi:Nat) (x:Int) {y12:HV}(g0:¬ (0 ≤ x)):RT polSl 84 (sub [1,1,1,0,1,0,0] B84) (env84 (.c db n cap) (.i (a:Int)) (.i (b:Int)) (.func 64 [] []) (.i (fi:Int)) (.i 0) (.i (hi:Int)) (.i x) y12) H (.exit 0) (env84 (.c db n cap) (.i (a:Int)) (.i (b:Int)) (.func 64 [] []) (.i (fi:Int)) (.i 0) (.i (hi:Int)) (.i x) y12) H :=
  RunsTo.hin N 60 [⟨4,1,.bool false,H⟩] fun kf hk=>⟨_,by kernel_rfl,(oB H (decide_eq_false g0) .nil)⟩
theorem hs_f_0 (N:Nat) (db n:Nat) (cap:Option Nat) (H:Heap) (x:Nat) (a:Nat) (b:Nat) (fi:Nat) (hi:Nat) {y11 y12:HV}:RT polSl 84 (sub [1,1,1,1,0] B84) (env84 (.c db n cap) (.i (a:Int)) (.i (b:Int)) (.func 64 [] []) (.i (fi:Int)) (.i 0) (.i (hi:Int)) y11 y12) H .normal (env84 (.c db n cap) (.i (a:Int)) (.i (b:Int)) (.func 64 [] []) (.i (fi:Int)) (.i 0) (.i (hi:Int)) y11 (.i (IntKind.i64.wrap ((hi:Int) - 1)))) H :=
  RunsTo.hin N 60 [] fun kf hk=>⟨_,by kernel_rfl,.nil⟩
theorem hs_g_0 (N:Nat) (db n:Nat) (cap:Option Nat) (H:Heap) (x:Nat) (a:Nat) (b:Nat) (fi:Nat) (x:Int) {y10 y11:HV} {a0:HV} {v0:HV} {a1:HV} {v1:HV} {a2:HV} {H0:Heap} {a3:HV} {H1:Heap} {H2:Heap} (g0:0 ≤ x) (g1:idxV Tp 35 (.c db n cap) (.i (IntKind.i64.wrap ((fi:Int)+x)))=some (a0)) (g2:loadV Tp H 22 (a0)=some (v0)) (g3:idxV Tp 35 (.c db n cap) (.i (fi:Int))=some (a1)) (g4:loadV Tp H 22 (a1)=some (v1)) (g5:idxV Tp 35 (.c db n cap) (.i (fi:Int))=some (a2)) (g6:storeV Tp H 22 (a2) (v0)=some H0) (g7:idxV Tp 35 (.c db n cap) (.i (IntKind.i64.wrap ((fi:Int)+x)))=some (a3)) (g8:storeV Tp H0 22 (a3) (v1)=some H1) (g9:∀ kf,N ≤ kf → callN Tp polSl (kf+1) 97 [.c db n cap,.i 0,.i x,.i (fi:Int),.func 64 [] []] H1=some (.tuple [],H2)):RT polSl 84 (sub [1,1,1,1,1,0,0] B84) (env84 (.c db n cap) (.i (a:Int)) (.i (b:Int)) (.func 64 [] []) (.i (fi:Int)) (.i 0) y10 y11 (.i x)) H .normal (env84 (.c db n cap) (.i (a:Int)) (.i (b:Int)) (.func 64 [] []) (.i (fi:Int)) (.i 0) y10 y11 (.i (IntKind.i64.wrap (x - 1)))) H2 :=
  RunsTo.hin N 60 [⟨8,1,.bool true,H⟩,⟨10,10,a0,H⟩,⟨10,11,v0,H⟩,⟨10,14,a1,H⟩,⟨10,15,v1,H⟩,⟨10,16,a2,H⟩,⟨10,17,.tuple [],H0⟩,⟨10,18,a3,H0⟩,⟨10,19,.tuple [],H1⟩,⟨11,5,.tuple [],H2⟩] fun kf hk=>⟨_,by kernel_rfl,(oB H (decide_eq_true g0) (oP H g1 (oP H g2 (oP H g3 (oP H g4 (oP H g5 (oS g6 (oP H0 g7 (oS g8 (oC (g9 kf (by omega)) .nil))))))))))⟩
theorem hs_g_1 (N:Nat) (db n:Nat) (cap:Option Nat) (H:Heap) (x:Nat) (a:Nat) (b:Nat) (fi:Nat) (x:Int) {y10 y11:HV}(g0:¬ (0 ≤ x)):RT polSl 84 (sub [1,1,1,1,1,0,0] B84) (env84 (.c db n cap) (.i (a:Int)) (.i (b:Int)) (.func 64 [] []) (.i (fi:Int)) (.i 0) y10 y11 (.i x)) H (.exit 2) (env84 (.c db n cap) (.i (a:Int)) (.i (b:Int)) (.func 64 [] []) (.i (fi:Int)) (.i 0) y10 y11 (.i x)) H :=
  RunsTo.hin N 60 [⟨8,1,.bool false,H⟩] fun kf hk=>⟨_,by kernel_rfl,(oB H (decide_eq_false g0) .nil)⟩
end Go.Proofs.Ytaibmipamkaljaa
end
section
open Go Go.HL Go.HL.So
namespace Go.Proofs.Ytaibmipamkaljaa
set_option linter.unusedSectionVars false
open Go.Proofs.Try renaming prog → Tp
open Go.HL.HV renaming undef → Ud
section
variable {α:Type} [Inhabited α]
def mxA (H:Heap) (db:Nat):Nat:=(H[db]?.map Blk.mx).getD 0
def Mm (enc:α → HV) (H:Heap) (db:Nat) (l:List α) (T:Heap):Heap:=H.set db (.arr 1 (l.map enc) true (mxA H db)) ++ T
structure So (enc:α → HV) (lt:α → α → Prop) (dom:α → Prop) (H:Heap) (db n:Nat):Prop where
  nb:n ≤ 60000
  hdb:db < H.length
  mx:mxs H ≤ H.length
  ld:∀ (l:List α) (T:Heap) (i:Nat),l.length=n → i < n → loadV Tp (Mm enc H db l T) 22 (.ptr db i 0 n)=some (enc (at_ l i))
  st:∀ (l:List α) (T:Heap) (i:Nat) (x:α),l.length=n → i < n → storeV Tp (Mm enc H db l T) 22 (.ptr db i 0 n) (enc x)=some (Mm enc H db (l.set i x) T)
  call:∀ (l:List α) (T:Heap) (x y:α),l.length=n → mxs T=0 → dom x → dom y → ∃ c N,(∀ kf,N ≤ kf → callN Tp polSl (kf+1) 64 [enc x,enc y] (Mm enc H db l T)=some (.int .i64 c,Mm enc H db l T))∧(c < 0 ↔ lt x y)
end
section
variable {α:Type} [Inhabited α]
variable {enc:α → HV} {lt:α → α → Prop} {dom:α → Prop} {H:Heap} {db n:Nat} {cap:Option Nat}
theorem Mm_len (l l':List α) (T T':Heap) (h:T.length=T'.length):(Mm enc H db l T).length=(Mm enc H db l' T').length:=by simp [Mm,h]
theorem gcM (l l':List α) (T T':Heap) (r:Nat) (h:T.length=T'.length):gc (Mm enc H db l T).length r (Mm enc H db l' T')=Mm enc H db l' T':=gc_eq r (Mm_len l' l T' T h.symm)
theorem u35s:Tp.underlying 35=some (.slice 22):=by kernel_rfl
theorem z22s:tySize Tp 22=some 1:=by kernel_rfl
theorem ixs {i:Nat} {e:Int} (he:e=(i:Int)) (hi:i < n):idxV Tp 35 (.sl db 0 n cap n 1) (.int .i64 e)=some (.ptr db i 0 n):=by
  subst he
  have:=idx_sl (P:=Tp) (t:=35) (b:=db) (len:=n) (tot:=n) (cap:=cap) (ik:=.i64) (n:=(i:Int)) u35s z22s (by omega) (by omega)
  rwa [Int.toNat_natCast] at this
theorem So.ct (S:So enc lt dom H db n) {l:List α} {T:Heap} {x y:α} (hl:l.length=n) (hT:mxs T=0) (hx:dom x) (hy:dom y) (h:lt x y):∃ c N,(∀ kf,N ≤ kf → callN Tp polSl (kf+1) 64 [enc x,enc y] (Mm enc H db l T)=some (.int .i64 c,Mm enc H db l T))∧c < 0:=by
  obtain ⟨c,N,hN,hc⟩:=S.call l T x y hl hT hx hy
  exact ⟨c,N,hN,hc.2 h⟩
theorem So.cf (S:So enc lt dom H db n) {l:List α} {T:Heap} {x y:α} (hl:l.length=n) (hT:mxs T=0) (hx:dom x) (hy:dom y) (h:¬ lt x y):∃ c N,(∀ kf,N ≤ kf → callN Tp polSl (kf+1) 64 [enc x,enc y] (Mm enc H db l T)=some (.int .i64 c,Mm enc H db l T))∧¬ (c < 0):=by
  obtain ⟨c,N,hN,hc⟩:=S.call l T x y hl hT hx hy
  exact ⟨c,N,hN,fun q=>h (hc.1 q)⟩
def Dm (dom:α → Prop) (l:List α):Prop:=∀ x ∈ l,dom x
theorem Dm.at {l:List α} (h:Dm dom l) {i:Nat} (hi:i < l.length):dom (at_ l i):=by
  have:at_ l i=l[i]:=by simp [at_,List.getD,List.getElem?_eq_getElem hi]
  rw [this]; exact h _ (List.getElem_mem hi)
theorem Dm.sw {l l':List α} {a b:Nat} (h:Dm dom l) (hs:Sw a b l l') (hb:b ≤ l.length):Dm dom l':=hs.mem hb h
theorem sw_len {l l':List α} {a b:Nat} (hs:Sw a b l l') (hl:l.length=n):l'.length=n:=hs.len.trans hl
theorem So.st2 (S:So enc lt dom H db n) {l:List α} {T:Heap} {i j:Nat} (hl:l.length=n) (hi:i < n) (hj:j < n):storeV Tp (Mm enc H db l T) 22 (.ptr db i 0 n) (enc (at_ l j))=some (Mm enc H db (l.set i (at_ l j)) T)∧storeV Tp (Mm enc H db (l.set i (at_ l j)) T) 22 (.ptr db j 0 n) (enc (at_ l i))=some (Mm enc H db (swp l i j) T) :=
  ⟨S.st l T i _ hl hi,S.st _ T j _ (by simpa using hl) hj⟩
theorem is_in (S:So enc lt dom H db n) (hL:Lin lt) {T:Heap} (hT:mxs T=0) {a b i:Nat} (hi:i < n):∀ (j:Nat) (l:List α),l.length=n → j ≤ i → a ≤ j → Dm dom l → Sink lt a (i+1) j l →
    ∃ y l',RT polSl 83 (sub [1,0,0,1,0,0,1,0] B83) (env83 (.sl db 0 n cap n 1) (.int .i64 (a:Int)) (.int .i64 (b:Int)) (.func 64 [] []) (.int .i64 (i:Int)) (.int .i64 (j:Int))) (Mm enc H db l T) (.exit 2) (env83 (.sl db 0 n cap n 1) (.int .i64 (a:Int)) (.int .i64 (b:Int)) (.func 64 [] []) (.int .i64 (i:Int)) y) (Mm enc H db l' T)∧Sw a (i+1) l l'∧Sorted lt a (i+1) l':=by
  have hn:=S.nb
  intro j
  induction j with
  | zero =>
    intro l hl hj ha hD hS
    exact ⟨_,l,lpo (is_d_2 0 db n cap (Mm enc H db l T) 0 a b i 0 (by omega)),.refl,sink_end hL hS (.inl (Nat.zero_le _))⟩
  | succ j ih =>
    intro l hl hj ha hD hS
    by_cases c1:a < j+1
    · by_cases c2:lt (at_ l (j+1)) (at_ l j)
      · obtain ⟨cc,N,hN,hc⟩:=S.ct (T:=T) hl hT (hD.at (i:=j+1) (by omega)) (hD.at (i:=j) (by omega)) c2
        obtain ⟨s1,s2⟩:=S.st2 (T:=T) hl (i:=j+1) (j:=j) (by omega) (by omega)
        have sw:Sw a (i+1) l (swp l (j+1) j):=Sw.one (by omega) (by omega) (by omega) (by omega)
        have st:=is_d_0 N db n cap (Mm enc H db l T) 0 a b i (j+1) (by omega) (ixs (i:=j+1) (by omega) (by omega)) (S.ld l T (j+1) hl (by omega)) (ixs (i:=j) (by simp only [wrapI64]; omega) (by omega)) (S.ld l T j hl (by omega)) hN hc (ixs (i:=j) (by simp only [wrapI64]; omega) (by omega)) (S.ld l T j hl (by omega)) (ixs (i:=j+1) (by omega) (by omega)) (S.ld l T (j+1) hl (by omega)) (ixs (i:=j+1) (by omega) (by omega)) s1 (ixs (i:=j) (by simp only [wrapI64]; omega) (by omega)) s2
        rw [show IntKind.i64.wrap (((j+1:Nat):Int) - 1)=(j:Int) by simp only [wrapI64]; omega] at st
        obtain ⟨y,l',r,q1,q2⟩:=ih (swp l (j+1) j) (by rw [swp_len]; exact hl) (by omega) (by omega) (hD.sw sw (by omega)) (sink_step hL (j:=j+1) (by omega) (by omega) c1 hS c2)
        exact ⟨y,l',lop (st) (gcM _ _ _ _ _ rfl) (r),sw.trans q1,q2⟩
      · obtain ⟨cc,N,hN,hc⟩:=S.cf (T:=T) hl hT (hD.at (i:=j+1) (by omega)) (hD.at (i:=j) (by omega)) c2
        have st:=is_d_1 N db n cap (Mm enc H db l T) 0 a b i (j+1) (by omega) (ixs (i:=j+1) (by omega) (by omega)) (S.ld l T (j+1) hl (by omega)) (ixs (i:=j) (by simp only [wrapI64]; omega) (by omega)) (S.ld l T j hl (by omega)) hN hc
        exact ⟨_,l,lpo (st),.refl,sink_end hL hS (.inr c2)⟩
    · exact ⟨_,l,lpo (is_d_2 0 db n cap (Mm enc H db l T) 0 a b i (j+1) (by omega)),.refl,sink_end hL hS (.inl (by omega))⟩
theorem is_out (S:So enc lt dom H db n) (hL:Lin lt) {T:Heap} (hT:mxs T=0) {a b:Nat} (hb:b ≤ n):∀ (d i:Nat) (l:List α),i+d=b → a ≤ i → l.length=n → Dm dom l → Sorted lt a i l →
    ∃ l',RT polSl 83 (sub [1,0] B83) (env83 (.sl db 0 n cap n 1) (.int .i64 (a:Int)) (.int .i64 (b:Int)) (.func 64 [] []) (.int .i64 (i:Int)) Ud) (Mm enc H db l T) (.exit 0) (env83 (.sl db 0 n cap n 1) (.int .i64 (a:Int)) (.int .i64 (b:Int)) (.func 64 [] []) (.int .i64 (b:Int)) Ud) (Mm enc H db l' T)∧Sw a b l l'∧Sorted lt a b l':=by
  have hn:=S.nb
  intro d
  induction d with
  | zero =>
    intro i l hi ha hl hD hS
    have:i=b:=by omega
    subst this
    exact ⟨l,lpo (sqo (is_b_1 0 db n cap (Mm enc H db l T) 0 a i i (by omega)) (c:=sub [1,0,0] B83) (b:=sub [1,0,0,1] B83)),.refl,hS⟩
  | succ d ih =>
    intro i l hi ha hl hD hS
    obtain ⟨y,l1,r1,q1,q2⟩:=is_in S hL (cap:=cap) hT (a:=a) (b:=b) (i:=i) (by omega) i l hl (Nat.le_refl _) ha hD (sink_start hS)
    have r1':=lpi (e0:=(env83 (.sl db 0 n cap n 1) (.int .i64 (a:Int)) (.int .i64 (b:Int)) (.func 64 [] []) (.int .i64 (i:Int)) (.int .i64 (i:Int)))) r1 (b:=sub [1,0,0,1,0,0,1,0,0] B83)
    have st:=sq (is_b_0 0 db n cap (Mm enc H db l T) 0 a b i (by omega) (y9:=Ud)) (sq (RunsTo.block_normal (i:=1) (c:=sub [1,0,0,1,0] B83) (sq (is_c_0 0 db n cap (Mm enc H db l T) 0 a b i) (bke (c:=sub [1,0,0,1,0,0,1] B83) (r1')) (c:=sub [1,0,0,1,0,0] B83)) (by kernel_rfl)) (is_e_0 0 db n cap (Mm enc H db l1 T) 0 a b i) (c:=sub [1,0,0,1] B83)) (c:=sub [1,0,0] B83)
    rw [wrap_succ (by omega)] at st
    obtain ⟨l',r,q3,q4⟩:=ih (i+1) l1 (by omega) (by omega) (sw_len q1 hl) (hD.sw q1 (by omega)) q2
    exact ⟨l',lop (st) (gcM _ _ _ _ _ rfl) (r),(q1.mono (Nat.le_refl _) (by omega)).trans q3,q4⟩
theorem ins_ok (S:So enc lt dom H db n) (hL:Lin lt) {T:Heap} (hT:mxs T=0) {a b:Nat} (hab:a ≤ b) (hb:b ≤ n) {l:List α} (hl:l.length=n) (hD:Dm dom l) :
    ∃ l',ClL 83 [.sl db 0 n cap n 1,.int .i64 (a:Int),.int .i64 (b:Int),.func 64 [] []] (Mm enc H db l T) (.tuple []) (Mm enc H db l' T)∧Sw a b l l'∧Sorted lt a b l':=by
  have hn:=S.nb
  have key:∃ i l',RT polSl 83 (sub [1,0] B83) (env83 (.sl db 0 n cap n 1) (.int .i64 (a:Int)) (.int .i64 (b:Int)) (.func 64 [] []) (.int .i64 ((a+1:Nat):Int)) Ud) (Mm enc H db l T) (.exit 0) (env83 (.sl db 0 n cap n 1) (.int .i64 (a:Int)) (.int .i64 (b:Int)) (.func 64 [] []) (.int .i64 i) Ud) (Mm enc H db l' T)∧Sw a b l l'∧Sorted lt a b l':=by
    by_cases c:a+1 ≤ b
    · obtain ⟨l',r,q⟩:=is_out S hL (cap:=cap) hT (a:=a) hb (b - (a+1)) (a+1) l (by omega) (by omega) hl hD (fun p q h1 h2 h3=>by omega)
      exact ⟨_,l',r,q⟩
    · exact ⟨_,l,lpo (sqo (is_b_1 0 db n cap (Mm enc H db l T) 0 a b (a+1) (by omega)) (c:=sub [1,0,0] B83) (b:=sub [1,0,0,1] B83)),.refl,fun p q h1 h2 h3=>by omega⟩
  obtain ⟨i,l',r,q⟩:=key
  have s0:=is_a_0 0 db n cap (Mm enc H db l T) 0 a b
  rw [wrap_succ (by omega)] at s0
  have t:=sq (s0) (bke (c:=sub [1] B83) (r)) (c:=B83)
  have hc:=CallsTo.shared (P:=Tp) (pol:=polSl) (g:=83) (fn:=Try.f83) (cd:=B83) (args:=[.sl db 0 n cap n 1,.int .i64 (a:Int),.int .i64 (b:Int),.func 64 [] []]) (v:=.tuple []) (by kernel_rfl) (by kernel_rfl) (by kernel_rfl) (by kernel_rfl) t (by kernel_rfl) (by simp) (by kernel_rfl)
  rw [gcM _ _ _ _ _ rfl] at hc
  exact ⟨l',hc,q⟩
theorem rvs_loop (S:So enc lt dom H db n) {T:Heap} {a b:Nat} (hb:b ≤ n):∀ (d i j:Nat) (l:List α),j+1 - i ≤ d → a ≤ i → j < b → l.length=n →
    ∃ y1 y2 l',RT polSl 87 (sub [1,1,0] B87) (env87 (.sl db 0 n cap n 1) (.int .i64 (a:Int)) (.int .i64 (b:Int)) (.int .i64 (i:Int)) (.int .i64 (j:Int))) (Mm enc H db l T) (.exit 0) (env87 (.sl db 0 n cap n 1) (.int .i64 (a:Int)) (.int .i64 (b:Int)) y1 y2) (Mm enc H db l' T)∧Sw a b l l':=by
  have hn:=S.nb
  intro d
  induction d with
  | zero =>
    intro i j l hd ha hj hl
    exact ⟨_,_,l,lpo (rvs_c_1 0 db n cap (Mm enc H db l T) 0 a b i j (by omega)),.refl⟩
  | succ d ih =>
    intro i j l hd ha hj hl
    by_cases c:i < j
    · obtain ⟨s1,s2⟩:=S.st2 (T:=T) hl (i:=i) (j:=j) (by omega) (by omega)
      have st:=rvs_c_0 0 db n cap (Mm enc H db l T) 0 a b i j (by omega) (ixs (i:=j) rfl (by omega)) (S.ld l T j hl (by omega)) (ixs (i:=i) rfl (by omega)) (S.ld l T i hl (by omega)) (ixs (i:=i) rfl (by omega)) s1 (ixs (i:=j) rfl (by omega)) s2
      rw [wrap_succ (by omega),wrap_pred (by omega) (by omega)] at st
      have sw:Sw a b l (swp l i j):=Sw.one (by omega) (by omega) (by omega) (by omega)
      obtain ⟨y1,y2,l',r,q⟩:=ih (i+1) (j - 1) (swp l i j) (by omega) (by omega) (by omega) (by rw [swp_len]; exact hl)
      exact ⟨y1,y2,l',lop (st) (gcM _ _ _ _ _ rfl) (r),sw.trans q⟩
    · exact ⟨_,_,l,lpo (rvs_c_1 0 db n cap (Mm enc H db l T) 0 a b i j (by omega)),.refl⟩
theorem rvs_ok (S:So enc lt dom H db n) {T:Heap} {a b:Nat} (hab:a < b) (hb:b ≤ n) {l:List α} (hl:l.length=n) :
    ∃ l',ClL 87 [.sl db 0 n cap n 1,.int .i64 (a:Int),.int .i64 (b:Int),.func 64 [] []] (Mm enc H db l T) (.tuple []) (Mm enc H db l' T)∧Sw a b l l':=by
  have hn:=S.nb
  obtain ⟨y1,y2,l',r,q⟩:=rvs_loop S (cap:=cap) (T:=T) (a:=a) hb (b+1) a (b - 1) l (by omega) (Nat.le_refl _) (by omega) hl
  have s0:=rvs_a_0 0 db n cap (Mm enc H db l T) 0 a b
  have s1:=rvs_b_0 0 db n cap (Mm enc H db l T) 0 a b a (y9:=Ud)
  rw [wrap_pred (by omega) (by omega)] at s1
  have t:=sq (s0) (sq (s1) (bke (c:=sub [1,1] B87) (r)) (c:=sub [1] B87)) (c:=B87)
  have hc:=CallsTo.shared (P:=Tp) (pol:=polSl) (g:=87) (fn:=Try.f87) (cd:=B87) (args:=[.sl db 0 n cap n 1,.int .i64 (a:Int),.int .i64 (b:Int),.func 64 [] []]) (v:=.tuple []) (by kernel_rfl) (by kernel_rfl) (by kernel_rfl) (by kernel_rfl) t (by kernel_rfl) (by simp) (by kernel_rfl)
  rw [gcM _ _ _ _ _ rfl] at hc
  exact ⟨l',hc,q⟩
end
end Go.Proofs.Ytaibmipamkaljaa
end
section
open Go Go.HL Go.HL.So
namespace Go.Proofs.Ytaibmipamkaljaa
set_option linter.unusedSectionVars false
open Go.Proofs.Try renaming prog → Tp
open Go.HL.HV renaming undef → Ud
section
variable {α:Type} [Inhabited α] {enc:α → HV} {lt:α → α → Prop} {dom:α → Prop} {H:Heap} {db n:Nat} {cap:Option Nat}
theorem ClL.from {g:FuncId} {args:List HV} {H H':Heap} {r:HV} (h:ClL g args H r H'):∃ N,∀ kf,N ≤ kf → callN Tp polSl (kf+1) g args H=some (r,H'):=CallsTo.from h
set_option maxHeartbeats 4000000 in
theorem sf_loop (S:So enc lt dom H db n) (hL:Lin lt) {T:Heap} (hT:mxs T=0) {lo hi fi:Nat} (hfi:fi+hi ≤ n):∀ (d r:Nat) (l:List α),hi - r ≤ d → lo ≤ r → r < hi+1 → l.length=n → Dm dom l → HpX lt fi lo hi r l →
    ∃ x y1 y2 l',RT polSl 97 (sub [1,0] B97) (env97 (.sl db 0 n cap n 1) (.int .i64 (lo:Int)) (.int .i64 (hi:Int)) (.int .i64 (fi:Int)) (.func 64 [] []) (.int .i64 (r:Int)) Ud) (Mm enc H db l T) x (env97 (.sl db 0 n cap n 1) (.int .i64 (lo:Int)) (.int .i64 (hi:Int)) (.int .i64 (fi:Int)) (.func 64 [] []) y1 y2) (Mm enc H db l' T)∧(x=.exit 0 ∨ x=.ret)∧Sw fi (fi+hi) l l'∧Hp lt fi lo hi l':=by
  have hn:=S.nb
  intro d
  induction d with
  | zero =>
    intro r l hd hr hr2 hl hD hX
    exact ⟨_,_,_,l,lpo (sf_b_0 0 db n cap (Mm enc H db l T) 0 lo hi fi r (by rw [wrap_id (n:=2 * (r:Int)) (by omega) (by omega),wrap_id (by omega) (by omega)]; omega)),.inl rfl,.refl,hpx_end hL hX (fun c h1 h2=>by omega)⟩
  | succ d ih =>
    intro r l hd hr hr2 hl hD hX
    by_cases c0:hi ≤ 2 * r+1
    · exact ⟨_,_,_,l,lpo (sf_b_0 0 db n cap (Mm enc H db l T) 0 lo hi fi r (by rw [wrap_id (n:=2 * (r:Int)) (by omega) (by omega),wrap_id (by omega) (by omega)]; omega)),.inl rfl,.refl,hpx_end hL hX (fun c h1 h2=>by omega)⟩
    have e0:IntKind.i64.wrap (2 * (r:Int))=((2 * r:Nat):Int):=(by rw [wrap_id (by omega) (by omega)]; omega)
    have e1:IntKind.i64.wrap (IntKind.i64.wrap (2 * (r:Int))+1)=((2 * r+1:Nat):Int):=by rw [e0,wrap_id (by omega) (by omega)]; omega
    have e2:IntKind.i64.wrap (IntKind.i64.wrap (IntKind.i64.wrap (2 * (r:Int))+1)+1)=((2 * r+2:Nat):Int):=by rw [e1,wrap_id (by omega) (by omega)]; omega
    have f0:IntKind.i64.wrap ((fi:Int)+(r:Int))=((fi+r:Nat):Int):=(by rw [wrap_id (by omega) (by omega)]; omega)
    have f1:IntKind.i64.wrap ((fi:Int)+IntKind.i64.wrap (IntKind.i64.wrap (2 * (r:Int))+1))=((fi+(2 * r+1):Nat):Int):=by rw [e1,wrap_id (by omega) (by omega)]; omega
    have f2:IntKind.i64.wrap ((fi:Int)+IntKind.i64.wrap (IntKind.i64.wrap (IntKind.i64.wrap (2 * (r:Int))+1)+1))=((fi+(2 * r+2):Nat):Int):=by rw [e2,wrap_id (by omega) (by omega)]; omega
    have f3:IntKind.i64.wrap (IntKind.i64.wrap ((fi:Int)+IntKind.i64.wrap (IntKind.i64.wrap (2 * (r:Int))+1))+1)=((fi+(2 * r+2):Nat):Int):=by rw [f1,wrap_id (by omega) (by omega)]; omega
    have w1:fi+r < n:=by omega
    have w2:fi+(2 * r+1) < n:=by omega
    have next:∀ c,(c=2 * r+1 ∨ c=2 * r+2) → c < hi → (∀ c',(c'=2 * r+1 ∨ c'=2 * r+2) → c' < hi → ¬ lt (at_ l (fi+c)) (at_ l (fi+c'))) → lt (at_ l (fi+r)) (at_ l (fi+c)) →
        RT polSl 97 (sub [1,0,0] B97) (env97 (.sl db 0 n cap n 1) (.int .i64 (lo:Int)) (.int .i64 (hi:Int)) (.int .i64 (fi:Int)) (.func 64 [] []) (.int .i64 (r:Int)) Ud) (Mm enc H db l T) .normal (env97 (.sl db 0 n cap n 1) (.int .i64 (lo:Int)) (.int .i64 (hi:Int)) (.int .i64 (fi:Int)) (.func 64 [] []) (.int .i64 (c:Int)) (.int .i64 (c:Int))) (Mm enc H db (swp l (fi+r) (fi+c)) T) →
        ∃ x y1 y2 l',RT polSl 97 (sub [1,0] B97) (env97 (.sl db 0 n cap n 1) (.int .i64 (lo:Int)) (.int .i64 (hi:Int)) (.int .i64 (fi:Int)) (.func 64 [] []) (.int .i64 (r:Int)) Ud) (Mm enc H db l T) x (env97 (.sl db 0 n cap n 1) (.int .i64 (lo:Int)) (.int .i64 (hi:Int)) (.int .i64 (fi:Int)) (.func 64 [] []) y1 y2) (Mm enc H db l' T)∧(x=.exit 0 ∨ x=.ret)∧Sw fi (fi+hi) l l'∧Hp lt fi lo hi l':=by
      intro c h1 h2 h3 h4 st
      have sw:Sw fi (fi+hi) l (swp l (fi+r) (fi+c)):=Sw.one (by omega) (by omega) (by omega) (by omega)
      obtain ⟨x,y1,y2,l',q,q1,q2,q3⟩:=ih c _ (by omega) (by omega) (by omega) (by rw [swp_len]; exact hl) (hD.sw sw (by omega)) (hpx_step hL (by omega) hX hr h1 h2 h3 h4)
      exact ⟨x,y1,y2,l',lop (st) (gcM _ _ _ _ _ rfl) (q),q1,sw.trans q2,q3⟩
    have ld:=fun k (hk:k < hi)=>S.ld l T (fi+k) hl (by omega)
    by_cases c1:2 * r+2 < hi
    · have w3:fi+(2 * r+2) < n:=by omega
      by_cases c2:lt (at_ l (fi+(2 * r+1))) (at_ l (fi+(2 * r+2)))
      · obtain ⟨cc1,N1,hN1,hc1⟩:=S.ct (T:=T) hl hT (hD.at (i:=fi+(2 * r+1)) (by omega)) (hD.at (i:=fi+(2 * r+2)) (by omega)) c2
        by_cases c3:lt (at_ l (fi+r)) (at_ l (fi+(2 * r+2)))
        · obtain ⟨cc2,N2,hN2,hc2⟩:=S.ct (T:=T) hl hT (hD.at (i:=fi+r) (by omega)) (hD.at (i:=fi+(2 * r+2)) (by omega)) c3
          obtain ⟨s1,s2⟩:=S.st2 (T:=T) hl (i:=fi+r) (j:=fi+(2 * r+2)) (by omega) (by omega)
          have st:=sf_b_1 (N1+N2) db n cap (Mm enc H db l T) 0 lo hi fi r (by rw [e1]; omega) (by rw [e2]; omega) (ixs f1 w2) (ld _ (by omega)) (ixs f3 w3) (ld _ (by omega)) (fun kf hk=>hN1 kf (by omega)) hc1
            (ixs f0 w1) (ld r (by omega)) (ixs f2 w3) (ld _ (by omega)) (fun kf hk=>hN2 kf (by omega)) hc2 (ixs f2 w3) (ld _ (by omega)) (ixs f0 w1) (ld r (by omega)) (ixs f0 w1) s1 (ixs f2 w3) s2 (y11:=Ud)
          rw [e2] at st
          exact next (2 * r+2) (by omega) (by omega) (fun c' h1 h2=>by
            rcases h1 with rfl | rfl
            · exact hL.asy _ _ c2
            · exact hL.rf _) c3 st
        · obtain ⟨cc2,N2,hN2,hc2⟩:=S.cf (T:=T) hl hT (hD.at (i:=fi+r) (by omega)) (hD.at (i:=fi+(2 * r+2)) (by omega)) c3
          have st:=sf_b_2 (N1+N2) db n cap (Mm enc H db l T) 0 lo hi fi r (by rw [e1]; omega) (by rw [e2]; omega) (ixs f1 w2) (ld _ (by omega)) (ixs f3 w3) (ld _ (by omega)) (fun kf hk=>hN1 kf (by omega)) hc1
            (ixs f0 w1) (ld r (by omega)) (ixs f2 w3) (ld _ (by omega)) (fun kf hk=>hN2 kf (by omega)) hc2 (y11:=Ud)
          exact ⟨_,_,_,l,lpo (st),.inr rfl,.refl,hpx_end hL hX fun c' h1 h2=>by
            rcases h1 with rfl | rfl
            · exact hL.tr _ _ _ (hL.asy _ _ c2) c3
            · exact c3⟩
      · obtain ⟨cc1,N1,hN1,hc1⟩:=S.cf (T:=T) hl hT (hD.at (i:=fi+(2 * r+1)) (by omega)) (hD.at (i:=fi+(2 * r+2)) (by omega)) c2
        by_cases c3:lt (at_ l (fi+r)) (at_ l (fi+(2 * r+1)))
        · obtain ⟨cc2,N2,hN2,hc2⟩:=S.ct (T:=T) hl hT (hD.at (i:=fi+r) (by omega)) (hD.at (i:=fi+(2 * r+1)) (by omega)) c3
          obtain ⟨s1,s2⟩:=S.st2 (T:=T) hl (i:=fi+r) (j:=fi+(2 * r+1)) (by omega) (by omega)
          have st:=sf_b_3 (N1+N2) db n cap (Mm enc H db l T) 0 lo hi fi r (by rw [e1]; omega) (by rw [e2]; omega) (ixs f1 w2) (ld _ (by omega)) (ixs f3 w3) (ld _ (by omega)) (fun kf hk=>hN1 kf (by omega)) hc1
            (ixs f0 w1) (ld r (by omega)) (ixs f1 w2) (ld _ (by omega)) (fun kf hk=>hN2 kf (by omega)) hc2 (ixs f1 w2) (ld _ (by omega)) (ixs f0 w1) (ld r (by omega)) (ixs f0 w1) s1 (ixs f1 w2) s2 (y11:=Ud)
          rw [e1] at st
          exact next (2 * r+1) (by omega) (by omega) (fun c' h1 h2=>by
            rcases h1 with rfl | rfl
            · exact hL.rf _
            · exact c2) c3 st
        · obtain ⟨cc2,N2,hN2,hc2⟩:=S.cf (T:=T) hl hT (hD.at (i:=fi+r) (by omega)) (hD.at (i:=fi+(2 * r+1)) (by omega)) c3
          have st:=sf_b_4 (N1+N2) db n cap (Mm enc H db l T) 0 lo hi fi r (by rw [e1]; omega) (by rw [e2]; omega) (ixs f1 w2) (ld _ (by omega)) (ixs f3 w3) (ld _ (by omega)) (fun kf hk=>hN1 kf (by omega)) hc1
            (ixs f0 w1) (ld r (by omega)) (ixs f1 w2) (ld _ (by omega)) (fun kf hk=>hN2 kf (by omega)) hc2 (y11:=Ud)
          exact ⟨_,_,_,l,lpo (st),.inr rfl,.refl,hpx_end hL hX fun c' h1 h2=>by
            rcases h1 with rfl | rfl
            · exact c3
            · exact hL.tr _ _ _ c2 c3⟩
    · by_cases c3:lt (at_ l (fi+r)) (at_ l (fi+(2 * r+1)))
      · obtain ⟨cc2,N2,hN2,hc2⟩:=S.ct (T:=T) hl hT (hD.at (i:=fi+r) (by omega)) (hD.at (i:=fi+(2 * r+1)) (by omega)) c3
        obtain ⟨s1,s2⟩:=S.st2 (T:=T) hl (i:=fi+r) (j:=fi+(2 * r+1)) (by omega) (by omega)
        have st:=sf_b_5 N2 db n cap (Mm enc H db l T) 0 lo hi fi r (by rw [e1]; omega) (by rw [e2]; omega)
            (ixs f0 w1) (ld r (by omega)) (ixs f1 w2) (ld _ (by omega)) (fun kf hk=>hN2 kf (by omega)) hc2 (ixs f1 w2) (ld _ (by omega)) (ixs f0 w1) (ld r (by omega)) (ixs f0 w1) s1 (ixs f1 w2) s2 (y11:=Ud)
        rw [e1] at st
        exact next (2 * r+1) (by omega) (by omega) (fun c' h1 h2=>by
            have:c'=2 * r+1:=by omega
            subst this
            exact hL.rf _) c3 st
      · obtain ⟨cc2,N2,hN2,hc2⟩:=S.cf (T:=T) hl hT (hD.at (i:=fi+r) (by omega)) (hD.at (i:=fi+(2 * r+1)) (by omega)) c3
        have st:=sf_b_6 N2 db n cap (Mm enc H db l T) 0 lo hi fi r (by rw [e1]; omega) (by rw [e2]; omega)
            (ixs f0 w1) (ld r (by omega)) (ixs f1 w2) (ld _ (by omega)) (fun kf hk=>hN2 kf (by omega)) hc2 (y11:=Ud)
        exact ⟨_,_,_,l,lpo (st),.inr rfl,.refl,hpx_end hL hX fun c' h1 h2=>by
            have:c'=2 * r+1:=by omega
            subst this
            exact c3⟩
theorem sift_ok (S:So enc lt dom H db n) (hL:Lin lt) {T:Heap} (hT:mxs T=0) {lo hi fi:Nat} (hlo:lo ≤ hi) (hfi:fi+hi ≤ n) {l:List α} (hl:l.length=n) (hD:Dm dom l) (hH:Hp lt fi (lo+1) hi l) :
    ∃ l',ClL 97 [.sl db 0 n cap n 1,.int .i64 (lo:Int),.int .i64 (hi:Int),.int .i64 (fi:Int),.func 64 [] []] (Mm enc H db l T) (.tuple []) (Mm enc H db l' T)∧Sw fi (fi+hi) l l'∧Hp lt fi lo hi l':=by
  obtain ⟨x,y1,y2,l',r,q1,q2⟩:=sf_loop S hL (cap:=cap) hT hfi (hi+1) lo l (by omega) (Nat.le_refl _) (by omega) hl hD (hpx_start hH)
  have s0:=sf_a_0 0 db n cap (Mm enc H db l T) 0 lo hi fi
  rcases q1 with rfl | rfl
  · have t:=sq (s0) (bke (c:=sub [1] B97) (r)) (c:=B97)
    have hc:=CallsTo.shared (P:=Tp) (pol:=polSl) (g:=97) (fn:=Try.f97) (cd:=B97) (args:=[.sl db 0 n cap n 1,.int .i64 (lo:Int),.int .i64 (hi:Int),.int .i64 (fi:Int),.func 64 [] []]) (v:=.tuple []) (by kernel_rfl) (by kernel_rfl) (by kernel_rfl) (by kernel_rfl) t (by kernel_rfl) (by simp) (by kernel_rfl)
    rw [gcM _ _ _ _ _ rfl] at hc
    exact ⟨l',hc,q2⟩
  · have t:=sq (s0) (RunsTo.block_ret (i:=0) (c:=sub [1] B97) (r) (by kernel_rfl)) (c:=B97)
    have hc:=CallsTo.shared (P:=Tp) (pol:=polSl) (g:=97) (fn:=Try.f97) (cd:=B97) (args:=[.sl db 0 n cap n 1,.int .i64 (lo:Int),.int .i64 (hi:Int),.int .i64 (fi:Int),.func 64 [] []]) (v:=.tuple []) (by kernel_rfl) (by kernel_rfl) (by kernel_rfl) (by kernel_rfl) t (by kernel_rfl) (by simp) (by kernel_rfl)
    rw [gcM _ _ _ _ _ rfl] at hc
    exact ⟨l',hc,q2⟩
theorem hs_build (S:So enc lt dom H db n) (hL:Lin lt) {T:Heap} (hT:mxs T=0) {a b hi:Nat} (hhi:a+hi ≤ n):∀ (k:Nat) (l:List α),k ≤ hi → l.length=n → Dm dom l → Hp lt a k hi l →
    ∃ l',RT polSl 84 (sub [1,1,1,0,1,0] B84) (env84 (.sl db 0 n cap n 1) (.int .i64 (a:Int)) (.int .i64 (b:Int)) (.func 64 [] []) (.int .i64 (a:Int)) (.int .i64 0) (.int .i64 (hi:Int)) (.int .i64 ((k:Int) - 1)) Ud) (Mm enc H db l T) (.exit 0) (env84 (.sl db 0 n cap n 1) (.int .i64 (a:Int)) (.int .i64 (b:Int)) (.func 64 [] []) (.int .i64 (a:Int)) (.int .i64 0) (.int .i64 (hi:Int)) (.int .i64 (-1)) Ud) (Mm enc H db l' T)∧Sw a (a+hi) l l'∧Hp lt a 0 hi l':=by
  have hn:=S.nb
  intro k
  induction k with
  | zero =>
    intro l hk hl hD hH
    exact ⟨l,lpo (hs_e_1 0 db n cap (Mm enc H db l T) 0 a b a hi (((0:Nat):Int) - 1) (by omega)),.refl,hH⟩
  | succ k ih =>
    intro l hk hl hD hH
    obtain ⟨l1,hc,q1,q2⟩:=sift_ok S hL (cap:=cap) hT (lo:=k) (by omega) hhi hl hD hH
    obtain ⟨N,hN⟩:=hc.from
    have st:=hs_e_0 N db n cap (Mm enc H db l T) 0 a b a hi (k:Int) (y12:=Ud) (by omega) hN
    rw [show IntKind.i64.wrap ((k:Int) - 1)=(k:Int) - 1 by simp only [wrapI64]; omega] at st
    obtain ⟨l',r,q3,q4⟩:=ih l1 (by omega) (sw_len q1 hl) (hD.sw q1 (by omega)) q2
    rw [show ((k+1:Nat):Int) - 1=(k:Int) by omega]
    exact ⟨l',lop (st) (gcM _ _ _ _ _ rfl) (r),q1.trans q3,q4⟩
theorem hs_take (S:So enc lt dom H db n) (hL:Lin lt) {T:Heap} (hT:mxs T=0) {a b hi:Nat} (hhi:a+hi ≤ n):∀ (k:Nat) (l:List α),k ≤ hi → l.length=n → Dm dom l → HsInv lt a hi k l →
    ∃ l',RT polSl 84 (sub [1,1,1,1,1,0] B84) (env84 (.sl db 0 n cap n 1) (.int .i64 (a:Int)) (.int .i64 (b:Int)) (.func 64 [] []) (.int .i64 (a:Int)) (.int .i64 0) Ud Ud (.int .i64 ((k:Int) - 1))) (Mm enc H db l T) (.exit 2) (env84 (.sl db 0 n cap n 1) (.int .i64 (a:Int)) (.int .i64 (b:Int)) (.func 64 [] []) (.int .i64 (a:Int)) (.int .i64 0) Ud Ud (.int .i64 (-1))) (Mm enc H db l' T)∧Sw a (a+hi) l l'∧HsInv lt a hi 0 l':=by
  have hn:=S.nb
  intro k
  induction k with
  | zero =>
    intro l hk hl hD hH
    exact ⟨l,lpo (hs_g_1 0 db n cap (Mm enc H db l T) 0 a b a (((0:Nat):Int) - 1) (by omega)),.refl,hH⟩
  | succ k ih =>
    intro l hk hl hD hH
    obtain ⟨p1,p2,p3⟩:=hs_swap hL (by omega) (by omega) hH
    have sw:Sw a (a+hi) l (swp l a (a+k)):=Sw.one (by omega) (by omega) (by omega) (by omega)
    have hl1:=sw_len sw hl
    obtain ⟨l1,hc,q1,q2⟩:=sift_ok S hL (cap:=cap) hT (lo:=0) (hi:=k) (fi:=a) (Nat.zero_le _) (by omega) hl1 (hD.sw sw (by omega)) p1
    obtain ⟨N,hN⟩:=hc.from
    obtain ⟨s1,s2⟩:=S.st2 (T:=T) hl (i:=a) (j:=a+k) (by omega) (by omega)
    have st:=hs_g_0 N db n cap (Mm enc H db l T) 0 a b a (k:Int) (y10:=Ud) (y11:=Ud) (by omega) (ixs (i:=a+k) (by simp only [wrapI64]; omega) (by omega)) (S.ld l T _ hl (by omega)) (ixs (i:=a) rfl (by omega)) (S.ld l T _ hl (by omega)) (ixs (i:=a) rfl (by omega)) s1 (ixs (i:=a+k) (by simp only [wrapI64]; omega) (by omega)) s2 hN
    rw [show IntKind.i64.wrap ((k:Int) - 1)=(k:Int) - 1 by simp only [wrapI64]; omega] at st
    have sw2:Sw a (a+hi) l l1:=sw.trans (q1.mono (Nat.le_refl _) (by omega))
    have hI:HsInv lt a hi k l1:=by
      refine ⟨q2,fun p q h1 h2 h3=>?_,fun p q h1 h2 h3=>?_⟩
      · rw [q1.out (by rw [hl1]; omega) (k:=a+p) (by omega),q1.out (by rw [hl1]; omega) (k:=a+q) (by omega)]
        exact p2 p q h1 h2 h3
      · rw [q1.out (by rw [hl1]; omega) (k:=a+q) (by omega)]
        have:=q1.all (by rw [hl1]; omega) (Q:=fun x=>¬ lt (at_ (swp l a (a+k)) (a+q)) x) (lo:=a) (hi:=a+k) (Nat.le_refl _) (Nat.le_refl _) (fun i h4 h5=>by
          obtain ⟨m,rfl⟩:∃ m,i=a+m:=⟨i - a,by omega⟩
          exact p3 m q (by omega) h2 h3)
        exact this (a+p) (by omega) (by omega)
    obtain ⟨l',r,q3,q4⟩:=ih l1 (by omega) (sw_len sw2 hl) (hD.sw sw2 (by omega)) hI
    rw [show ((k+1:Nat):Int) - 1=(k:Int) by omega]
    exact ⟨l',lop (st) (gcM _ _ _ _ _ rfl) (r),sw2.trans q3,q4⟩
theorem heap_ok (S:So enc lt dom H db n) (hL:Lin lt) {T:Heap} (hT:mxs T=0) {a b:Nat} (hab:a < b) (hb:b ≤ n) {l:List α} (hl:l.length=n) (hD:Dm dom l) :
    ∃ l',ClL 84 [.sl db 0 n cap n 1,.int .i64 (a:Int),.int .i64 (b:Int),.func 64 [] []] (Mm enc H db l T) (.tuple []) (Mm enc H db l' T)∧Sw a b l l'∧Sorted lt a b l':=by
  have hn:=S.nb
  obtain ⟨hi,rfl⟩:∃ hi,b=a+hi:=⟨b - a,by omega⟩
  have h0:Hp lt a ((hi - 1) / 2+1) hi l:=fun k c h1 h2 h3=>by omega
  obtain ⟨l1,r1,q1,q2⟩:=hs_build S hL (cap:=cap) hT (b:=a+hi) (by omega) ((hi - 1) / 2+1) l (by omega) hl hD h0
  have hl1:=sw_len q1 hl
  obtain ⟨l2,r2,q3,q4⟩:=hs_take S hL (cap:=cap) hT (b:=a+hi) (by omega) hi l1 (Nat.le_refl _) hl1 (hD.sw q1 (by omega)) ⟨q2,fun p q h1 h2 h3=>by omega,fun p q h1 h2 h3=>by omega⟩
  have s0:=hs_a_0 0 db n cap (Mm enc H db l T) 0 a (a+hi)
  have s1:=hs_b_0 0 db n cap (Mm enc H db l T) 0 a (a+hi) a (y9:=Ud) (y10:=Ud) (y11:=Ud) (y12:=Ud)
  have s2:=hs_c_0 0 db n cap (Mm enc H db l T) 0 a (a+hi) a (y10:=Ud) (y11:=Ud) (y12:=Ud)
  rw [show IntKind.i64.wrap (((a+hi:Nat):Int) - (a:Int))=(hi:Int) by simp only [wrapI64]; omega] at s2
  have s3:=hs_d_0 0 db n cap (Mm enc H db l T) 0 a (a+hi) a hi (y11:=Ud) (y12:=Ud)
  rw [show IntKind.i64.wrap ((IntKind.i64.wrap ((hi:Int) - 1):Int).tdiv 2)=(((hi - 1) / 2+1:Nat):Int) - 1 by
    rw [show IntKind.i64.wrap ((hi:Int) - 1)=((hi - 1:Nat):Int) by simp only [wrapI64]; omega,Int.tdiv_eq_ediv_of_nonneg (by omega)]
    simp only [wrapI64]; omega] at s3
  have r1':=lpi (e0:=(env84 (.sl db 0 n cap n 1) (.int .i64 (a:Int)) (.int .i64 ((a+hi:Nat):Int)) (.func 64 [] []) (.int .i64 (a:Int)) (.int .i64 0) (.int .i64 (hi:Int)) (.int .i64 ((((hi - 1) / 2+1:Nat):Int) - 1)) Ud)) r1 (b:=sub [1,1,1,0,1,0,0] B84)
  have s4:=hs_f_0 0 db n cap (Mm enc H db l1 T) 0 a (a+hi) a hi (y11:=.int .i64 (-1)) (y12:=Ud)
  rw [show IntKind.i64.wrap ((hi:Int) - 1)=(hi:Int) - 1 by simp only [wrapI64]; omega] at s4
  have r2':=lpi (e0:=(env84 (.sl db 0 n cap n 1) (.int .i64 (a:Int)) (.int .i64 ((a+hi:Nat):Int)) (.func 64 [] []) (.int .i64 (a:Int)) (.int .i64 0) (.int .i64 (hi:Int)) (.int .i64 (-1)) (.int .i64 ((hi:Int) - 1)))) r2 (b:=sub [1,1,1,1,1,0,0] B84)
  have t:=sq (s0) (sq (s1) (sq (s2) (sq (sq (s3) (bke (c:=sub [1,1,1,0,1] B84) (r1')) (c:=sub [1,1,1,0] B84)) (sq (s4) (bke (c:=sub [1,1,1,1,1] B84) (r2')) (c:=sub [1,1,1,1] B84)) (c:=sub [1,1,1] B84)) (c:=sub [1,1] B84)) (c:=sub [1] B84)) (c:=B84)
  have hc:=CallsTo.shared (P:=Tp) (pol:=polSl) (g:=84) (fn:=Try.f84) (cd:=B84) (args:=[.sl db 0 n cap n 1,.int .i64 (a:Int),.int .i64 ((a+hi:Nat):Int),.func 64 [] []]) (v:=.tuple []) (by kernel_rfl) (by kernel_rfl) (by kernel_rfl) (by kernel_rfl) t (by kernel_rfl) (by simp) (by kernel_rfl)
  rw [gcM _ _ _ _ _ rfl] at hc
  refine ⟨l2,hc,q1.trans q3,fun i j h1 h2 h3=>?_⟩
  have:=q4.2.1 (i - a) (j - a) (Nat.zero_le _) (by omega) (by omega)
  rwa [show a+(i - a)=i by omega,show a+(j - a)=j by omega] at this
end
end Go.Proofs.Ytaibmipamkaljaa
end
section
open Go Go.HL
namespace Go.Proofs.Ytaibmipamkaljaa
set_option maxRecDepth 100000
open Go.Proofs.Try renaming prog → Tp
open Go.HL.HV renaming undef → Ud
noncomputable def B90:Code:=Try.f90.body.getD .skip
abbrev env90 (v0 v1 v2 v3 v4 v10 v11 v12 v13:HV):Env:=[(0,v0),(1,v1),(2,v2),(3,v3),(4,v4),(10,v10),(11,v11),(12,v12),(13,v13)]
theorem pz_a_0 (N:Nat) (db n:Nat) (cap:Option Nat) (H:Heap) (x:Nat) (a:Nat) (b:Nat) (p:Nat):RT polSl 90 (sub [0] B90) [(0,.c db n cap),(1,.i (a:Int)),(2,.i (b:Int)),(3,.i (p:Int)),(4,.func 64 [] [])] H .normal (env90 (.c db n cap) (.i (a:Int)) (.i (b:Int)) (.i (p:Int)) (.func 64 [] []) (.i 0) (.bool false) Ud Ud) H :=
  RunsTo.hin N 60 [] fun kf hk=>⟨_,by kernel_rfl,.nil⟩
theorem pz_b_0 (N:Nat) (db n:Nat) (cap:Option Nat) (H:Heap) (x:Nat) (a:Nat) (b:Nat) (p:Nat) {y12 y13:HV} {a0:HV} {v0:HV} {a1:HV} {v1:HV} {a2:HV} {H0:Heap} {a3:HV} {H1:Heap} (g0:idxV Tp 35 (.c db n cap) (.i (p:Int))=some (a0)) (g1:loadV Tp H 22 (a0)=some (v0)) (g2:idxV Tp 35 (.c db n cap) (.i (a:Int))=some (a1)) (g3:loadV Tp H 22 (a1)=some (v1)) (g4:idxV Tp 35 (.c db n cap) (.i (a:Int))=some (a2)) (g5:storeV Tp H 22 (a2) (v0)=some H0) (g6:idxV Tp 35 (.c db n cap) (.i (p:Int))=some (a3)) (g7:storeV Tp H0 22 (a3) (v1)=some H1):RT polSl 90 (sub [1,0] B90) (env90 (.c db n cap) (.i (a:Int)) (.i (b:Int)) (.i (p:Int)) (.func 64 [] []) (.i 0) (.bool false) y12 y13) H .normal (env90 (.c db n cap) (.i (a:Int)) (.i (b:Int)) (.i (p:Int)) (.func 64 [] []) (.i 0) (.bool false) y12 y13) H1 :=
  RunsTo.hin N 60 [⟨1,6,a0,H⟩,⟨1,7,v0,H⟩,⟨1,10,a1,H⟩,⟨1,11,v1,H⟩,⟨1,12,a2,H⟩,⟨1,13,.tuple [],H0⟩,⟨1,14,a3,H0⟩,⟨1,15,.tuple [],H1⟩] fun kf hk=>⟨_,by kernel_rfl,(oP H g0 (oP H g1 (oP H g2 (oP H g3 (oP H g4 (oS g5 (oP H0 g6 (oS g7 .nil))))))))⟩
theorem pz_c_0 (N:Nat) (db n:Nat) (cap:Option Nat) (H:Heap) (x:Nat) (a:Nat) (b:Nat) (p:Nat) {y12 y13:HV}:RT polSl 90 (sub [1,1,0] B90) (env90 (.c db n cap) (.i (a:Int)) (.i (b:Int)) (.i (p:Int)) (.func 64 [] []) (.i 0) (.bool false) y12 y13) H .normal (env90 (.c db n cap) (.i (a:Int)) (.i (b:Int)) (.i (p:Int)) (.func 64 [] []) (.i 0) (.bool false) (.i (IntKind.i64.wrap ((a:Int)+1))) (.i (IntKind.i64.wrap ((b:Int) - 1)))) H :=
  RunsTo.hin N 60 [] fun kf hk=>⟨_,by kernel_rfl,.nil⟩
theorem pz_d_0 (N:Nat) (db n:Nat) (cap:Option Nat) (H:Heap) (x:Nat) (a:Nat) (b:Nat) (p:Nat) (i:Nat) (j:Nat) {a0:HV} {v0:HV} {a1:HV} {v1:HV} {c0:Int} {H0:Heap} (g0:(i:Int) ≤ (j:Int)) (g1:idxV Tp 35 (.c db n cap) (.i (i:Int))=some (a0)) (g2:loadV Tp H 22 (a0)=some (v0)) (g3:idxV Tp 35 (.c db n cap) (.i (a:Int))=some (a1)) (g4:loadV Tp H 22 (a1)=some (v1)) (g5:∀ kf,N ≤ kf → callN Tp polSl (kf+1) 64 [v0,v1] H=some (.i c0,H0)) (g6:c0 < 0):RT polSl 90 (sub [1,1,1,0,0,0] B90) (env90 (.c db n cap) (.i (a:Int)) (.i (b:Int)) (.i (p:Int)) (.func 64 [] []) (.i 0) (.bool false) (.i (i:Int)) (.i (j:Int))) H .normal (env90 (.c db n cap) (.i (a:Int)) (.i (b:Int)) (.i (p:Int)) (.func 64 [] []) (.i 0) (.bool false) (.i (IntKind.i64.wrap ((i:Int)+1))) (.i (j:Int))) H0 :=
  RunsTo.hin N 60 [⟨3,2,.bool true,H⟩,⟨3,7,a0,H⟩,⟨3,8,v0,H⟩,⟨3,11,a1,H⟩,⟨3,12,v1,H⟩,⟨3,13,.i c0,H0⟩,⟨3,14,.bool true,H0⟩] fun kf hk=>⟨_,by kernel_rfl,(oB H (decide_eq_true g0) (oP H g1 (oP H g2 (oP H g3 (oP H g4 (oC (g5 kf (by omega)) (oB H0 (decide_eq_true g6) .nil)))))))⟩
theorem pz_d_1 (N:Nat) (db n:Nat) (cap:Option Nat) (H:Heap) (x:Nat) (a:Nat) (b:Nat) (p:Nat) (i:Nat) (j:Nat) {a0:HV} {v0:HV} {a1:HV} {v1:HV} {c0:Int} {H0:Heap} (g0:(i:Int) ≤ (j:Int)) (g1:idxV Tp 35 (.c db n cap) (.i (i:Int))=some (a0)) (g2:loadV Tp H 22 (a0)=some (v0)) (g3:idxV Tp 35 (.c db n cap) (.i (a:Int))=some (a1)) (g4:loadV Tp H 22 (a1)=some (v1)) (g5:∀ kf,N ≤ kf → callN Tp polSl (kf+1) 64 [v0,v1] H=some (.i c0,H0)) (g6:¬ (c0 < 0)):RT polSl 90 (sub [1,1,1,0,0,0] B90) (env90 (.c db n cap) (.i (a:Int)) (.i (b:Int)) (.i (p:Int)) (.func 64 [] []) (.i 0) (.bool false) (.i (i:Int)) (.i (j:Int))) H (.exit 0) (env90 (.c db n cap) (.i (a:Int)) (.i (b:Int)) (.i (p:Int)) (.func 64 [] []) (.i 0) (.bool false) (.i (i:Int)) (.i (j:Int))) H0 :=
  RunsTo.hin N 60 [⟨3,2,.bool true,H⟩,⟨3,7,a0,H⟩,⟨3,8,v0,H⟩,⟨3,11,a1,H⟩,⟨3,12,v1,H⟩,⟨3,13,.i c0,H0⟩,⟨3,14,.bool false,H0⟩] fun kf hk=>⟨_,by kernel_rfl,(oB H (decide_eq_true g0) (oP H g1 (oP H g2 (oP H g3 (oP H g4 (oC (g5 kf (by omega)) (oB H0 (decide_eq_false g6) .nil)))))))⟩
theorem pz_d_2 (N:Nat) (db n:Nat) (cap:Option Nat) (H:Heap) (x:Nat) (a:Nat) (b:Nat) (p:Nat) (i:Nat) (j:Nat)(g0:¬ ((i:Int) ≤ (j:Int))):RT polSl 90 (sub [1,1,1,0,0,0] B90) (env90 (.c db n cap) (.i (a:Int)) (.i (b:Int)) (.i (p:Int)) (.func 64 [] []) (.i 0) (.bool false) (.i (i:Int)) (.i (j:Int))) H (.exit 0) (env90 (.c db n cap) (.i (a:Int)) (.i (b:Int)) (.i (p:Int)) (.func 64 [] []) (.i 0) (.bool false) (.i (i:Int)) (.i (j:Int))) H :=
  RunsTo.hin N 60 [⟨3,2,.bool false,H⟩] fun kf hk=>⟨_,by kernel_rfl,(oB H (decide_eq_false g0) .nil)⟩
theorem pz_e_0 (N:Nat) (db n:Nat) (cap:Option Nat) (H:Heap) (x:Nat) (a:Nat) (b:Nat) (p:Nat) (i:Nat) (j:Nat) {a0:HV} {v0:HV} {a1:HV} {v1:HV} {c0:Int} {H0:Heap} (g0:(i:Int) ≤ (j:Int)) (g1:idxV Tp 35 (.c db n cap) (.i (j:Int))=some (a0)) (g2:loadV Tp H 22 (a0)=some (v0)) (g3:idxV Tp 35 (.c db n cap) (.i (a:Int))=some (a1)) (g4:loadV Tp H 22 (a1)=some (v1)) (g5:∀ kf,N ≤ kf → callN Tp polSl (kf+1) 64 [v0,v1] H=some (.i c0,H0)) (g6:c0 < 0):RT polSl 90 (sub [1,1,1,1,0,0,0] B90) (env90 (.c db n cap) (.i (a:Int)) (.i (b:Int)) (.i (p:Int)) (.func 64 [] []) (.i 0) (.bool false) (.i (i:Int)) (.i (j:Int))) H (.exit 2) (env90 (.c db n cap) (.i (a:Int)) (.i (b:Int)) (.i (p:Int)) (.func 64 [] []) (.i 0) (.bool false) (.i (i:Int)) (.i (j:Int))) H0 :=
  RunsTo.hin N 60 [⟨5,2,.bool true,H⟩,⟨5,7,a0,H⟩,⟨5,8,v0,H⟩,⟨5,11,a1,H⟩,⟨5,12,v1,H⟩,⟨5,13,.i c0,H0⟩,⟨5,14,.bool true,H0⟩] fun kf hk=>⟨_,by kernel_rfl,(oB H (decide_eq_true g0) (oP H g1 (oP H g2 (oP H g3 (oP H g4 (oC (g5 kf (by omega)) (oB H0 (decide_eq_true g6) .nil)))))))⟩
theorem pz_e_1 (N:Nat) (db n:Nat) (cap:Option Nat) (H:Heap) (x:Nat) (a:Nat) (b:Nat) (p:Nat) (i:Nat) (j:Nat) {a0:HV} {v0:HV} {a1:HV} {v1:HV} {c0:Int} {H0:Heap} (g0:(i:Int) ≤ (j:Int)) (g1:idxV Tp 35 (.c db n cap) (.i (j:Int))=some (a0)) (g2:loadV Tp H 22 (a0)=some (v0)) (g3:idxV Tp 35 (.c db n cap) (.i (a:Int))=some (a1)) (g4:loadV Tp H 22 (a1)=some (v1)) (g5:∀ kf,N ≤ kf → callN Tp polSl (kf+1) 64 [v0,v1] H=some (.i c0,H0)) (g6:¬ (c0 < 0)):RT polSl 90 (sub [1,1,1,1,0,0,0] B90) (env90 (.c db n cap) (.i (a:Int)) (.i (b:Int)) (.i (p:Int)) (.func 64 [] []) (.i 0) (.bool false) (.i (i:Int)) (.i (j:Int))) H .normal (env90 (.c db n cap) (.i (a:Int)) (.i (b:Int)) (.i (p:Int)) (.func 64 [] []) (.i 0) (.bool false) (.i (i:Int)) (.i (IntKind.i64.wrap ((j:Int) - 1)))) H0 :=
  RunsTo.hin N 60 [⟨5,2,.bool true,H⟩,⟨5,7,a0,H⟩,⟨5,8,v0,H⟩,⟨5,11,a1,H⟩,⟨5,12,v1,H⟩,⟨5,13,.i c0,H0⟩,⟨5,14,.bool false,H0⟩] fun kf hk=>⟨_,by kernel_rfl,(oB H (decide_eq_true g0) (oP H g1 (oP H g2 (oP H g3 (oP H g4 (oC (g5 kf (by omega)) (oB H0 (decide_eq_false g6) .nil)))))))⟩
theorem pz_e_2 (N:Nat) (db n:Nat) (cap:Option Nat) (H:Heap) (x:Nat) (a:Nat) (b:Nat) (p:Nat) (i:Nat) (j:Nat)(g0:¬ ((i:Int) ≤ (j:Int))):RT polSl 90 (sub [1,1,1,1,0,0,0] B90) (env90 (.c db n cap) (.i (a:Int)) (.i (b:Int)) (.i (p:Int)) (.func 64 [] []) (.i 0) (.bool false) (.i (i:Int)) (.i (j:Int))) H (.exit 2) (env90 (.c db n cap) (.i (a:Int)) (.i (b:Int)) (.i (p:Int)) (.func 64 [] []) (.i 0) (.bool false) (.i (i:Int)) (.i (j:Int))) H :=
  RunsTo.hin N 60 [⟨5,2,.bool false,H⟩] fun kf hk=>⟨_,by kernel_rfl,(oB H (decide_eq_false g0) .nil)⟩
theorem pz_f_0 (N:Nat) (db n:Nat) (cap:Option Nat) (H:Heap) (x:Nat) (a:Nat) (b:Nat) (p:Nat) (i:Nat) (j:Nat) {a0:HV} {v0:HV} {a1:HV} {v1:HV} {a2:HV} {H0:Heap} {a3:HV} {H1:Heap} (g0:(j:Int) < (i:Int)) (g1:idxV Tp 35 (.c db n cap) (.i (a:Int))=some (a0)) (g2:loadV Tp H 22 (a0)=some (v0)) (g3:idxV Tp 35 (.c db n cap) (.i (j:Int))=some (a1)) (g4:loadV Tp H 22 (a1)=some (v1)) (g5:idxV Tp 35 (.c db n cap) (.i (j:Int))=some (a2)) (g6:storeV Tp H 22 (a2) (v0)=some H0) (g7:idxV Tp 35 (.c db n cap) (.i (a:Int))=some (a3)) (g8:storeV Tp H0 22 (a3) (v1)=some H1):RT polSl 90 (sub [1,1,1,1,1,0] B90) (env90 (.c db n cap) (.i (a:Int)) (.i (b:Int)) (.i (p:Int)) (.func 64 [] []) (.i 0) (.bool false) (.i (i:Int)) (.i (j:Int))) H .ret (env90 (.c db n cap) (.i (a:Int)) (.i (b:Int)) (.i (p:Int)) (.func 64 [] []) (.i (j:Int)) (.bool true) (.i (i:Int)) (.i (j:Int))) H1 :=
  RunsTo.hin N 60 [⟨7,2,.bool true,H⟩,⟨8,6,a0,H⟩,⟨8,7,v0,H⟩,⟨8,10,a1,H⟩,⟨8,11,v1,H⟩,⟨8,12,a2,H⟩,⟨8,13,.tuple [],H0⟩,⟨8,14,a3,H0⟩,⟨8,15,.tuple [],H1⟩] fun kf hk=>⟨_,by kernel_rfl,(oB H (decide_eq_true g0) (oP H g1 (oP H g2 (oP H g3 (oP H g4 (oP H g5 (oS g6 (oP H0 g7 (oS g8 .nil)))))))))⟩
theorem pz_f_1 (N:Nat) (db n:Nat) (cap:Option Nat) (H:Heap) (x:Nat) (a:Nat) (b:Nat) (p:Nat) (i:Nat) (j:Nat)(g0:¬ ((j:Int) < (i:Int))):RT polSl 90 (sub [1,1,1,1,1,0] B90) (env90 (.c db n cap) (.i (a:Int)) (.i (b:Int)) (.i (p:Int)) (.func 64 [] []) (.i 0) (.bool false) (.i (i:Int)) (.i (j:Int))) H .normal (env90 (.c db n cap) (.i (a:Int)) (.i (b:Int)) (.i (p:Int)) (.func 64 [] []) (.i 0) (.bool false) (.i (i:Int)) (.i (j:Int))) H :=
  RunsTo.hin N 60 [⟨7,2,.bool false,H⟩] fun kf hk=>⟨_,by kernel_rfl,(oB H (decide_eq_false g0) .nil)⟩
theorem pz_g_0 (N:Nat) (db n:Nat) (cap:Option Nat) (H:Heap) (x:Nat) (a:Nat) (b:Nat) (p:Nat) (i:Nat) (j:Nat) {a0:HV} {v0:HV} {a1:HV} {v1:HV} {a2:HV} {H0:Heap} {a3:HV} {H1:Heap} (g0:idxV Tp 35 (.c db n cap) (.i (j:Int))=some (a0)) (g1:loadV Tp H 22 (a0)=some (v0)) (g2:idxV Tp 35 (.c db n cap) (.i (i:Int))=some (a1)) (g3:loadV Tp H 22 (a1)=some (v1)) (g4:idxV Tp 35 (.c db n cap) (.i (i:Int))=some (a2)) (g5:storeV Tp H 22 (a2) (v0)=some H0) (g6:idxV Tp 35 (.c db n cap) (.i (j:Int))=some (a3)) (g7:storeV Tp H0 22 (a3) (v1)=some H1):RT polSl 90 (sub [1,1,1,1,1,1,0] B90) (env90 (.c db n cap) (.i (a:Int)) (.i (b:Int)) (.i (p:Int)) (.func 64 [] []) (.i 0) (.bool false) (.i (i:Int)) (.i (j:Int))) H .normal (env90 (.c db n cap) (.i (a:Int)) (.i (b:Int)) (.i (p:Int)) (.func 64 [] []) (.i 0) (.bool false) (.i (i:Int)) (.i (j:Int))) H1 :=
  RunsTo.hin N 60 [⟨10,6,a0,H⟩,⟨10,7,v0,H⟩,⟨10,10,a1,H⟩,⟨10,11,v1,H⟩,⟨10,12,a2,H⟩,⟨10,13,.tuple [],H0⟩,⟨10,14,a3,H0⟩,⟨10,15,.tuple [],H1⟩] fun kf hk=>⟨_,by kernel_rfl,(oP H g0 (oP H g1 (oP H g2 (oP H g3 (oP H g4 (oS g5 (oP H0 g6 (oS g7 .nil))))))))⟩
theorem pz_h_0 (N:Nat) (db n:Nat) (cap:Option Nat) (H:Heap) (x:Nat) (a:Nat) (b:Nat) (p:Nat) (i:Nat) (j:Nat):RT polSl 90 (sub [1,1,1,1,1,1,1,0] B90) (env90 (.c db n cap) (.i (a:Int)) (.i (b:Int)) (.i (p:Int)) (.func 64 [] []) (.i 0) (.bool false) (.i (i:Int)) (.i (j:Int))) H .normal (env90 (.c db n cap) (.i (a:Int)) (.i (b:Int)) (.i (p:Int)) (.func 64 [] []) (.i 0) (.bool false) (.i (IntKind.i64.wrap ((i:Int)+1))) (.i (j:Int))) H :=
  RunsTo.hin N 60 [] fun kf hk=>⟨_,by kernel_rfl,.nil⟩
theorem pz_i_0 (N:Nat) (db n:Nat) (cap:Option Nat) (H:Heap) (x:Nat) (a:Nat) (b:Nat) (p:Nat) (i:Nat) (j:Nat):RT polSl 90 (sub [1,1,1,1,1,1,1,1,0] B90) (env90 (.c db n cap) (.i (a:Int)) (.i (b:Int)) (.i (p:Int)) (.func 64 [] []) (.i 0) (.bool false) (.i (i:Int)) (.i (j:Int))) H .normal (env90 (.c db n cap) (.i (a:Int)) (.i (b:Int)) (.i (p:Int)) (.func 64 [] []) (.i 0) (.bool false) (.i (i:Int)) (.i (IntKind.i64.wrap ((j:Int) - 1)))) H :=
  RunsTo.hin N 60 [] fun kf hk=>⟨_,by kernel_rfl,.nil⟩
theorem pz_j_0 (N:Nat) (db n:Nat) (cap:Option Nat) (H:Heap) (x:Nat) (a:Nat) (b:Nat) (p:Nat) (i:Nat) (j:Nat) {a0:HV} {v0:HV} {a1:HV} {v1:HV} {c0:Int} {H0:Heap} (g0:(i:Int) ≤ (j:Int)) (g1:idxV Tp 35 (.c db n cap) (.i (i:Int))=some (a0)) (g2:loadV Tp H 22 (a0)=some (v0)) (g3:idxV Tp 35 (.c db n cap) (.i (a:Int))=some (a1)) (g4:loadV Tp H 22 (a1)=some (v1)) (g5:∀ kf,N ≤ kf → callN Tp polSl (kf+1) 64 [v0,v1] H=some (.i c0,H0)) (g6:c0 < 0):RT polSl 90 (sub [1,1,1,1,1,1,1,1,1,0,0,0,0,0,0,0] B90) (env90 (.c db n cap) (.i (a:Int)) (.i (b:Int)) (.i (p:Int)) (.func 64 [] []) (.i 0) (.bool false) (.i (i:Int)) (.i (j:Int))) H .normal (env90 (.c db n cap) (.i (a:Int)) (.i (b:Int)) (.i (p:Int)) (.func 64 [] []) (.i 0) (.bool false) (.i (IntKind.i64.wrap ((i:Int)+1))) (.i (j:Int))) H0 :=
  RunsTo.hin N 60 [⟨13,2,.bool true,H⟩,⟨13,7,a0,H⟩,⟨13,8,v0,H⟩,⟨13,11,a1,H⟩,⟨13,12,v1,H⟩,⟨13,13,.i c0,H0⟩,⟨13,14,.bool true,H0⟩] fun kf hk=>⟨_,by kernel_rfl,(oB H (decide_eq_true g0) (oP H g1 (oP H g2 (oP H g3 (oP H g4 (oC (g5 kf (by omega)) (oB H0 (decide_eq_true g6) .nil)))))))⟩
theorem pz_j_1 (N:Nat) (db n:Nat) (cap:Option Nat) (H:Heap) (x:Nat) (a:Nat) (b:Nat) (p:Nat) (i:Nat) (j:Nat) {a0:HV} {v0:HV} {a1:HV} {v1:HV} {c0:Int} {H0:Heap} (g0:(i:Int) ≤ (j:Int)) (g1:idxV Tp 35 (.c db n cap) (.i (i:Int))=some (a0)) (g2:loadV Tp H 22 (a0)=some (v0)) (g3:idxV Tp 35 (.c db n cap) (.i (a:Int))=some (a1)) (g4:loadV Tp H 22 (a1)=some (v1)) (g5:∀ kf,N ≤ kf → callN Tp polSl (kf+1) 64 [v0,v1] H=some (.i c0,H0)) (g6:¬ (c0 < 0)):RT polSl 90 (sub [1,1,1,1,1,1,1,1,1,0,0,0,0,0,0,0] B90) (env90 (.c db n cap) (.i (a:Int)) (.i (b:Int)) (.i (p:Int)) (.func 64 [] []) (.i 0) (.bool false) (.i (i:Int)) (.i (j:Int))) H (.exit 6) (env90 (.c db n cap) (.i (a:Int)) (.i (b:Int)) (.i (p:Int)) (.func 64 [] []) (.i 0) (.bool false) (.i (i:Int)) (.i (j:Int))) H0 :=
  RunsTo.hin N 60 [⟨13,2,.bool true,H⟩,⟨13,7,a0,H⟩,⟨13,8,v0,H⟩,⟨13,11,a1,H⟩,⟨13,12,v1,H⟩,⟨13,13,.i c0,H0⟩,⟨13,14,.bool false,H0⟩] fun kf hk=>⟨_,by kernel_rfl,(oB H (decide_eq_true g0) (oP H g1 (oP H g2 (oP H g3 (oP H g4 (oC (g5 kf (by omega)) (oB H0 (decide_eq_false g6) .nil)))))))⟩
theorem pz_j_2 (N:Nat) (db n:Nat) (cap:Option Nat) (H:Heap) (x:Nat) (a:Nat) (b:Nat) (p:Nat) (i:Nat) (j:Nat)(g0:¬ ((i:Int) ≤ (j:Int))):RT polSl 90 (sub [1,1,1,1,1,1,1,1,1,0,0,0,0,0,0,0] B90) (env90 (.c db n cap) (.i (a:Int)) (.i (b:Int)) (.i (p:Int)) (.func 64 [] []) (.i 0) (.bool false) (.i (i:Int)) (.i (j:Int))) H (.exit 6) (env90 (.c db n cap) (.i (a:Int)) (.i (b:Int)) (.i (p:Int)) (.func 64 [] []) (.i 0) (.bool false) (.i (i:Int)) (.i (j:Int))) H :=
  RunsTo.hin N 60 [⟨13,2,.bool false,H⟩] fun kf hk=>⟨_,by kernel_rfl,(oB H (decide_eq_false g0) .nil)⟩
theorem pz_k_0 (N:Nat) (db n:Nat) (cap:Option Nat) (H:Heap) (x:Nat) (a:Nat) (b:Nat) (p:Nat) (i:Nat) (j:Nat) {a0:HV} {v0:HV} {a1:HV} {v1:HV} {c0:Int} {H0:Heap} (g0:(i:Int) ≤ (j:Int)) (g1:idxV Tp 35 (.c db n cap) (.i (j:Int))=some (a0)) (g2:loadV Tp H 22 (a0)=some (v0)) (g3:idxV Tp 35 (.c db n cap) (.i (a:Int))=some (a1)) (g4:loadV Tp H 22 (a1)=some (v1)) (g5:∀ kf,N ≤ kf → callN Tp polSl (kf+1) 64 [v0,v1] H=some (.i c0,H0)) (g6:c0 < 0):RT polSl 90 (sub [1,1,1,1,1,1,1,1,1,0,0,0,0,1,0,0,0] B90) (env90 (.c db n cap) (.i (a:Int)) (.i (b:Int)) (.i (p:Int)) (.func 64 [] []) (.i 0) (.bool false) (.i (i:Int)) (.i (j:Int))) H (.exit 8) (env90 (.c db n cap) (.i (a:Int)) (.i (b:Int)) (.i (p:Int)) (.func 64 [] []) (.i 0) (.bool false) (.i (i:Int)) (.i (j:Int))) H0 :=
  RunsTo.hin N 60 [⟨15,2,.bool true,H⟩,⟨15,7,a0,H⟩,⟨15,8,v0,H⟩,⟨15,11,a1,H⟩,⟨15,12,v1,H⟩,⟨15,13,.i c0,H0⟩,⟨15,14,.bool true,H0⟩] fun kf hk=>⟨_,by kernel_rfl,(oB H (decide_eq_true g0) (oP H g1 (oP H g2 (oP H g3 (oP H g4 (oC (g5 kf (by omega)) (oB H0 (decide_eq_true g6) .nil)))))))⟩
theorem pz_k_1 (N:Nat) (db n:Nat) (cap:Option Nat) (H:Heap) (x:Nat) (a:Nat) (b:Nat) (p:Nat) (i:Nat) (j:Nat) {a0:HV} {v0:HV} {a1:HV} {v1:HV} {c0:Int} {H0:Heap} (g0:(i:Int) ≤ (j:Int)) (g1:idxV Tp 35 (.c db n cap) (.i (j:Int))=some (a0)) (g2:loadV Tp H 22 (a0)=some (v0)) (g3:idxV Tp 35 (.c db n cap) (.i (a:Int))=some (a1)) (g4:loadV Tp H 22 (a1)=some (v1)) (g5:∀ kf,N ≤ kf → callN Tp polSl (kf+1) 64 [v0,v1] H=some (.i c0,H0)) (g6:¬ (c0 < 0)):RT polSl 90 (sub [1,1,1,1,1,1,1,1,1,0,0,0,0,1,0,0,0] B90) (env90 (.c db n cap) (.i (a:Int)) (.i (b:Int)) (.i (p:Int)) (.func 64 [] []) (.i 0) (.bool false) (.i (i:Int)) (.i (j:Int))) H .normal (env90 (.c db n cap) (.i (a:Int)) (.i (b:Int)) (.i (p:Int)) (.func 64 [] []) (.i 0) (.bool false) (.i (i:Int)) (.i (IntKind.i64.wrap ((j:Int) - 1)))) H0 :=
  RunsTo.hin N 60 [⟨15,2,.bool true,H⟩,⟨15,7,a0,H⟩,⟨15,8,v0,H⟩,⟨15,11,a1,H⟩,⟨15,12,v1,H⟩,⟨15,13,.i c0,H0⟩,⟨15,14,.bool false,H0⟩] fun kf hk=>⟨_,by kernel_rfl,(oB H (decide_eq_true g0) (oP H g1 (oP H g2 (oP H g3 (oP H g4 (oC (g5 kf (by omega)) (oB H0 (decide_eq_false g6) .nil)))))))⟩
theorem pz_k_2 (N:Nat) (db n:Nat) (cap:Option Nat) (H:Heap) (x:Nat) (a:Nat) (b:Nat) (p:Nat) (i:Nat) (j:Nat)(g0:¬ ((i:Int) ≤ (j:Int))):RT polSl 90 (sub [1,1,1,1,1,1,1,1,1,0,0,0,0,1,0,0,0] B90) (env90 (.c db n cap) (.i (a:Int)) (.i (b:Int)) (.i (p:Int)) (.func 64 [] []) (.i 0) (.bool false) (.i (i:Int)) (.i (j:Int))) H (.exit 8) (env90 (.c db n cap) (.i (a:Int)) (.i (b:Int)) (.i (p:Int)) (.func 64 [] []) (.i 0) (.bool false) (.i (i:Int)) (.i (j:Int))) H :=
  RunsTo.hin N 60 [⟨15,2,.bool false,H⟩] fun kf hk=>⟨_,by kernel_rfl,(oB H (decide_eq_false g0) .nil)⟩
theorem pz_l_0 (N:Nat) (db n:Nat) (cap:Option Nat) (H:Heap) (x:Nat) (a:Nat) (b:Nat) (p:Nat) (i:Nat) (j:Nat)(g0:(j:Int) < (i:Int)):RT polSl 90 (sub [1,1,1,1,1,1,1,1,1,0,0,0,0,1,1] B90) (env90 (.c db n cap) (.i (a:Int)) (.i (b:Int)) (.i (p:Int)) (.func 64 [] []) (.i 0) (.bool false) (.i (i:Int)) (.i (j:Int))) H (.exit 4) (env90 (.c db n cap) (.i (a:Int)) (.i (b:Int)) (.i (p:Int)) (.func 64 [] []) (.i 0) (.bool false) (.i (i:Int)) (.i (j:Int))) H :=
  RunsTo.hin N 60 [⟨17,2,.bool true,H⟩] fun kf hk=>⟨_,by kernel_rfl,(oB H (decide_eq_true g0) .nil)⟩
theorem pz_l_1 (N:Nat) (db n:Nat) (cap:Option Nat) (H:Heap) (x:Nat) (a:Nat) (b:Nat) (p:Nat) (i:Nat) (j:Nat) {a0:HV} {v0:HV} {a1:HV} {v1:HV} {a2:HV} {H0:Heap} {a3:HV} {H1:Heap} (g0:¬ ((j:Int) < (i:Int))) (g1:idxV Tp 35 (.c db n cap) (.i (j:Int))=some (a0)) (g2:loadV Tp H 22 (a0)=some (v0)) (g3:idxV Tp 35 (.c db n cap) (.i (i:Int))=some (a1)) (g4:loadV Tp H 22 (a1)=some (v1)) (g5:idxV Tp 35 (.c db n cap) (.i (i:Int))=some (a2)) (g6:storeV Tp H 22 (a2) (v0)=some H0) (g7:idxV Tp 35 (.c db n cap) (.i (j:Int))=some (a3)) (g8:storeV Tp H0 22 (a3) (v1)=some H1):RT polSl 90 (sub [1,1,1,1,1,1,1,1,1,0,0,0,0,1,1] B90) (env90 (.c db n cap) (.i (a:Int)) (.i (b:Int)) (.i (p:Int)) (.func 64 [] []) (.i 0) (.bool false) (.i (i:Int)) (.i (j:Int))) H .normal (env90 (.c db n cap) (.i (a:Int)) (.i (b:Int)) (.i (p:Int)) (.func 64 [] []) (.i 0) (.bool false) (.i (IntKind.i64.wrap ((i:Int)+1))) (.i (IntKind.i64.wrap ((j:Int) - 1)))) H1 :=
  RunsTo.hin N 60 [⟨17,2,.bool false,H⟩,⟨18,6,a0,H⟩,⟨18,7,v0,H⟩,⟨18,10,a1,H⟩,⟨18,11,v1,H⟩,⟨18,12,a2,H⟩,⟨18,13,.tuple [],H0⟩,⟨18,14,a3,H0⟩,⟨18,15,.tuple [],H1⟩] fun kf hk=>⟨_,by kernel_rfl,(oB H (decide_eq_false g0) (oP H g1 (oP H g2 (oP H g3 (oP H g4 (oP H g5 (oS g6 (oP H0 g7 (oS g8 .nil)))))))))⟩
theorem pz_m_0 (N:Nat) (db n:Nat) (cap:Option Nat) (H:Heap) (x:Nat) (a:Nat) (b:Nat) (p:Nat) (i:Nat) (j:Nat) {a0:HV} {v0:HV} {a1:HV} {v1:HV} {a2:HV} {H0:Heap} {a3:HV} {H1:Heap} (g0:idxV Tp 35 (.c db n cap) (.i (a:Int))=some (a0)) (g1:loadV Tp H 22 (a0)=some (v0)) (g2:idxV Tp 35 (.c db n cap) (.i (j:Int))=some (a1)) (g3:loadV Tp H 22 (a1)=some (v1)) (g4:idxV Tp 35 (.c db n cap) (.i (j:Int))=some (a2)) (g5:storeV Tp H 22 (a2) (v0)=some H0) (g6:idxV Tp 35 (.c db n cap) (.i (a:Int))=some (a3)) (g7:storeV Tp H0 22 (a3) (v1)=some H1):RT polSl 90 (sub [1,1,1,1,1,1,1,1,1,1] B90) (env90 (.c db n cap) (.i (a:Int)) (.i (b:Int)) (.i (p:Int)) (.func 64 [] []) (.i 0) (.bool false) (.i (i:Int)) (.i (j:Int))) H .ret (env90 (.c db n cap) (.i (a:Int)) (.i (b:Int)) (.i (p:Int)) (.func 64 [] []) (.i (j:Int)) (.bool false) (.i (i:Int)) (.i (j:Int))) H1 :=
  RunsTo.hin N 60 [⟨21,6,a0,H⟩,⟨21,7,v0,H⟩,⟨21,10,a1,H⟩,⟨21,11,v1,H⟩,⟨21,12,a2,H⟩,⟨21,13,.tuple [],H0⟩,⟨21,14,a3,H0⟩,⟨21,15,.tuple [],H1⟩] fun kf hk=>⟨_,by kernel_rfl,(oP H g0 (oP H g1 (oP H g2 (oP H g3 (oP H g4 (oS g5 (oP H0 g6 (oS g7 .nil))))))))⟩
noncomputable def B89:Code:=Try.f89.body.getD .skip
abbrev env89 (v0 v1 v2 v3 v4 v10 v11 v12:HV):Env:=[(0,v0),(1,v1),(2,v2),(3,v3),(4,v4),(10,v10),(11,v11),(12,v12)]
theorem pe_a_0 (N:Nat) (db n:Nat) (cap:Option Nat) (H:Heap) (x:Nat) (a:Nat) (b:Nat) (p:Nat):RT polSl 89 (sub [0] B89) [(0,.c db n cap),(1,.i (a:Int)),(2,.i (b:Int)),(3,.i (p:Int)),(4,.func 64 [] [])] H .normal (env89 (.c db n cap) (.i (a:Int)) (.i (b:Int)) (.i (p:Int)) (.func 64 [] []) (.i 0) Ud Ud) H :=
  RunsTo.hin N 60 [] fun kf hk=>⟨_,by kernel_rfl,.nil⟩
theorem pe_b_0 (N:Nat) (db n:Nat) (cap:Option Nat) (H:Heap) (x:Nat) (a:Nat) (b:Nat) (p:Nat) {y11 y12:HV} {a0:HV} {v0:HV} {a1:HV} {v1:HV} {a2:HV} {H0:Heap} {a3:HV} {H1:Heap} (g0:idxV Tp 35 (.c db n cap) (.i (p:Int))=some (a0)) (g1:loadV Tp H 22 (a0)=some (v0)) (g2:idxV Tp 35 (.c db n cap) (.i (a:Int))=some (a1)) (g3:loadV Tp H 22 (a1)=some (v1)) (g4:idxV Tp 35 (.c db n cap) (.i (a:Int))=some (a2)) (g5:storeV Tp H 22 (a2) (v0)=some H0) (g6:idxV Tp 35 (.c db n cap) (.i (p:Int))=some (a3)) (g7:storeV Tp H0 22 (a3) (v1)=some H1):RT polSl 89 (sub [1,0] B89) (env89 (.c db n cap) (.i (a:Int)) (.i (b:Int)) (.i (p:Int)) (.func 64 [] []) (.i 0) y11 y12) H .normal (env89 (.c db n cap) (.i (a:Int)) (.i (b:Int)) (.i (p:Int)) (.func 64 [] []) (.i 0) y11 y12) H1 :=
  RunsTo.hin N 60 [⟨1,6,a0,H⟩,⟨1,7,v0,H⟩,⟨1,10,a1,H⟩,⟨1,11,v1,H⟩,⟨1,12,a2,H⟩,⟨1,13,.tuple [],H0⟩,⟨1,14,a3,H0⟩,⟨1,15,.tuple [],H1⟩] fun kf hk=>⟨_,by kernel_rfl,(oP H g0 (oP H g1 (oP H g2 (oP H g3 (oP H g4 (oS g5 (oP H0 g6 (oS g7 .nil))))))))⟩
theorem pe_c_0 (N:Nat) (db n:Nat) (cap:Option Nat) (H:Heap) (x:Nat) (a:Nat) (b:Nat) (p:Nat) {y11 y12:HV}:RT polSl 89 (sub [1,1,0] B89) (env89 (.c db n cap) (.i (a:Int)) (.i (b:Int)) (.i (p:Int)) (.func 64 [] []) (.i 0) y11 y12) H .normal (env89 (.c db n cap) (.i (a:Int)) (.i (b:Int)) (.i (p:Int)) (.func 64 [] []) (.i 0) (.i (IntKind.i64.wrap ((a:Int)+1))) (.i (IntKind.i64.wrap ((b:Int) - 1)))) H :=
  RunsTo.hin N 60 [] fun kf hk=>⟨_,by kernel_rfl,.nil⟩
theorem pe_d_0 (N:Nat) (db n:Nat) (cap:Option Nat) (H:Heap) (x:Nat) (a:Nat) (b:Nat) (p:Nat) (i:Nat) (j:Nat) {a0:HV} {v0:HV} {a1:HV} {v1:HV} {c0:Int} {H0:Heap} (g0:(i:Int) ≤ (j:Int)) (g1:idxV Tp 35 (.c db n cap) (.i (a:Int))=some (a0)) (g2:loadV Tp H 22 (a0)=some (v0)) (g3:idxV Tp 35 (.c db n cap) (.i (i:Int))=some (a1)) (g4:loadV Tp H 22 (a1)=some (v1)) (g5:∀ kf,N ≤ kf → callN Tp polSl (kf+1) 64 [v0,v1] H=some (.i c0,H0)) (g6:c0 < 0):RT polSl 89 (sub [1,1,1,0,0,0,0,0,0,0] B89) (env89 (.c db n cap) (.i (a:Int)) (.i (b:Int)) (.i (p:Int)) (.func 64 [] []) (.i 0) (.i (i:Int)) (.i (j:Int))) H (.exit 2) (env89 (.c db n cap) (.i (a:Int)) (.i (b:Int)) (.i (p:Int)) (.func 64 [] []) (.i 0) (.i (i:Int)) (.i (j:Int))) H0 :=
  RunsTo.hin N 60 [⟨3,2,.bool true,H⟩,⟨3,7,a0,H⟩,⟨3,8,v0,H⟩,⟨3,11,a1,H⟩,⟨3,12,v1,H⟩,⟨3,13,.i c0,H0⟩,⟨3,14,.bool true,H0⟩] fun kf hk=>⟨_,by kernel_rfl,(oB H (decide_eq_true g0) (oP H g1 (oP H g2 (oP H g3 (oP H g4 (oC (g5 kf (by omega)) (oB H0 (decide_eq_true g6) .nil)))))))⟩
theorem pe_d_1 (N:Nat) (db n:Nat) (cap:Option Nat) (H:Heap) (x:Nat) (a:Nat) (b:Nat) (p:Nat) (i:Nat) (j:Nat) {a0:HV} {v0:HV} {a1:HV} {v1:HV} {c0:Int} {H0:Heap} (g0:(i:Int) ≤ (j:Int)) (g1:idxV Tp 35 (.c db n cap) (.i (a:Int))=some (a0)) (g2:loadV Tp H 22 (a0)=some (v0)) (g3:idxV Tp 35 (.c db n cap) (.i (i:Int))=some (a1)) (g4:loadV Tp H 22 (a1)=some (v1)) (g5:∀ kf,N ≤ kf → callN Tp polSl (kf+1) 64 [v0,v1] H=some (.i c0,H0)) (g6:¬ (c0 < 0)):RT polSl 89 (sub [1,1,1,0,0,0,0,0,0,0] B89) (env89 (.c db n cap) (.i (a:Int)) (.i (b:Int)) (.i (p:Int)) (.func 64 [] []) (.i 0) (.i (i:Int)) (.i (j:Int))) H .normal (env89 (.c db n cap) (.i (a:Int)) (.i (b:Int)) (.i (p:Int)) (.func 64 [] []) (.i 0) (.i (IntKind.i64.wrap ((i:Int)+1))) (.i (j:Int))) H0 :=
  RunsTo.hin N 60 [⟨3,2,.bool true,H⟩,⟨3,7,a0,H⟩,⟨3,8,v0,H⟩,⟨3,11,a1,H⟩,⟨3,12,v1,H⟩,⟨3,13,.i c0,H0⟩,⟨3,14,.bool false,H0⟩] fun kf hk=>⟨_,by kernel_rfl,(oB H (decide_eq_true g0) (oP H g1 (oP H g2 (oP H g3 (oP H g4 (oC (g5 kf (by omega)) (oB H0 (decide_eq_false g6) .nil)))))))⟩
theorem pe_d_2 (N:Nat) (db n:Nat) (cap:Option Nat) (H:Heap) (x:Nat) (a:Nat) (b:Nat) (p:Nat) (i:Nat) (j:Nat)(g0:¬ ((i:Int) ≤ (j:Int))):RT polSl 89 (sub [1,1,1,0,0,0,0,0,0,0] B89) (env89 (.c db n cap) (.i (a:Int)) (.i (b:Int)) (.i (p:Int)) (.func 64 [] []) (.i 0) (.i (i:Int)) (.i (j:Int))) H (.exit 2) (env89 (.c db n cap) (.i (a:Int)) (.i (b:Int)) (.i (p:Int)) (.func 64 [] []) (.i 0) (.i (i:Int)) (.i (j:Int))) H :=
  RunsTo.hin N 60 [⟨3,2,.bool false,H⟩] fun kf hk=>⟨_,by kernel_rfl,(oB H (decide_eq_false g0) .nil)⟩
theorem pe_e_0 (N:Nat) (db n:Nat) (cap:Option Nat) (H:Heap) (x:Nat) (a:Nat) (b:Nat) (p:Nat) (i:Nat) (j:Nat) {a0:HV} {v0:HV} {a1:HV} {v1:HV} {c0:Int} {H0:Heap} (g0:(i:Int) ≤ (j:Int)) (g1:idxV Tp 35 (.c db n cap) (.i (a:Int))=some (a0)) (g2:loadV Tp H 22 (a0)=some (v0)) (g3:idxV Tp 35 (.c db n cap) (.i (j:Int))=some (a1)) (g4:loadV Tp H 22 (a1)=some (v1)) (g5:∀ kf,N ≤ kf → callN Tp polSl (kf+1) 64 [v0,v1] H=some (.i c0,H0)) (g6:c0 < 0):RT polSl 89 (sub [1,1,1,0,0,0,0,1,0,0,0] B89) (env89 (.c db n cap) (.i (a:Int)) (.i (b:Int)) (.i (p:Int)) (.func 64 [] []) (.i 0) (.i (i:Int)) (.i (j:Int))) H .normal (env89 (.c db n cap) (.i (a:Int)) (.i (b:Int)) (.i (p:Int)) (.func 64 [] []) (.i 0) (.i (i:Int)) (.i (IntKind.i64.wrap ((j:Int) - 1)))) H0 :=
  RunsTo.hin N 60 [⟨5,2,.bool true,H⟩,⟨5,7,a0,H⟩,⟨5,8,v0,H⟩,⟨5,11,a1,H⟩,⟨5,12,v1,H⟩,⟨5,13,.i c0,H0⟩,⟨5,14,.bool true,H0⟩] fun kf hk=>⟨_,by kernel_rfl,(oB H (decide_eq_true g0) (oP H g1 (oP H g2 (oP H g3 (oP H g4 (oC (g5 kf (by omega)) (oB H0 (decide_eq_true g6) .nil)))))))⟩
theorem pe_e_1 (N:Nat) (db n:Nat) (cap:Option Nat) (H:Heap) (x:Nat) (a:Nat) (b:Nat) (p:Nat) (i:Nat) (j:Nat) {a0:HV} {v0:HV} {a1:HV} {v1:HV} {c0:Int} {H0:Heap} (g0:(i:Int) ≤ (j:Int)) (g1:idxV Tp 35 (.c db n cap) (.i (a:Int))=some (a0)) (g2:loadV Tp H 22 (a0)=some (v0)) (g3:idxV Tp 35 (.c db n cap) (.i (j:Int))=some (a1)) (g4:loadV Tp H 22 (a1)=some (v1)) (g5:∀ kf,N ≤ kf → callN Tp polSl (kf+1) 64 [v0,v1] H=some (.i c0,H0)) (g6:¬ (c0 < 0)):RT polSl 89 (sub [1,1,1,0,0,0,0,1,0,0,0] B89) (env89 (.c db n cap) (.i (a:Int)) (.i (b:Int)) (.i (p:Int)) (.func 64 [] []) (.i 0) (.i (i:Int)) (.i (j:Int))) H (.exit 4) (env89 (.c db n cap) (.i (a:Int)) (.i (b:Int)) (.i (p:Int)) (.func 64 [] []) (.i 0) (.i (i:Int)) (.i (j:Int))) H0 :=
  RunsTo.hin N 60 [⟨5,2,.bool true,H⟩,⟨5,7,a0,H⟩,⟨5,8,v0,H⟩,⟨5,11,a1,H⟩,⟨5,12,v1,H⟩,⟨5,13,.i c0,H0⟩,⟨5,14,.bool false,H0⟩] fun kf hk=>⟨_,by kernel_rfl,(oB H (decide_eq_true g0) (oP H g1 (oP H g2 (oP H g3 (oP H g4 (oC (g5 kf (by omega)) (oB H0 (decide_eq_false g6) .nil)))))))⟩
theorem pe_e_2 (N:Nat) (db n:Nat) (cap:Option Nat) (H:Heap) (x:Nat) (a:Nat) (b:Nat) (p:Nat) (i:Nat) (j:Nat)(g0:¬ ((i:Int) ≤ (j:Int))):RT polSl 89 (sub [1,1,1,0,0,0,0,1,0,0,0] B89) (env89 (.c db n cap) (.i (a:Int)) (.i (b:Int)) (.i (p:Int)) (.func 64 [] []) (.i 0) (.i (i:Int)) (.i (j:Int))) H (.exit 4) (env89 (.c db n cap) (.i (a:Int)) (.i (b:Int)) (.i (p:Int)) (.func 64 [] []) (.i 0) (.i (i:Int)) (.i (j:Int))) H :=
  RunsTo.hin N 60 [⟨5,2,.bool false,H⟩] fun kf hk=>⟨_,by kernel_rfl,(oB H (decide_eq_false g0) .nil)⟩
theorem pe_f_0 (N:Nat) (db n:Nat) (cap:Option Nat) (H:Heap) (x:Nat) (a:Nat) (b:Nat) (p:Nat) (i:Nat) (j:Nat)(g0:(j:Int) < (i:Int)):RT polSl 89 (sub [1,1,1,0,0,0,0,1,1] B89) (env89 (.c db n cap) (.i (a:Int)) (.i (b:Int)) (.i (p:Int)) (.func 64 [] []) (.i 0) (.i (i:Int)) (.i (j:Int))) H (.exit 0) (env89 (.c db n cap) (.i (a:Int)) (.i (b:Int)) (.i (p:Int)) (.func 64 [] []) (.i 0) (.i (i:Int)) (.i (j:Int))) H :=
  RunsTo.hin N 60 [⟨7,2,.bool true,H⟩] fun kf hk=>⟨_,by kernel_rfl,(oB H (decide_eq_true g0) .nil)⟩
theorem pe_f_1 (N:Nat) (db n:Nat) (cap:Option Nat) (H:Heap) (x:Nat) (a:Nat) (b:Nat) (p:Nat) (i:Nat) (j:Nat) {a0:HV} {v0:HV} {a1:HV} {v1:HV} {a2:HV} {H0:Heap} {a3:HV} {H1:Heap} (g0:¬ ((j:Int) < (i:Int))) (g1:idxV Tp 35 (.c db n cap) (.i (j:Int))=some (a0)) (g2:loadV Tp H 22 (a0)=some (v0)) (g3:idxV Tp 35 (.c db n cap) (.i (i:Int))=some (a1)) (g4:loadV Tp H 22 (a1)=some (v1)) (g5:idxV Tp 35 (.c db n cap) (.i (i:Int))=some (a2)) (g6:storeV Tp H 22 (a2) (v0)=some H0) (g7:idxV Tp 35 (.c db n cap) (.i (j:Int))=some (a3)) (g8:storeV Tp H0 22 (a3) (v1)=some H1):RT polSl 89 (sub [1,1,1,0,0,0,0,1,1] B89) (env89 (.c db n cap) (.i (a:Int)) (.i (b:Int)) (.i (p:Int)) (.func 64 [] []) (.i 0) (.i (i:Int)) (.i (j:Int))) H .normal (env89 (.c db n cap) (.i (a:Int)) (.i (b:Int)) (.i (p:Int)) (.func 64 [] []) (.i 0) (.i (IntKind.i64.wrap ((i:Int)+1))) (.i (IntKind.i64.wrap ((j:Int) - 1)))) H1 :=
  RunsTo.hin N 60 [⟨7,2,.bool false,H⟩,⟨8,6,a0,H⟩,⟨8,7,v0,H⟩,⟨8,10,a1,H⟩,⟨8,11,v1,H⟩,⟨8,12,a2,H⟩,⟨8,13,.tuple [],H0⟩,⟨8,14,a3,H0⟩,⟨8,15,.tuple [],H1⟩] fun kf hk=>⟨_,by kernel_rfl,(oB H (decide_eq_false g0) (oP H g1 (oP H g2 (oP H g3 (oP H g4 (oP H g5 (oS g6 (oP H0 g7 (oS g8 .nil)))))))))⟩
theorem pe_g_0 (N:Nat) (db n:Nat) (cap:Option Nat) (H:Heap) (x:Nat) (a:Nat) (b:Nat) (p:Nat) (i:Nat) (j:Nat):RT polSl 89 (sub [1,1,1,1] B89) (env89 (.c db n cap) (.i (a:Int)) (.i (b:Int)) (.i (p:Int)) (.func 64 [] []) (.i 0) (.i (i:Int)) (.i (j:Int))) H .ret (env89 (.c db n cap) (.i (a:Int)) (.i (b:Int)) (.i (p:Int)) (.func 64 [] []) (.i (i:Int)) (.i (i:Int)) (.i (j:Int))) H :=
  RunsTo.hin N 60 [] fun kf hk=>⟨_,by kernel_rfl,.nil⟩
noncomputable def B88:Code:=Try.f88.body.getD .skip
abbrev env88 (v0 v1 v2 v3 v8 v9 v10 v11 v12:HV):Env:=[(0,v0),(1,v1),(2,v2),(3,v3),(8,v8),(9,v9),(10,v10),(11,v11),(12,v12)]
theorem pi_a_0 (N:Nat) (db n:Nat) (cap:Option Nat) (H:Heap) (x:Nat) (a:Nat) (b:Nat):RT polSl 88 (sub [0] B88) [(0,.c db n cap),(1,.i (a:Int)),(2,.i (b:Int)),(3,.func 64 [] [])] H .normal (env88 (.c db n cap) (.i (a:Int)) (.i (b:Int)) (.func 64 [] []) (.bool false) Ud Ud Ud Ud) H :=
  RunsTo.hin N 60 [] fun kf hk=>⟨_,by kernel_rfl,.nil⟩
theorem pi_b_0 (N:Nat) (db n:Nat) (cap:Option Nat) (H:Heap) (x:Nat) (a:Nat) (b:Nat) {y9 y10 y11 y12:HV}:RT polSl 88 (sub [1,0] B88) (env88 (.c db n cap) (.i (a:Int)) (.i (b:Int)) (.func 64 [] []) (.bool false) y9 y10 y11 y12) H .normal (env88 (.c db n cap) (.i (a:Int)) (.i (b:Int)) (.func 64 [] []) (.bool false) (.i (IntKind.i64.wrap ((a:Int)+1))) y10 y11 y12) H :=
  RunsTo.hin N 60 [] fun kf hk=>⟨_,by kernel_rfl,.nil⟩
theorem pi_c_0 (N:Nat) (db n:Nat) (cap:Option Nat) (H:Heap) (x:Nat) (a:Nat) (b:Nat) (i:Nat) {y10 y11 y12:HV}:RT polSl 88 (sub [1,1,0,0] B88) (env88 (.c db n cap) (.i (a:Int)) (.i (b:Int)) (.func 64 [] []) (.bool false) (.i (i:Int)) y10 y11 y12) H .normal (env88 (.c db n cap) (.i (a:Int)) (.i (b:Int)) (.func 64 [] []) (.bool false) (.i (i:Int)) (.i 0) y11 y12) H :=
  RunsTo.hin N 60 [] fun kf hk=>⟨_,by kernel_rfl,.nil⟩
theorem pi_d_0 (N:Nat) (db n:Nat) (cap:Option Nat) (H:Heap) (x:Nat) (a:Nat) (b:Nat) (i:Nat) (k:Nat) {y11 y12:HV}(g0:(k:Int) < 5):RT polSl 88 (sub [1,1,0,1,0,0,0] B88) (env88 (.c db n cap) (.i (a:Int)) (.i (b:Int)) (.func 64 [] []) (.bool false) (.i (i:Int)) (.i (k:Int)) y11 y12) H .normal (env88 (.c db n cap) (.i (a:Int)) (.i (b:Int)) (.func 64 [] []) (.bool false) (.i (i:Int)) (.i (k:Int)) y11 y12) H :=
  RunsTo.hin N 60 [⟨3,1,.bool true,H⟩] fun kf hk=>⟨_,by kernel_rfl,(oB H (decide_eq_true g0) .nil)⟩
theorem pi_d_1 (N:Nat) (db n:Nat) (cap:Option Nat) (H:Heap) (x:Nat) (a:Nat) (b:Nat) (i:Nat) (k:Nat) {y11 y12:HV}(g0:¬ ((k:Int) < 5)):RT polSl 88 (sub [1,1,0,1,0,0,0] B88) (env88 (.c db n cap) (.i (a:Int)) (.i (b:Int)) (.func 64 [] []) (.bool false) (.i (i:Int)) (.i (k:Int)) y11 y12) H (.exit 0) (env88 (.c db n cap) (.i (a:Int)) (.i (b:Int)) (.func 64 [] []) (.bool false) (.i (i:Int)) (.i (k:Int)) y11 y12) H :=
  RunsTo.hin N 60 [⟨3,1,.bool false,H⟩] fun kf hk=>⟨_,by kernel_rfl,(oB H (decide_eq_false g0) .nil)⟩
theorem pi_e_0 (N:Nat) (db n:Nat) (cap:Option Nat) (H:Heap) (x:Nat) (a:Nat) (b:Nat) (i:Nat) (k:Nat) {y11 y12:HV} {a0:HV} {v0:HV} {a1:HV} {v1:HV} {c0:Int} {H0:Heap} (g0:(i:Int) < (b:Int)) (g1:idxV Tp 35 (.c db n cap) (.i (i:Int))=some (a0)) (g2:loadV Tp H 22 (a0)=some (v0)) (g3:idxV Tp 35 (.c db n cap) (.i (IntKind.i64.wrap ((i:Int) - 1)))=some (a1)) (g4:loadV Tp H 22 (a1)=some (v1)) (g5:∀ kf,N ≤ kf → callN Tp polSl (kf+1) 64 [v0,v1] H=some (.i c0,H0)) (g6:c0 < 0):RT polSl 88 (sub [1,1,0,1,0,0,1,0,0,0,0,0] B88) (env88 (.c db n cap) (.i (a:Int)) (.i (b:Int)) (.func 64 [] []) (.bool false) (.i (i:Int)) (.i (k:Int)) y11 y12) H (.exit 2) (env88 (.c db n cap) (.i (a:Int)) (.i (b:Int)) (.func 64 [] []) (.bool false) (.i (i:Int)) (.i (k:Int)) y11 y12) H0 :=
  RunsTo.hin N 60 [⟨5,2,.bool true,H⟩,⟨5,7,a0,H⟩,⟨5,8,v0,H⟩,⟨5,12,a1,H⟩,⟨5,13,v1,H⟩,⟨5,14,.i c0,H0⟩,⟨5,15,.bool true,H0⟩] fun kf hk=>⟨_,by kernel_rfl,(oB H (decide_eq_true g0) (oP H g1 (oP H g2 (oP H g3 (oP H g4 (oC (g5 kf (by omega)) (oB H0 (decide_eq_true g6) .nil)))))))⟩
theorem pi_e_1 (N:Nat) (db n:Nat) (cap:Option Nat) (H:Heap) (x:Nat) (a:Nat) (b:Nat) (i:Nat) (k:Nat) {y11 y12:HV} {a0:HV} {v0:HV} {a1:HV} {v1:HV} {c0:Int} {H0:Heap} (g0:(i:Int) < (b:Int)) (g1:idxV Tp 35 (.c db n cap) (.i (i:Int))=some (a0)) (g2:loadV Tp H 22 (a0)=some (v0)) (g3:idxV Tp 35 (.c db n cap) (.i (IntKind.i64.wrap ((i:Int) - 1)))=some (a1)) (g4:loadV Tp H 22 (a1)=some (v1)) (g5:∀ kf,N ≤ kf → callN Tp polSl (kf+1) 64 [v0,v1] H=some (.i c0,H0)) (g6:¬ (c0 < 0)):RT polSl 88 (sub [1,1,0,1,0,0,1,0,0,0,0,0] B88) (env88 (.c db n cap) (.i (a:Int)) (.i (b:Int)) (.func 64 [] []) (.bool false) (.i (i:Int)) (.i (k:Int)) y11 y12) H .normal (env88 (.c db n cap) (.i (a:Int)) (.i (b:Int)) (.func 64 [] []) (.bool false) (.i (IntKind.i64.wrap ((i:Int)+1))) (.i (k:Int)) y11 y12) H0 :=
  RunsTo.hin N 60 [⟨5,2,.bool true,H⟩,⟨5,7,a0,H⟩,⟨5,8,v0,H⟩,⟨5,12,a1,H⟩,⟨5,13,v1,H⟩,⟨5,14,.i c0,H0⟩,⟨5,15,.bool false,H0⟩] fun kf hk=>⟨_,by kernel_rfl,(oB H (decide_eq_true g0) (oP H g1 (oP H g2 (oP H g3 (oP H g4 (oC (g5 kf (by omega)) (oB H0 (decide_eq_false g6) .nil)))))))⟩
theorem pi_e_2 (N:Nat) (db n:Nat) (cap:Option Nat) (H:Heap) (x:Nat) (a:Nat) (b:Nat) (i:Nat) (k:Nat) {y11 y12:HV}(g0:¬ ((i:Int) < (b:Int))):RT polSl 88 (sub [1,1,0,1,0,0,1,0,0,0,0,0] B88) (env88 (.c db n cap) (.i (a:Int)) (.i (b:Int)) (.func 64 [] []) (.bool false) (.i (i:Int)) (.i (k:Int)) y11 y12) H (.exit 2) (env88 (.c db n cap) (.i (a:Int)) (.i (b:Int)) (.func 64 [] []) (.bool false) (.i (i:Int)) (.i (k:Int)) y11 y12) H :=
  RunsTo.hin N 60 [⟨5,2,.bool false,H⟩] fun kf hk=>⟨_,by kernel_rfl,(oB H (decide_eq_false g0) .nil)⟩
theorem pi_f_0 (N:Nat) (db n:Nat) (cap:Option Nat) (H:Heap) (x:Nat) (a:Nat) (b:Nat) (i:Nat) (k:Nat) {y11 y12:HV}(g0:(i:Int)=(b:Int)):RT polSl 88 (sub [1,1,0,1,0,0,1,0,0,1,0] B88) (env88 (.c db n cap) (.i (a:Int)) (.i (b:Int)) (.func 64 [] []) (.bool false) (.i (i:Int)) (.i (k:Int)) y11 y12) H .ret (env88 (.c db n cap) (.i (a:Int)) (.i (b:Int)) (.func 64 [] []) (.bool true) (.i (i:Int)) (.i (k:Int)) y11 y12) H :=
  RunsTo.hin N 60 [⟨7,2,.bool true,H⟩] fun kf hk=>⟨_,by kernel_rfl,(oB H (decide_eq_true g0) .nil)⟩
theorem pi_f_1 (N:Nat) (db n:Nat) (cap:Option Nat) (H:Heap) (x:Nat) (a:Nat) (b:Nat) (i:Nat) (k:Nat) {y11 y12:HV}(g0:¬ ((i:Int)=(b:Int))):RT polSl 88 (sub [1,1,0,1,0,0,1,0,0,1,0] B88) (env88 (.c db n cap) (.i (a:Int)) (.i (b:Int)) (.func 64 [] []) (.bool false) (.i (i:Int)) (.i (k:Int)) y11 y12) H .normal (env88 (.c db n cap) (.i (a:Int)) (.i (b:Int)) (.func 64 [] []) (.bool false) (.i (i:Int)) (.i (k:Int)) y11 y12) H :=
  RunsTo.hin N 60 [⟨7,2,.bool false,H⟩] fun kf hk=>⟨_,by kernel_rfl,(oB H (decide_eq_false g0) .nil)⟩
theorem pi_g_0 (N:Nat) (db n:Nat) (cap:Option Nat) (H:Heap) (x:Nat) (a:Nat) (b:Nat) (i:Nat) (k:Nat) {y11 y12:HV}(g0:IntKind.i64.wrap ((b:Int) - (a:Int)) < 50):RT polSl 88 (sub [1,1,0,1,0,0,1,0,0,1,1,0] B88) (env88 (.c db n cap) (.i (a:Int)) (.i (b:Int)) (.func 64 [] []) (.bool false) (.i (i:Int)) (.i (k:Int)) y11 y12) H .ret (env88 (.c db n cap) (.i (a:Int)) (.i (b:Int)) (.func 64 [] []) (.bool false) (.i (i:Int)) (.i (k:Int)) y11 y12) H :=
  RunsTo.hin N 60 [⟨9,3,.bool true,H⟩] fun kf hk=>⟨_,by kernel_rfl,(oB H (decide_eq_true g0) .nil)⟩
theorem pi_g_1 (N:Nat) (db n:Nat) (cap:Option Nat) (H:Heap) (x:Nat) (a:Nat) (b:Nat) (i:Nat) (k:Nat) {y11 y12:HV}(g0:¬ (IntKind.i64.wrap ((b:Int) - (a:Int)) < 50)):RT polSl 88 (sub [1,1,0,1,0,0,1,0,0,1,1,0] B88) (env88 (.c db n cap) (.i (a:Int)) (.i (b:Int)) (.func 64 [] []) (.bool false) (.i (i:Int)) (.i (k:Int)) y11 y12) H .normal (env88 (.c db n cap) (.i (a:Int)) (.i (b:Int)) (.func 64 [] []) (.bool false) (.i (i:Int)) (.i (k:Int)) y11 y12) H :=
  RunsTo.hin N 60 [⟨9,3,.bool false,H⟩] fun kf hk=>⟨_,by kernel_rfl,(oB H (decide_eq_false g0) .nil)⟩
theorem pi_h_0 (N:Nat) (db n:Nat) (cap:Option Nat) (H:Heap) (x:Nat) (a:Nat) (b:Nat) (i:Nat) (k:Nat) {y11 y12:HV} {a0:HV} {v0:HV} {a1:HV} {v1:HV} {a2:HV} {H0:Heap} {a3:HV} {H1:Heap} (g0:idxV Tp 35 (.c db n cap) (.i (IntKind.i64.wrap ((i:Int) - 1)))=some (a0)) (g1:loadV Tp H 22 (a0)=some (v0)) (g2:idxV Tp 35 (.c db n cap) (.i (i:Int))=some (a1)) (g3:loadV Tp H 22 (a1)=some (v1)) (g4:idxV Tp 35 (.c db n cap) (.i (i:Int))=some (a2)) (g5:storeV Tp H 22 (a2) (v0)=some H0) (g6:idxV Tp 35 (.c db n cap) (.i (IntKind.i64.wrap ((i:Int) - 1)))=some (a3)) (g7:storeV Tp H0 22 (a3) (v1)=some H1):RT polSl 88 (sub [1,1,0,1,0,0,1,0,0,1,1,1,0] B88) (env88 (.c db n cap) (.i (a:Int)) (.i (b:Int)) (.func 64 [] []) (.bool false) (.i (i:Int)) (.i (k:Int)) y11 y12) H .normal (env88 (.c db n cap) (.i (a:Int)) (.i (b:Int)) (.func 64 [] []) (.bool false) (.i (i:Int)) (.i (k:Int)) y11 y12) H1 :=
  RunsTo.hin N 60 [⟨11,8,a0,H⟩,⟨11,9,v0,H⟩,⟨11,12,a1,H⟩,⟨11,13,v1,H⟩,⟨11,14,a2,H⟩,⟨11,15,.tuple [],H0⟩,⟨11,16,a3,H0⟩,⟨11,17,.tuple [],H1⟩] fun kf hk=>⟨_,by kernel_rfl,(oP H g0 (oP H g1 (oP H g2 (oP H g3 (oP H g4 (oS g5 (oP H0 g6 (oS g7 .nil))))))))⟩
theorem pi_i_0 (N:Nat) (db n:Nat) (cap:Option Nat) (H:Heap) (x:Nat) (a:Nat) (b:Nat) (i:Nat) (k:Nat) {y11 y12:HV}(g0:2 ≤ IntKind.i64.wrap ((i:Int) - (a:Int))):RunsTo Tp polSl 88 (sub [1,1,0,1,0,0,1,0,0,1,1,1,1,0,0] B88) (env88 (.c db n cap) (.i (a:Int)) (.i (b:Int)) (.func 64 [] []) (.bool false) (.i (i:Int)) (.i (k:Int)) y11 y12) H .normal [0,1,2,3,8,9,10,11,12,65] [(0,.c db n cap),(1,.i (a:Int)),(2,.i (b:Int)),(3,.func 64 [] []),(8,.bool false),(9,.i (i:Int)),(10,.i (k:Int)),(11,y11),(12,y12),(65,.bool true)] H :=
  RunsTo.hin N 60 [⟨12,3,.bool true,H⟩] fun kf hk=>⟨_,by kernel_rfl,(oB H (decide_eq_true g0) .nil)⟩
theorem pi_i_1 (N:Nat) (db n:Nat) (cap:Option Nat) (H:Heap) (x:Nat) (a:Nat) (b:Nat) (i:Nat) (k:Nat) {y11 y12:HV}(g0:¬ (2 ≤ IntKind.i64.wrap ((i:Int) - (a:Int)))):RunsTo Tp polSl 88 (sub [1,1,0,1,0,0,1,0,0,1,1,1,1,0,0] B88) (env88 (.c db n cap) (.i (a:Int)) (.i (b:Int)) (.func 64 [] []) (.bool false) (.i (i:Int)) (.i (k:Int)) y11 y12) H .normal [0,1,2,3,8,9,10,11,12,65] [(0,.c db n cap),(1,.i (a:Int)),(2,.i (b:Int)),(3,.func 64 [] []),(8,.bool false),(9,.i (i:Int)),(10,.i (k:Int)),(11,y11),(12,y12),(65,.bool false)] H :=
  RunsTo.hin N 60 [⟨12,3,.bool false,H⟩] fun kf hk=>⟨_,by kernel_rfl,(oB H (decide_eq_false g0) .nil)⟩
theorem pi_j_0 (N:Nat) (db n:Nat) (cap:Option Nat) (H:Heap) (x:Nat) (a:Nat) (b:Nat) (i:Nat) (k:Nat) {y11 y12:HV}:RT polSl 88 (sub [1,1,0,1,0,0,1,0,0,1,1,1,1,0,1,0,0] B88) (env88 (.c db n cap) (.i (a:Int)) (.i (b:Int)) (.func 64 [] []) (.bool false) (.i (i:Int)) (.i (k:Int)) y11 y12) H .normal (env88 (.c db n cap) (.i (a:Int)) (.i (b:Int)) (.func 64 [] []) (.bool false) (.i (i:Int)) (.i (k:Int)) (.i (IntKind.i64.wrap ((i:Int) - 1))) y12) H :=
  RunsTo.hin N 60 [] fun kf hk=>⟨_,by kernel_rfl,.nil⟩
theorem pi_k_0 (N:Nat) (db n:Nat) (cap:Option Nat) (H:Heap) (x:Nat) (a:Nat) (b:Nat) (i:Nat) (k:Nat) (j:Nat) {y12:HV} {a0:HV} {v0:HV} {a1:HV} {v1:HV} {c0:Int} {H0:Heap} {a2:HV} {v2:HV} {a3:HV} {v3:HV} {a4:HV} {H1:Heap} {a5:HV} {H2:Heap} (g0:1 ≤ (j:Int)) (g1:idxV Tp 35 (.c db n cap) (.i (j:Int))=some (a0)) (g2:loadV Tp H 22 (a0)=some (v0)) (g3:idxV Tp 35 (.c db n cap) (.i (IntKind.i64.wrap ((j:Int) - 1)))=some (a1)) (g4:loadV Tp H 22 (a1)=some (v1)) (g5:∀ kf,N ≤ kf → callN Tp polSl (kf+1) 64 [v0,v1] H=some (.i c0,H0)) (g6:c0 < 0) (g7:idxV Tp 35 (.c db n cap) (.i (IntKind.i64.wrap ((j:Int) - 1)))=some (a2)) (g8:loadV Tp H0 22 (a2)=some (v2)) (g9:idxV Tp 35 (.c db n cap) (.i (j:Int))=some (a3)) (g10:loadV Tp H0 22 (a3)=some (v3)) (g11:idxV Tp 35 (.c db n cap) (.i (j:Int))=some (a4)) (g12:storeV Tp H0 22 (a4) (v2)=some H1) (g13:idxV Tp 35 (.c db n cap) (.i (IntKind.i64.wrap ((j:Int) - 1)))=some (a5)) (g14:storeV Tp H1 22 (a5) (v3)=some H2):RT polSl 88 (sub [1,1,0,1,0,0,1,0,0,1,1,1,1,0,1,0,1,0,0] B88) (env88 (.c db n cap) (.i (a:Int)) (.i (b:Int)) (.func 64 [] []) (.bool false) (.i (i:Int)) (.i (k:Int)) (.i (j:Int)) y12) H .normal (env88 (.c db n cap) (.i (a:Int)) (.i (b:Int)) (.func 64 [] []) (.bool false) (.i (i:Int)) (.i (k:Int)) (.i (IntKind.i64.wrap ((j:Int) - 1))) y12) H2 :=
  RunsTo.hin N 60 [⟨14,1,.bool true,H⟩,⟨16,3,a0,H⟩,⟨16,4,v0,H⟩,⟨16,8,a1,H⟩,⟨16,9,v1,H⟩,⟨16,10,.i c0,H0⟩,⟨16,11,.bool true,H0⟩,⟨17,8,a2,H0⟩,⟨17,9,v2,H0⟩,⟨17,12,a3,H0⟩,⟨17,13,v3,H0⟩,⟨17,14,a4,H0⟩,⟨17,15,.tuple [],H1⟩,⟨17,16,a5,H1⟩,⟨17,17,.tuple [],H2⟩] fun kf hk=>⟨_,by kernel_rfl,(oB H (decide_eq_true g0) (oP H g1 (oP H g2 (oP H g3 (oP H g4 (oC (g5 kf (by omega)) (oB H0 (decide_eq_true g6) (oP H0 g7 (oP H0 g8 (oP H0 g9 (oP H0 g10 (oP H0 g11 (oS g12 (oP H1 g13 (oS g14 .nil)))))))))))))))⟩
theorem pi_k_1 (N:Nat) (db n:Nat) (cap:Option Nat) (H:Heap) (x:Nat) (a:Nat) (b:Nat) (i:Nat) (k:Nat) (j:Nat) {y12:HV} {a0:HV} {v0:HV} {a1:HV} {v1:HV} {c0:Int} {H0:Heap} (g0:1 ≤ (j:Int)) (g1:idxV Tp 35 (.c db n cap) (.i (j:Int))=some (a0)) (g2:loadV Tp H 22 (a0)=some (v0)) (g3:idxV Tp 35 (.c db n cap) (.i (IntKind.i64.wrap ((j:Int) - 1)))=some (a1)) (g4:loadV Tp H 22 (a1)=some (v1)) (g5:∀ kf,N ≤ kf → callN Tp polSl (kf+1) 64 [v0,v1] H=some (.i c0,H0)) (g6:¬ (c0 < 0)):RT polSl 88 (sub [1,1,0,1,0,0,1,0,0,1,1,1,1,0,1,0,1,0,0] B88) (env88 (.c db n cap) (.i (a:Int)) (.i (b:Int)) (.func 64 [] []) (.bool false) (.i (i:Int)) (.i (k:Int)) (.i (j:Int)) y12) H (.exit 4) (env88 (.c db n cap) (.i (a:Int)) (.i (b:Int)) (.func 64 [] []) (.bool false) (.i (i:Int)) (.i (k:Int)) (.i (j:Int)) y12) H0 :=
  RunsTo.hin N 60 [⟨14,1,.bool true,H⟩,⟨16,3,a0,H⟩,⟨16,4,v0,H⟩,⟨16,8,a1,H⟩,⟨16,9,v1,H⟩,⟨16,10,.i c0,H0⟩,⟨16,11,.bool false,H0⟩] fun kf hk=>⟨_,by kernel_rfl,(oB H (decide_eq_true g0) (oP H g1 (oP H g2 (oP H g3 (oP H g4 (oC (g5 kf (by omega)) (oB H0 (decide_eq_false g6) .nil)))))))⟩
theorem pi_k_2 (N:Nat) (db n:Nat) (cap:Option Nat) (H:Heap) (x:Nat) (a:Nat) (b:Nat) (i:Nat) (k:Nat) (j:Nat) {y12:HV}(g0:¬ (1 ≤ (j:Int))):RT polSl 88 (sub [1,1,0,1,0,0,1,0,0,1,1,1,1,0,1,0,1,0,0] B88) (env88 (.c db n cap) (.i (a:Int)) (.i (b:Int)) (.func 64 [] []) (.bool false) (.i (i:Int)) (.i (k:Int)) (.i (j:Int)) y12) H (.exit 4) (env88 (.c db n cap) (.i (a:Int)) (.i (b:Int)) (.func 64 [] []) (.bool false) (.i (i:Int)) (.i (k:Int)) (.i (j:Int)) y12) H :=
  RunsTo.hin N 60 [⟨14,1,.bool false,H⟩] fun kf hk=>⟨_,by kernel_rfl,(oB H (decide_eq_false g0) .nil)⟩
theorem pi_l_0 (N:Nat) (db n:Nat) (cap:Option Nat) (H:Heap) (x:Nat) (a:Nat) (b:Nat) (i:Nat) (k:Nat) {y11 y12:HV}(g0:2 ≤ IntKind.i64.wrap ((b:Int) - (i:Int))):RunsTo Tp polSl 88 (sub [1,1,0,1,0,0,1,0,0,1,1,1,1,1,0] B88) (env88 (.c db n cap) (.i (a:Int)) (.i (b:Int)) (.func 64 [] []) (.bool false) (.i (i:Int)) (.i (k:Int)) y11 y12) H .normal [0,1,2,3,8,9,10,11,12,104] [(0,.c db n cap),(1,.i (a:Int)),(2,.i (b:Int)),(3,.func 64 [] []),(8,.bool false),(9,.i (i:Int)),(10,.i (k:Int)),(11,y11),(12,y12),(104,.bool true)] H :=
  RunsTo.hin N 60 [⟨18,3,.bool true,H⟩] fun kf hk=>⟨_,by kernel_rfl,(oB H (decide_eq_true g0) .nil)⟩
theorem pi_l_1 (N:Nat) (db n:Nat) (cap:Option Nat) (H:Heap) (x:Nat) (a:Nat) (b:Nat) (i:Nat) (k:Nat) {y11 y12:HV}(g0:¬ (2 ≤ IntKind.i64.wrap ((b:Int) - (i:Int)))):RunsTo Tp polSl 88 (sub [1,1,0,1,0,0,1,0,0,1,1,1,1,1,0] B88) (env88 (.c db n cap) (.i (a:Int)) (.i (b:Int)) (.func 64 [] []) (.bool false) (.i (i:Int)) (.i (k:Int)) y11 y12) H .normal [0,1,2,3,8,9,10,11,12,104] [(0,.c db n cap),(1,.i (a:Int)),(2,.i (b:Int)),(3,.func 64 [] []),(8,.bool false),(9,.i (i:Int)),(10,.i (k:Int)),(11,y11),(12,y12),(104,.bool false)] H :=
  RunsTo.hin N 60 [⟨18,3,.bool false,H⟩] fun kf hk=>⟨_,by kernel_rfl,(oB H (decide_eq_false g0) .nil)⟩
theorem pi_m_0 (N:Nat) (db n:Nat) (cap:Option Nat) (H:Heap) (x:Nat) (a:Nat) (b:Nat) (i:Nat) (k:Nat) {y11 y12:HV}:RT polSl 88 (sub [1,1,0,1,0,0,1,0,0,1,1,1,1,1,1,0,0] B88) (env88 (.c db n cap) (.i (a:Int)) (.i (b:Int)) (.func 64 [] []) (.bool false) (.i (i:Int)) (.i (k:Int)) y11 y12) H .normal (env88 (.c db n cap) (.i (a:Int)) (.i (b:Int)) (.func 64 [] []) (.bool false) (.i (i:Int)) (.i (k:Int)) y11 (.i (IntKind.i64.wrap ((i:Int)+1)))) H :=
  RunsTo.hin N 60 [] fun kf hk=>⟨_,by kernel_rfl,.nil⟩
theorem pi_n_0 (N:Nat) (db n:Nat) (cap:Option Nat) (H:Heap) (x:Nat) (a:Nat) (b:Nat) (i:Nat) (k:Nat) (w:Nat) {y11:HV} {a0:HV} {v0:HV} {a1:HV} {v1:HV} {c0:Int} {H0:Heap} {a2:HV} {v2:HV} {a3:HV} {v3:HV} {a4:HV} {H1:Heap} {a5:HV} {H2:Heap} (g0:(w:Int) < (b:Int)) (g1:idxV Tp 35 (.c db n cap) (.i (w:Int))=some (a0)) (g2:loadV Tp H 22 (a0)=some (v0)) (g3:idxV Tp 35 (.c db n cap) (.i (IntKind.i64.wrap ((w:Int) - 1)))=some (a1)) (g4:loadV Tp H 22 (a1)=some (v1)) (g5:∀ kf,N ≤ kf → callN Tp polSl (kf+1) 64 [v0,v1] H=some (.i c0,H0)) (g6:c0 < 0) (g7:idxV Tp 35 (.c db n cap) (.i (IntKind.i64.wrap ((w:Int) - 1)))=some (a2)) (g8:loadV Tp H0 22 (a2)=some (v2)) (g9:idxV Tp 35 (.c db n cap) (.i (w:Int))=some (a3)) (g10:loadV Tp H0 22 (a3)=some (v3)) (g11:idxV Tp 35 (.c db n cap) (.i (w:Int))=some (a4)) (g12:storeV Tp H0 22 (a4) (v2)=some H1) (g13:idxV Tp 35 (.c db n cap) (.i (IntKind.i64.wrap ((w:Int) - 1)))=some (a5)) (g14:storeV Tp H1 22 (a5) (v3)=some H2):RT polSl 88 (sub [1,1,0,1,0,0,1,0,0,1,1,1,1,1,1,0,1,0,0] B88) (env88 (.c db n cap) (.i (a:Int)) (.i (b:Int)) (.func 64 [] []) (.bool false) (.i (i:Int)) (.i (k:Int)) y11 (.i (w:Int))) H .normal (env88 (.c db n cap) (.i (a:Int)) (.i (b:Int)) (.func 64 [] []) (.bool false) (.i (i:Int)) (.i (k:Int)) y11 (.i (IntKind.i64.wrap ((w:Int)+1)))) H2 :=
  RunsTo.hin N 60 [⟨20,2,.bool true,H⟩,⟨22,3,a0,H⟩,⟨22,4,v0,H⟩,⟨22,8,a1,H⟩,⟨22,9,v1,H⟩,⟨22,10,.i c0,H0⟩,⟨22,11,.bool true,H0⟩,⟨23,8,a2,H0⟩,⟨23,9,v2,H0⟩,⟨23,12,a3,H0⟩,⟨23,13,v3,H0⟩,⟨23,14,a4,H0⟩,⟨23,15,.tuple [],H1⟩,⟨23,16,a5,H1⟩,⟨23,17,.tuple [],H2⟩] fun kf hk=>⟨_,by kernel_rfl,(oB H (decide_eq_true g0) (oP H g1 (oP H g2 (oP H g3 (oP H g4 (oC (g5 kf (by omega)) (oB H0 (decide_eq_true g6) (oP H0 g7 (oP H0 g8 (oP H0 g9 (oP H0 g10 (oP H0 g11 (oS g12 (oP H1 g13 (oS g14 .nil)))))))))))))))⟩
theorem pi_n_1 (N:Nat) (db n:Nat) (cap:Option Nat) (H:Heap) (x:Nat) (a:Nat) (b:Nat) (i:Nat) (k:Nat) (w:Nat) {y11:HV} {a0:HV} {v0:HV} {a1:HV} {v1:HV} {c0:Int} {H0:Heap} (g0:(w:Int) < (b:Int)) (g1:idxV Tp 35 (.c db n cap) (.i (w:Int))=some (a0)) (g2:loadV Tp H 22 (a0)=some (v0)) (g3:idxV Tp 35 (.c db n cap) (.i (IntKind.i64.wrap ((w:Int) - 1)))=some (a1)) (g4:loadV Tp H 22 (a1)=some (v1)) (g5:∀ kf,N ≤ kf → callN Tp polSl (kf+1) 64 [v0,v1] H=some (.i c0,H0)) (g6:¬ (c0 < 0)):RT polSl 88 (sub [1,1,0,1,0,0,1,0,0,1,1,1,1,1,1,0,1,0,0] B88) (env88 (.c db n cap) (.i (a:Int)) (.i (b:Int)) (.func 64 [] []) (.bool false) (.i (i:Int)) (.i (k:Int)) y11 (.i (w:Int))) H (.exit 6) (env88 (.c db n cap) (.i (a:Int)) (.i (b:Int)) (.func 64 [] []) (.bool false) (.i (i:Int)) (.i (k:Int)) y11 (.i (w:Int))) H0 :=
  RunsTo.hin N 60 [⟨20,2,.bool true,H⟩,⟨22,3,a0,H⟩,⟨22,4,v0,H⟩,⟨22,8,a1,H⟩,⟨22,9,v1,H⟩,⟨22,10,.i c0,H0⟩,⟨22,11,.bool false,H0⟩] fun kf hk=>⟨_,by kernel_rfl,(oB H (decide_eq_true g0) (oP H g1 (oP H g2 (oP H g3 (oP H g4 (oC (g5 kf (by omega)) (oB H0 (decide_eq_false g6) .nil)))))))⟩
theorem pi_n_2 (N:Nat) (db n:Nat) (cap:Option Nat) (H:Heap) (x:Nat) (a:Nat) (b:Nat) (i:Nat) (k:Nat) (w:Nat) {y11:HV}(g0:¬ ((w:Int) < (b:Int))):RT polSl 88 (sub [1,1,0,1,0,0,1,0,0,1,1,1,1,1,1,0,1,0,0] B88) (env88 (.c db n cap) (.i (a:Int)) (.i (b:Int)) (.func 64 [] []) (.bool false) (.i (i:Int)) (.i (k:Int)) y11 (.i (w:Int))) H (.exit 6) (env88 (.c db n cap) (.i (a:Int)) (.i (b:Int)) (.func 64 [] []) (.bool false) (.i (i:Int)) (.i (k:Int)) y11 (.i (w:Int))) H :=
  RunsTo.hin N 60 [⟨20,2,.bool false,H⟩] fun kf hk=>⟨_,by kernel_rfl,(oB H (decide_eq_false g0) .nil)⟩
theorem pi_o_0 (N:Nat) (db n:Nat) (cap:Option Nat) (H:Heap) (x:Nat) (a:Nat) (b:Nat) (i:Nat) (k:Nat) {y11 y12:HV}:RT polSl 88 (sub [1,1,0,1,0,0,1,1] B88) (env88 (.c db n cap) (.i (a:Int)) (.i (b:Int)) (.func 64 [] []) (.bool false) (.i (i:Int)) (.i (k:Int)) y11 y12) H .normal (env88 (.c db n cap) (.i (a:Int)) (.i (b:Int)) (.func 64 [] []) (.bool false) (.i (i:Int)) (.i (IntKind.i64.wrap ((k:Int)+1))) y11 y12) H :=
  RunsTo.hin N 60 [] fun kf hk=>⟨_,by kernel_rfl,.nil⟩
theorem pi_p_0 (N:Nat) (db n:Nat) (cap:Option Nat) (H:Heap) (x:Nat) (a:Nat) (b:Nat) (i:Nat) (k:Nat) {y11 y12:HV}:RT polSl 88 (sub [1,1,1] B88) (env88 (.c db n cap) (.i (a:Int)) (.i (b:Int)) (.func 64 [] []) (.bool false) (.i (i:Int)) (.i (k:Int)) y11 y12) H .ret (env88 (.c db n cap) (.i (a:Int)) (.i (b:Int)) (.func 64 [] []) (.bool false) (.i (i:Int)) (.i (k:Int)) y11 y12) H :=
  RunsTo.hin N 60 [] fun kf hk=>⟨_,by kernel_rfl,.nil⟩
end Go.Proofs.Ytaibmipamkaljaa
end
section
open Go Go.HL Go.HL.So
namespace Go.Proofs.Ytaibmipamkaljaa
set_option linter.unusedSectionVars false
open Go.Proofs.Try renaming prog → Tp
open Go.HL.HV renaming undef → Ud
section
variable {α:Type} [Inhabited α] {enc:α → HV} {lt:α → α → Prop} {dom:α → Prop} {H:Heap} {db n:Nat} {cap:Option Nat}
theorem pt1 (S:So enc lt dom H db n) {T:Heap} (hT:mxs T=0) {a b p j:Nat} {l:List α} (hl:l.length=n) (hD:Dm dom l):∀ (d i:Nat),j+1 - i ≤ d → a < i → i ≤ j+1 → j < n →
    ∃ i':Nat,RT polSl 90 (sub [1,1,1,0,0] B90) (env90 (.sl db 0 n cap n 1) (.int .i64 (a:Int)) (.int .i64 (b:Int)) (.int .i64 (p:Int)) (.func 64 [] []) (.int .i64 0) (.bool false) (.int .i64 (i:Int)) (.int .i64 (j:Int))) (Mm enc H db l T) (.exit 0) (env90 (.sl db 0 n cap n 1) (.int .i64 (a:Int)) (.int .i64 (b:Int)) (.int .i64 (p:Int)) (.func 64 [] []) (.int .i64 0) (.bool false) (.int .i64 (i':Int)) (.int .i64 (j:Int))) (Mm enc H db l T)∧i ≤ i'∧i' ≤ j+1∧(∀ k:Nat,i ≤ k → k < i' → lt (at_ l k) (at_ l a))∧(j < i' ∨ ¬ lt (at_ l i') (at_ l a)):=by
  have hn:=S.nb
  intro d
  induction d with
  | zero =>
    intro i hd hi1 hi2 hj
    exact ⟨i,lpo (pz_d_2 0 db n cap (Mm enc H db l T) 0 a b p i j (by omega)),Nat.le_refl _,by omega,fun k h1 h2=>by omega,.inl (by omega)⟩
  | succ d ih =>
    intro i hd hi1 hi2 hj
    by_cases c0:i ≤ j
    · by_cases c:lt (at_ l i) (at_ l a)
      · obtain ⟨cc,N,hN,hc⟩:=S.ct (T:=T) hl hT (hD.at (i:=i) (by omega)) (hD.at (i:=a) (by omega)) c
        have st:=pz_d_0 N db n cap (Mm enc H db l T) 0 a b p i j (by omega) (ixs (i:=i) rfl (by omega)) (S.ld l T i hl (by omega)) (ixs (i:=a) rfl (by omega)) (S.ld l T a hl (by omega)) hN hc
        rw [wrap_succ (by omega)] at st
        obtain ⟨i',r,q1,q2,q3,q4⟩:=ih (i+1) (by omega) (by omega) (by omega) hj
        exact ⟨i',lop (st) (gcM _ _ _ _ _ rfl) (r),by omega,q2,fun k h1 h2=>by
          by_cases e:k=i
          · subst e; exact c
          · exact q3 k (by omega) h2,q4⟩
      · have c':¬ lt (at_ l i) (at_ l a):=c
        obtain ⟨cc,N,hN,hc⟩:=S.cf (T:=T) hl hT (hD.at (i:=i) (by omega)) (hD.at (i:=a) (by omega)) c'
        have st:=pz_d_1 N db n cap (Mm enc H db l T) 0 a b p i j (by omega) (ixs (i:=i) rfl (by omega)) (S.ld l T i hl (by omega)) (ixs (i:=a) rfl (by omega)) (S.ld l T a hl (by omega)) hN hc
        exact ⟨i,lpo (st),Nat.le_refl _,by omega,fun k h1 h2=>by omega,Or.inr c'⟩
    · exact ⟨i,lpo (pz_d_2 0 db n cap (Mm enc H db l T) 0 a b p i j (by omega)),Nat.le_refl _,by omega,fun k h1 h2=>by omega,.inl (by omega)⟩
theorem pt2 (S:So enc lt dom H db n) {T:Heap} (hT:mxs T=0) {a b p i:Nat} {l:List α} (hl:l.length=n) (hD:Dm dom l):∀ (d j:Nat),j+1 - i ≤ d → a < i → i ≤ j+1 → j < n →
    ∃ j':Nat,RT polSl 90 (sub [1,1,1,1,0,0] B90) (env90 (.sl db 0 n cap n 1) (.int .i64 (a:Int)) (.int .i64 (b:Int)) (.int .i64 (p:Int)) (.func 64 [] []) (.int .i64 0) (.bool false) (.int .i64 (i:Int)) (.int .i64 (j:Int))) (Mm enc H db l T) (.exit 2) (env90 (.sl db 0 n cap n 1) (.int .i64 (a:Int)) (.int .i64 (b:Int)) (.int .i64 (p:Int)) (.func 64 [] []) (.int .i64 0) (.bool false) (.int .i64 (i:Int)) (.int .i64 (j':Int))) (Mm enc H db l T)∧j' ≤ j∧i ≤ j'+1∧(∀ k:Nat,j' < k → k ≤ j → ¬ lt (at_ l k) (at_ l a))∧(j' < i ∨ lt (at_ l j') (at_ l a)):=by
  have hn:=S.nb
  intro d
  induction d with
  | zero =>
    intro j hd hi1 hi2 hj
    exact ⟨j,lpo (pz_e_2 0 db n cap (Mm enc H db l T) 0 a b p i j (by omega)),Nat.le_refl _,by omega,fun k h1 h2=>by omega,.inl (by omega)⟩
  | succ d ih =>
    intro j hd hi1 hi2 hj
    by_cases c0:i ≤ j
    · by_cases c:¬ lt (at_ l j) (at_ l a)
      · obtain ⟨cc,N,hN,hc⟩:=S.cf (T:=T) hl hT (hD.at (i:=j) (by omega)) (hD.at (i:=a) (by omega)) c
        have st:=pz_e_1 N db n cap (Mm enc H db l T) 0 a b p i j (by omega) (ixs (i:=j) rfl (by omega)) (S.ld l T j hl (by omega)) (ixs (i:=a) rfl (by omega)) (S.ld l T a hl (by omega)) hN hc
        rw [wrap_pred (by omega) (by omega)] at st
        obtain ⟨j',r,q1,q2,q3,q4⟩:=ih (j - 1) (by omega) hi1 (by omega) (by omega)
        exact ⟨j',lop (st) (gcM _ _ _ _ _ rfl) (r),by omega,q2,fun k h1 h2=>by
          by_cases e:k=j
          · subst e; exact c
          · exact q3 k h1 (by omega),q4⟩
      · have c':lt (at_ l j) (at_ l a):=Classical.not_not.1 c
        obtain ⟨cc,N,hN,hc⟩:=S.ct (T:=T) hl hT (hD.at (i:=j) (by omega)) (hD.at (i:=a) (by omega)) c'
        have st:=pz_e_0 N db n cap (Mm enc H db l T) 0 a b p i j (by omega) (ixs (i:=j) rfl (by omega)) (S.ld l T j hl (by omega)) (ixs (i:=a) rfl (by omega)) (S.ld l T a hl (by omega)) hN hc
        exact ⟨j,lpo (st),Nat.le_refl _,by omega,fun k h1 h2=>by omega,Or.inr c'⟩
    · exact ⟨j,lpo (pz_e_2 0 db n cap (Mm enc H db l T) 0 a b p i j (by omega)),Nat.le_refl _,by omega,fun k h1 h2=>by omega,.inl (by omega)⟩
theorem pt3 (S:So enc lt dom H db n) {T:Heap} (hT:mxs T=0) {a b p j:Nat} {l:List α} (hl:l.length=n) (hD:Dm dom l):∀ (d i:Nat),j+1 - i ≤ d → a < i → i ≤ j+1 → j < n →
    ∃ i':Nat,RT polSl 90 (sub [1,1,1,1,1,1,1,1,1,0,0,0,0,0,0] B90) (env90 (.sl db 0 n cap n 1) (.int .i64 (a:Int)) (.int .i64 (b:Int)) (.int .i64 (p:Int)) (.func 64 [] []) (.int .i64 0) (.bool false) (.int .i64 (i:Int)) (.int .i64 (j:Int))) (Mm enc H db l T) (.exit 6) (env90 (.sl db 0 n cap n 1) (.int .i64 (a:Int)) (.int .i64 (b:Int)) (.int .i64 (p:Int)) (.func 64 [] []) (.int .i64 0) (.bool false) (.int .i64 (i':Int)) (.int .i64 (j:Int))) (Mm enc H db l T)∧i ≤ i'∧i' ≤ j+1∧(∀ k:Nat,i ≤ k → k < i' → lt (at_ l k) (at_ l a))∧(j < i' ∨ ¬ lt (at_ l i') (at_ l a)):=by
  have hn:=S.nb
  intro d
  induction d with
  | zero =>
    intro i hd hi1 hi2 hj
    exact ⟨i,lpo (pz_j_2 0 db n cap (Mm enc H db l T) 0 a b p i j (by omega)),Nat.le_refl _,by omega,fun k h1 h2=>by omega,.inl (by omega)⟩
  | succ d ih =>
    intro i hd hi1 hi2 hj
    by_cases c0:i ≤ j
    · by_cases c:lt (at_ l i) (at_ l a)
      · obtain ⟨cc,N,hN,hc⟩:=S.ct (T:=T) hl hT (hD.at (i:=i) (by omega)) (hD.at (i:=a) (by omega)) c
        have st:=pz_j_0 N db n cap (Mm enc H db l T) 0 a b p i j (by omega) (ixs (i:=i) rfl (by omega)) (S.ld l T i hl (by omega)) (ixs (i:=a) rfl (by omega)) (S.ld l T a hl (by omega)) hN hc
        rw [wrap_succ (by omega)] at st
        obtain ⟨i',r,q1,q2,q3,q4⟩:=ih (i+1) (by omega) (by omega) (by omega) hj
        exact ⟨i',lop (st) (gcM _ _ _ _ _ rfl) (r),by omega,q2,fun k h1 h2=>by
          by_cases e:k=i
          · subst e; exact c
          · exact q3 k (by omega) h2,q4⟩
      · have c':¬ lt (at_ l i) (at_ l a):=c
        obtain ⟨cc,N,hN,hc⟩:=S.cf (T:=T) hl hT (hD.at (i:=i) (by omega)) (hD.at (i:=a) (by omega)) c'
        have st:=pz_j_1 N db n cap (Mm enc H db l T) 0 a b p i j (by omega) (ixs (i:=i) rfl (by omega)) (S.ld l T i hl (by omega)) (ixs (i:=a) rfl (by omega)) (S.ld l T a hl (by omega)) hN hc
        exact ⟨i,lpo (st),Nat.le_refl _,by omega,fun k h1 h2=>by omega,Or.inr c'⟩
    · exact ⟨i,lpo (pz_j_2 0 db n cap (Mm enc H db l T) 0 a b p i j (by omega)),Nat.le_refl _,by omega,fun k h1 h2=>by omega,.inl (by omega)⟩
theorem pt4 (S:So enc lt dom H db n) {T:Heap} (hT:mxs T=0) {a b p i:Nat} {l:List α} (hl:l.length=n) (hD:Dm dom l):∀ (d j:Nat),j+1 - i ≤ d → a < i → i ≤ j+1 → j < n →
    ∃ j':Nat,RT polSl 90 (sub [1,1,1,1,1,1,1,1,1,0,0,0,0,1,0,0] B90) (env90 (.sl db 0 n cap n 1) (.int .i64 (a:Int)) (.int .i64 (b:Int)) (.int .i64 (p:Int)) (.func 64 [] []) (.int .i64 0) (.bool false) (.int .i64 (i:Int)) (.int .i64 (j:Int))) (Mm enc H db l T) (.exit 8) (env90 (.sl db 0 n cap n 1) (.int .i64 (a:Int)) (.int .i64 (b:Int)) (.int .i64 (p:Int)) (.func 64 [] []) (.int .i64 0) (.bool false) (.int .i64 (i:Int)) (.int .i64 (j':Int))) (Mm enc H db l T)∧j' ≤ j∧i ≤ j'+1∧(∀ k:Nat,j' < k → k ≤ j → ¬ lt (at_ l k) (at_ l a))∧(j' < i ∨ lt (at_ l j') (at_ l a)):=by
  have hn:=S.nb
  intro d
  induction d with
  | zero =>
    intro j hd hi1 hi2 hj
    exact ⟨j,lpo (pz_k_2 0 db n cap (Mm enc H db l T) 0 a b p i j (by omega)),Nat.le_refl _,by omega,fun k h1 h2=>by omega,.inl (by omega)⟩
  | succ d ih =>
    intro j hd hi1 hi2 hj
    by_cases c0:i ≤ j
    · by_cases c:¬ lt (at_ l j) (at_ l a)
      · obtain ⟨cc,N,hN,hc⟩:=S.cf (T:=T) hl hT (hD.at (i:=j) (by omega)) (hD.at (i:=a) (by omega)) c
        have st:=pz_k_1 N db n cap (Mm enc H db l T) 0 a b p i j (by omega) (ixs (i:=j) rfl (by omega)) (S.ld l T j hl (by omega)) (ixs (i:=a) rfl (by omega)) (S.ld l T a hl (by omega)) hN hc
        rw [wrap_pred (by omega) (by omega)] at st
        obtain ⟨j',r,q1,q2,q3,q4⟩:=ih (j - 1) (by omega) hi1 (by omega) (by omega)
        exact ⟨j',lop (st) (gcM _ _ _ _ _ rfl) (r),by omega,q2,fun k h1 h2=>by
          by_cases e:k=j
          · subst e; exact c
          · exact q3 k h1 (by omega),q4⟩
      · have c':lt (at_ l j) (at_ l a):=Classical.not_not.1 c
        obtain ⟨cc,N,hN,hc⟩:=S.ct (T:=T) hl hT (hD.at (i:=j) (by omega)) (hD.at (i:=a) (by omega)) c'
        have st:=pz_k_0 N db n cap (Mm enc H db l T) 0 a b p i j (by omega) (ixs (i:=j) rfl (by omega)) (S.ld l T j hl (by omega)) (ixs (i:=a) rfl (by omega)) (S.ld l T a hl (by omega)) hN hc
        exact ⟨j,lpo (st),Nat.le_refl _,by omega,fun k h1 h2=>by omega,Or.inr c'⟩
    · exact ⟨j,lpo (pz_k_2 0 db n cap (Mm enc H db l T) 0 a b p i j (by omega)),Nat.le_refl _,by omega,fun k h1 h2=>by omega,.inl (by omega)⟩
theorem pe1 (S:So enc lt dom H db n) {T:Heap} (hT:mxs T=0) {a b p j:Nat} {l:List α} (hl:l.length=n) (hD:Dm dom l):∀ (d i:Nat),j+1 - i ≤ d → a < i → i ≤ j+1 → j < n →
    ∃ i':Nat,RT polSl 89 (sub [1,1,1,0,0,0,0,0,0] B89) (env89 (.sl db 0 n cap n 1) (.int .i64 (a:Int)) (.int .i64 (b:Int)) (.int .i64 (p:Int)) (.func 64 [] []) (.int .i64 0) (.int .i64 (i:Int)) (.int .i64 (j:Int))) (Mm enc H db l T) (.exit 2) (env89 (.sl db 0 n cap n 1) (.int .i64 (a:Int)) (.int .i64 (b:Int)) (.int .i64 (p:Int)) (.func 64 [] []) (.int .i64 0) (.int .i64 (i':Int)) (.int .i64 (j:Int))) (Mm enc H db l T)∧i ≤ i'∧i' ≤ j+1∧(∀ k:Nat,i ≤ k → k < i' → ¬ lt (at_ l a) (at_ l k))∧(j < i' ∨ lt (at_ l a) (at_ l i')):=by
  have hn:=S.nb
  intro d
  induction d with
  | zero =>
    intro i hd hi1 hi2 hj
    exact ⟨i,lpo (pe_d_2 0 db n cap (Mm enc H db l T) 0 a b p i j (by omega)),Nat.le_refl _,by omega,fun k h1 h2=>by omega,.inl (by omega)⟩
  | succ d ih =>
    intro i hd hi1 hi2 hj
    by_cases c0:i ≤ j
    · by_cases c:¬ lt (at_ l a) (at_ l i)
      · obtain ⟨cc,N,hN,hc⟩:=S.cf (T:=T) hl hT (hD.at (i:=a) (by omega)) (hD.at (i:=i) (by omega)) c
        have st:=pe_d_1 N db n cap (Mm enc H db l T) 0 a b p i j (by omega) (ixs (i:=a) rfl (by omega)) (S.ld l T a hl (by omega)) (ixs (i:=i) rfl (by omega)) (S.ld l T i hl (by omega)) hN hc
        rw [wrap_succ (by omega)] at st
        obtain ⟨i',r,q1,q2,q3,q4⟩:=ih (i+1) (by omega) (by omega) (by omega) hj
        exact ⟨i',lop (st) (gcM _ _ _ _ _ rfl) (r),by omega,q2,fun k h1 h2=>by
          by_cases e:k=i
          · subst e; exact c
          · exact q3 k (by omega) h2,q4⟩
      · have c':lt (at_ l a) (at_ l i):=Classical.not_not.1 c
        obtain ⟨cc,N,hN,hc⟩:=S.ct (T:=T) hl hT (hD.at (i:=a) (by omega)) (hD.at (i:=i) (by omega)) c'
        have st:=pe_d_0 N db n cap (Mm enc H db l T) 0 a b p i j (by omega) (ixs (i:=a) rfl (by omega)) (S.ld l T a hl (by omega)) (ixs (i:=i) rfl (by omega)) (S.ld l T i hl (by omega)) hN hc
        exact ⟨i,lpo (st),Nat.le_refl _,by omega,fun k h1 h2=>by omega,Or.inr c'⟩
    · exact ⟨i,lpo (pe_d_2 0 db n cap (Mm enc H db l T) 0 a b p i j (by omega)),Nat.le_refl _,by omega,fun k h1 h2=>by omega,.inl (by omega)⟩
theorem pe2 (S:So enc lt dom H db n) {T:Heap} (hT:mxs T=0) {a b p i:Nat} {l:List α} (hl:l.length=n) (hD:Dm dom l):∀ (d j:Nat),j+1 - i ≤ d → a < i → i ≤ j+1 → j < n →
    ∃ j':Nat,RT polSl 89 (sub [1,1,1,0,0,0,0,1,0,0] B89) (env89 (.sl db 0 n cap n 1) (.int .i64 (a:Int)) (.int .i64 (b:Int)) (.int .i64 (p:Int)) (.func 64 [] []) (.int .i64 0) (.int .i64 (i:Int)) (.int .i64 (j:Int))) (Mm enc H db l T) (.exit 4) (env89 (.sl db 0 n cap n 1) (.int .i64 (a:Int)) (.int .i64 (b:Int)) (.int .i64 (p:Int)) (.func 64 [] []) (.int .i64 0) (.int .i64 (i:Int)) (.int .i64 (j':Int))) (Mm enc H db l T)∧j' ≤ j∧i ≤ j'+1∧(∀ k:Nat,j' < k → k ≤ j → lt (at_ l a) (at_ l k))∧(j' < i ∨ ¬ lt (at_ l a) (at_ l j')):=by
  have hn:=S.nb
  intro d
  induction d with
  | zero =>
    intro j hd hi1 hi2 hj
    exact ⟨j,lpo (pe_e_2 0 db n cap (Mm enc H db l T) 0 a b p i j (by omega)),Nat.le_refl _,by omega,fun k h1 h2=>by omega,.inl (by omega)⟩
  | succ d ih =>
    intro j hd hi1 hi2 hj
    by_cases c0:i ≤ j
    · by_cases c:lt (at_ l a) (at_ l j)
      · obtain ⟨cc,N,hN,hc⟩:=S.ct (T:=T) hl hT (hD.at (i:=a) (by omega)) (hD.at (i:=j) (by omega)) c
        have st:=pe_e_0 N db n cap (Mm enc H db l T) 0 a b p i j (by omega) (ixs (i:=a) rfl (by omega)) (S.ld l T a hl (by omega)) (ixs (i:=j) rfl (by omega)) (S.ld l T j hl (by omega)) hN hc
        rw [wrap_pred (by omega) (by omega)] at st
        obtain ⟨j',r,q1,q2,q3,q4⟩:=ih (j - 1) (by omega) hi1 (by omega) (by omega)
        exact ⟨j',lop (st) (gcM _ _ _ _ _ rfl) (r),by omega,q2,fun k h1 h2=>by
          by_cases e:k=j
          · subst e; exact c
          · exact q3 k h1 (by omega),q4⟩
      · have c':¬ lt (at_ l a) (at_ l j):=c
        obtain ⟨cc,N,hN,hc⟩:=S.cf (T:=T) hl hT (hD.at (i:=a) (by omega)) (hD.at (i:=j) (by omega)) c'
        have st:=pe_e_1 N db n cap (Mm enc H db l T) 0 a b p i j (by omega) (ixs (i:=a) rfl (by omega)) (S.ld l T a hl (by omega)) (ixs (i:=j) rfl (by omega)) (S.ld l T j hl (by omega)) hN hc
        exact ⟨j,lpo (st),Nat.le_refl _,by omega,fun k h1 h2=>by omega,Or.inr c'⟩
    · exact ⟨j,lpo (pe_e_2 0 db n cap (Mm enc H db l T) 0 a b p i j (by omega)),Nat.le_refl _,by omega,fun k h1 h2=>by omega,.inl (by omega)⟩
theorem swp_ne {l:List α} {i j a:Nat} (hi:i < l.length) (hj:j < l.length) (h1:a ≠ i) (h2:a ≠ j):at_ (swp l i j) a=at_ l a:=by rw [swp_at hi hj,if_neg h2,if_neg h1]
def PI (lt:α → α → Prop) (a b i j:Nat) (l:List α):Prop:=(a < i∧i ≤ j+1∧a ≤ j∧j < b)∧(∀ k,a < k → k < i → lt (at_ l k) (at_ l a))∧∀ k,j < k → k < b → ¬ lt (at_ l k) (at_ l a)
theorem PI.scan {a b i j i' j':Nat} {l:List α} (h:PI lt a b i j l) (h1:i ≤ i') (h2:i' ≤ j+1) (h3:∀ k,i ≤ k → k < i' → lt (at_ l k) (at_ l a)) (h4:j' ≤ j) (h5:i' ≤ j'+1) (h6:∀ k,j' < k → k ≤ j → ¬ lt (at_ l k) (at_ l a)):PI lt a b i' j' l:=by
  obtain ⟨p1,p2,p3⟩:=h
  refine ⟨by omega,fun k q1 q2=>?_,fun k q1 q2=>?_⟩
  · by_cases c:k < i
    · exact p2 k q1 c
    · exact h3 k (by omega) q2
  · by_cases c:j < k
    · exact p3 k c q2
    · exact h6 k q1 (by omega)
theorem PI.swap {a b i j:Nat} {l:List α} (hb:b ≤ l.length) (h:PI lt a b i j l) (hij:i ≤ j) (h1:¬ lt (at_ l i) (at_ l a)) (h2:lt (at_ l j) (at_ l a)):PI lt a b (i+1) (j - 1) (swp l i j):=by
  obtain ⟨p1,p2,p3⟩:=h
  have hne:i ≠ j:=fun e=>by subst e; exact h1 h2
  have e0:at_ (swp l i j) a=at_ l a:=swp_ne (by omega) (by omega) (by omega) (by omega)
  refine ⟨by omega,fun k q1 q2=>?_,fun k q1 q2=>?_⟩
  · rw [e0,swp_at (by omega) (by omega),if_neg (by omega)]
    by_cases c:k=i
    · rw [if_pos c]; exact h2
    · rw [if_neg c]; exact p2 k q1 (by omega)
  · rw [e0,swp_at (by omega) (by omega)]
    by_cases c:k=j
    · rw [if_pos c]; exact h1
    · rw [if_neg c,if_neg (by omega)]; exact p3 k (by omega) q2
theorem PI.done {a b i j:Nat} {l:List α} (hb:b ≤ l.length) (h:PI lt a b i j l) (hij:j < i):(∀ k,a ≤ k → k < j → lt (at_ (swp l j a) k) (at_ (swp l j a) j))∧∀ k,j < k → k < b → ¬ lt (at_ (swp l j a) k) (at_ (swp l j a) j):=by
  obtain ⟨p1,p2,p3⟩:=h
  have ej:at_ (swp l j a) j=at_ l a:=by
    rw [swp_at (by omega) (by omega)]
    by_cases c:j=a
    · rw [if_pos c,c]
    · rw [if_neg c,if_pos rfl]
  refine ⟨fun k q1 q2=>?_,fun k q1 q2=>?_⟩
  · rw [ej,swp_at (by omega) (by omega)]
    by_cases c:k=a
    · rw [if_pos c]; exact p2 j (by omega) (by omega)
    · rw [if_neg c,if_neg (by omega)]; exact p2 k (by omega) (by omega)
  · rw [ej,swp_at (by omega) (by omega),if_neg (by omega),if_neg (by omega)]; exact p3 k q1 q2
theorem pz_main (S:So enc lt dom H db n) {T:Heap} (hT:mxs T=0) {a b p:Nat} (hb:b ≤ n):∀ (d i j:Nat) (l:List α),j+1 - i ≤ d → l.length=n → Dm dom l → PI lt a b i j l →
    ∃ (i' j':Nat) (l':List α),RT polSl 90 (sub [1,1,1,1,1,1,1,1,1,0,0] B90) (env90 (.sl db 0 n cap n 1) (.int .i64 (a:Int)) (.int .i64 (b:Int)) (.int .i64 (p:Int)) (.func 64 [] []) (.int .i64 0) (.bool false) (.int .i64 (i:Int)) (.int .i64 (j:Int))) (Mm enc H db l T) (.exit 4) (env90 (.sl db 0 n cap n 1) (.int .i64 (a:Int)) (.int .i64 (b:Int)) (.int .i64 (p:Int)) (.func 64 [] []) (.int .i64 0) (.bool false) (.int .i64 (i':Int)) (.int .i64 (j':Int))) (Mm enc H db l' T)∧Sw a b l l'∧PI lt a b i' j' l'∧j' < i':=by
  have hn:=S.nb
  intro d
  induction d with
  | zero =>
    intro i j l hd hl hD hI
    obtain ⟨p1,p2,p3⟩:=id hI
    obtain ⟨i',r1,q1,q2,q3,q4⟩:=pt3 S (cap:=cap) (a:=a) (b:=b) (p:=p) (j:=j) hT hl hD _ i (Nat.le_refl _) p1.1 p1.2.1 (by omega)
    obtain ⟨j',r2,q5,q6,q7,q8⟩:=pt4 S (cap:=cap) (a:=a) (b:=b) (p:=p) hT hl hD _ j (Nat.le_refl _) (i:=i') (by omega) (by omega) (by omega)
    have st:=RunsTo.block_other (i:=5) (c:=sub [1,1,1,1,1,1,1,1,1,0,0,0] B90) (sq (bke (c:=sub [1,1,1,1,1,1,1,1,1,0,0,0,0,0] B90) (r1)) (sq (bke (c:=sub [1,1,1,1,1,1,1,1,1,0,0,0,0,1,0] B90) (r2)) (pz_l_0 0 db n cap (Mm enc H db l T) 0 a b p i' j' (by omega)) (c:=sub [1,1,1,1,1,1,1,1,1,0,0,0,0,1] B90)) (c:=sub [1,1,1,1,1,1,1,1,1,0,0,0,0] B90)) (by simp) (by kernel_rfl)
    exact ⟨i',j',l,lpo (st),.refl,hI.scan q1 q2 q3 q5 q6 q7,by omega⟩
  | succ d ih =>
    intro i j l hd hl hD hI
    obtain ⟨p1,p2,p3⟩:=id hI
    obtain ⟨i',r1,q1,q2,q3,q4⟩:=pt3 S (cap:=cap) (a:=a) (b:=b) (p:=p) (j:=j) hT hl hD _ i (Nat.le_refl _) p1.1 p1.2.1 (by omega)
    obtain ⟨j',r2,q5,q6,q7,q8⟩:=pt4 S (cap:=cap) (a:=a) (b:=b) (p:=p) hT hl hD _ j (Nat.le_refl _) (i:=i') (by omega) (by omega) (by omega)
    have hI':=hI.scan q1 q2 q3 q5 q6 q7
    by_cases c:j' < i'
    · have st:=RunsTo.block_other (i:=5) (c:=sub [1,1,1,1,1,1,1,1,1,0,0,0] B90) (sq (bke (c:=sub [1,1,1,1,1,1,1,1,1,0,0,0,0,0] B90) (r1)) (sq (bke (c:=sub [1,1,1,1,1,1,1,1,1,0,0,0,0,1,0] B90) (r2)) (pz_l_0 0 db n cap (Mm enc H db l T) 0 a b p i' j' (by omega)) (c:=sub [1,1,1,1,1,1,1,1,1,0,0,0,0,1] B90)) (c:=sub [1,1,1,1,1,1,1,1,1,0,0,0,0] B90)) (by simp) (by kernel_rfl)
      exact ⟨i',j',l,lpo (st),.refl,hI',c⟩
    · have q4':=q4.resolve_left (by omega)
      have q8':=q8.resolve_left (by omega)
      obtain ⟨s1,s2⟩:=S.st2 (T:=T) hl (i:=i') (j:=j') (by omega) (by omega)
      have sl:=pz_l_1 0 db n cap (Mm enc H db l T) 0 a b p i' j' (by omega) (ixs (i:=j') rfl (by omega)) (S.ld l T _ hl (by omega)) (ixs (i:=i') rfl (by omega)) (S.ld l T _ hl (by omega)) (ixs (i:=i') rfl (by omega)) s1 (ixs (i:=j') rfl (by omega)) s2
      rw [wrap_succ (by omega),wrap_pred (by omega) (by omega)] at sl
      have st:=RunsTo.block_normal (i:=5) (c:=sub [1,1,1,1,1,1,1,1,1,0,0,0] B90) (sq (bke (c:=sub [1,1,1,1,1,1,1,1,1,0,0,0,0,0] B90) (r1)) (sq (bke (c:=sub [1,1,1,1,1,1,1,1,1,0,0,0,0,1,0] B90) (r2)) (sl) (c:=sub [1,1,1,1,1,1,1,1,1,0,0,0,0,1] B90)) (c:=sub [1,1,1,1,1,1,1,1,1,0,0,0,0] B90)) (by kernel_rfl)
      have sw:Sw a b l (swp l i' j'):=Sw.one (by omega) (by omega) (by omega) (by omega)
      obtain ⟨i2,j2,l',r,w1,w2,w3⟩:=ih (i'+1) (j' - 1) (swp l i' j') (by omega) (by rw [swp_len]; exact hl) (hD.sw sw (by omega)) (hI'.swap (by omega) (by omega) q4' q8')
      exact ⟨i2,j2,l',lop (st) (gcM _ _ _ _ _ rfl) (r),sw.trans w1,w2,w3⟩
theorem spart_ok (S:So enc lt dom H db n) {T:Heap} (hT:mxs T=0) {a b p:Nat} (hb:b ≤ n) (hp1:a ≤ p) (hp2:p < b) {l:List α} (hl:l.length=n) (hD:Dm dom l) :
    ∃ m bb l',ClL 90 [.sl db 0 n cap n 1,.int .i64 (a:Int),.int .i64 (b:Int),.int .i64 (p:Int),.func 64 [] []] (Mm enc H db l T) (.tuple [.int .i64 ((m:Nat):Int),.bool bb]) (Mm enc H db l' T)∧Sw a b l l'∧(a ≤ m∧m < b)∧(∀ k,a ≤ k → k < m → lt (at_ l' k) (at_ l' m))∧∀ k,m < k → k < b → ¬ lt (at_ l' k) (at_ l' m):=by
  have hn:=S.nb
  obtain ⟨s1,s2⟩:=S.st2 (T:=T) hl (i:=a) (j:=p) (by omega) (by omega)
  have t0:=pz_a_0 0 db n cap (Mm enc H db l T) 0 a b p
  have t1:=pz_b_0 0 db n cap (Mm enc H db l T) 0 a b p (y12:=Ud) (y13:=Ud) (ixs (i:=p) rfl (by omega)) (S.ld l T _ hl (by omega)) (ixs (i:=a) rfl (by omega)) (S.ld l T _ hl (by omega)) (ixs (i:=a) rfl (by omega)) s1 (ixs (i:=p) rfl (by omega)) s2
  have sw0:Sw a b l (swp l a p):=Sw.one (by omega) (by omega) (by omega) (by omega)
  have hl0:=sw_len sw0 hl
  have hD0:=hD.sw sw0 (by omega)
  generalize swp l a p=l0 at t1 sw0 hl0 hD0 s2
  clear s2
  have t2:=pz_c_0 0 db n cap (Mm enc H db l0 T) 0 a b p (y12:=Ud) (y13:=Ud)
  rw [wrap_succ (by omega),wrap_pred (by omega) (by omega)] at t2
  have hI0:PI lt a b (a+1) (b - 1) l0:=⟨by omega,fun k h1 h2=>by omega,fun k h1 h2=>by omega⟩
  obtain ⟨i,r1,q1,q2,q3,q4⟩:=pt1 S (cap:=cap) (a:=a) (b:=b) (p:=p) (j:=b - 1) hT hl0 hD0 _ (a+1) (Nat.le_refl _) (by omega) (by omega) (by omega)
  obtain ⟨j,r2,q5,q6,q7,q8⟩:=pt2 S (cap:=cap) (a:=a) (b:=b) (p:=p) hT hl0 hD0 _ (b - 1) (Nat.le_refl _) (i:=i) (by omega) (by omega) (by omega)
  have hI:=hI0.scan q1 q2 q3 q5 q6 q7
  have hI':=hI.1
  have fin:∀ (i j:Nat) (l1:List α) (bb:Bool) (E:Env) (H':Heap),Sw a b l l1 → PI lt a b i j l1 → j < i → H'=Mm enc H db (swp l1 j a) T → RT polSl 90 B90 (args0 [.sl db 0 n cap n 1,.int .i64 (a:Int),.int .i64 (b:Int),.int .i64 (p:Int),.func 64 [] []]) (Mm enc H db l T) .ret E H' → resultsV Tp Try.f90 E H'=some (.tuple [.int .i64 ((j:Nat):Int),.bool bb]) →
      ∃ m bb l',ClL 90 [.sl db 0 n cap n 1,.int .i64 (a:Int),.int .i64 (b:Int),.int .i64 (p:Int),.func 64 [] []] (Mm enc H db l T) (.tuple [.int .i64 ((m:Nat):Int),.bool bb]) (Mm enc H db l' T)∧Sw a b l l'∧(a ≤ m∧m < b)∧(∀ k,a ≤ k → k < m → lt (at_ l' k) (at_ l' m))∧∀ k,m < k → k < b → ¬ lt (at_ l' k) (at_ l' m):=by
    intro i j l1 bb E H' hs hI hij he t hv
    subst he
    have hI':=hI.1
    have hll:=sw_len hs hl
    have hc:=CallsTo.shared (P:=Tp) (pol:=polSl) (g:=90) (fn:=Try.f90) (cd:=B90) (args:=[.sl db 0 n cap n 1,.int .i64 (a:Int),.int .i64 (b:Int),.int .i64 (p:Int),.func 64 [] []]) (by kernel_rfl) (by kernel_rfl) (by kernel_rfl) (by kernel_rfl) t (by kernel_rfl) (by simp) hv
    rw [gcM _ _ _ _ _ rfl] at hc
    obtain ⟨w1,w2⟩:=hI.done (by omega) hij
    exact ⟨j,bb,_,hc,hs.step (by omega) (by omega) (Nat.le_refl _) (by omega),by omega,w1,w2⟩
  by_cases c:j < i
  · obtain ⟨s3,s4⟩:=S.st2 (T:=T) hl0 (i:=j) (j:=a) (by omega) (by omega)
    have t3:=pz_f_0 0 db n cap (Mm enc H db l0 T) 0 a b p i j (by omega) (ixs (i:=a) rfl (by omega)) (S.ld l0 T _ hl0 (by omega)) (ixs (i:=j) rfl (by omega)) (S.ld l0 T _ hl0 (by omega)) (ixs (i:=j) rfl (by omega)) s3 (ixs (i:=a) rfl (by omega)) s4
    have t:=sq (t0) (sq (t1) (sq (t2) (sq (bke (c:=sub [1,1,1,0] B90) (r1)) (sq (bke (c:=sub [1,1,1,1,0] B90) (r2)) (sqo (t3) (c:=sub [1,1,1,1,1] B90) (b:=sub [1,1,1,1,1,1] B90)) (c:=sub [1,1,1,1] B90)) (c:=sub [1,1,1] B90)) (c:=sub [1,1] B90)) (c:=sub [1] B90)) (c:=B90)
    exact fin i j l0 true _ _ sw0 hI c rfl t (by kernel_rfl)
  · have q4':=q4.resolve_left (by omega)
    have q8':=q8.resolve_left (by omega)
    obtain ⟨s3,s4⟩:=S.st2 (T:=T) hl0 (i:=i) (j:=j) (by omega) (by omega)
    have t3:=pz_f_1 0 db n cap (Mm enc H db l0 T) 0 a b p i j (by omega)
    have t4:=pz_g_0 0 db n cap (Mm enc H db l0 T) 0 a b p i j (ixs (i:=j) rfl (by omega)) (S.ld l0 T _ hl0 (by omega)) (ixs (i:=i) rfl (by omega)) (S.ld l0 T _ hl0 (by omega)) (ixs (i:=i) rfl (by omega)) s3 (ixs (i:=j) rfl (by omega)) s4
    have sw1:Sw a b l0 (swp l0 i j):=Sw.one (by omega) (by omega) (by omega) (by omega)
    have hl1:=sw_len sw1 hl0
    have hD1:=hD0.sw sw1 (by omega)
    have hI1:=hI.swap (by omega) (by omega) q4' q8'
    generalize swp l0 i j=l1 at t4 sw1 hl1 hD1 hI1 s4
    clear s4
    have t5:=pz_h_0 0 db n cap (Mm enc H db l1 T) 0 a b p i j
    rw [wrap_succ (by omega)] at t5
    have t6:=pz_i_0 0 db n cap (Mm enc H db l1 T) 0 a b p (i+1) j
    rw [wrap_pred (by omega) (by omega)] at t6
    obtain ⟨i2,j2,l2,r3,w1,w2,w3⟩:=pz_main S (cap:=cap) (p:=p) hT hb _ (i+1) (j - 1) l1 (Nat.le_refl _) hl1 hD1 hI1
    have w2':=w2.1
    have hl2:=sw_len w1 hl1
    obtain ⟨s5,s6⟩:=S.st2 (T:=T) hl2 (i:=j2) (j:=a) (by omega) (by omega)
    have t7:=pz_m_0 0 db n cap (Mm enc H db l2 T) 0 a b p i2 j2 (ixs (i:=a) rfl (by omega)) (S.ld l2 T _ hl2 (by omega)) (ixs (i:=j2) rfl (by omega)) (S.ld l2 T _ hl2 (by omega)) (ixs (i:=j2) rfl (by omega)) s5 (ixs (i:=a) rfl (by omega)) s6
    have t:=sq (t0) (sq (t1) (sq (t2) (sq (bke (c:=sub [1,1,1,0] B90) (r1)) (sq (bke (c:=sub [1,1,1,1,0] B90) (r2)) (sq (t3) (sq (t4) (sq (t5) (sq (t6) (sq (bke (c:=sub [1,1,1,1,1,1,1,1,1,0] B90) (r3)) (t7) (c:=sub [1,1,1,1,1,1,1,1,1] B90)) (c:=sub [1,1,1,1,1,1,1,1] B90)) (c:=sub [1,1,1,1,1,1,1] B90)) (c:=sub [1,1,1,1,1,1] B90)) (c:=sub [1,1,1,1,1] B90)) (c:=sub [1,1,1,1] B90)) (c:=sub [1,1,1] B90)) (c:=sub [1,1] B90)) (c:=sub [1] B90)) (c:=B90)
    exact fin i2 j2 l2 false _ _ (sw0.trans (sw1.trans w1)) w2 w3 rfl t (by kernel_rfl)
def PE (lt:α → α → Prop) (a b i j:Nat) (l:List α):Prop:=(a < i∧i ≤ j+1∧a ≤ j∧j < b)∧(∀ k,a < k → k < i → ¬ lt (at_ l a) (at_ l k))∧∀ k,j < k → k < b → lt (at_ l a) (at_ l k)
theorem PE.scan {a b i j i' j':Nat} {l:List α} (h:PE lt a b i j l) (h1:i ≤ i') (h2:i' ≤ j+1) (h3:∀ k,i ≤ k → k < i' → ¬ lt (at_ l a) (at_ l k)) (h4:j' ≤ j) (h5:i' ≤ j'+1) (h6:∀ k,j' < k → k ≤ j → lt (at_ l a) (at_ l k)):PE lt a b i' j' l:=by
  obtain ⟨p1,p2,p3⟩:=h
  refine ⟨by omega,fun k q1 q2=>?_,fun k q1 q2=>?_⟩
  · by_cases c:k < i
    · exact p2 k q1 c
    · exact h3 k (by omega) q2
  · by_cases c:j < k
    · exact p3 k c q2
    · exact h6 k q1 (by omega)
theorem PE.swap {a b i j:Nat} {l:List α} (hb:b ≤ l.length) (h:PE lt a b i j l) (hij:i ≤ j) (h1:lt (at_ l a) (at_ l i)) (h2:¬ lt (at_ l a) (at_ l j)):PE lt a b (i+1) (j - 1) (swp l i j):=by
  obtain ⟨p1,p2,p3⟩:=h
  have hne:i ≠ j:=fun e=>by subst e; exact h2 h1
  have e0:at_ (swp l i j) a=at_ l a:=swp_ne (by omega) (by omega) (by omega) (by omega)
  refine ⟨by omega,fun k q1 q2=>?_,fun k q1 q2=>?_⟩
  · rw [e0,swp_at (by omega) (by omega),if_neg (by omega)]
    by_cases c:k=i
    · rw [if_pos c]; exact h2
    · rw [if_neg c]; exact p2 k q1 (by omega)
  · rw [e0,swp_at (by omega) (by omega)]
    by_cases c:k=j
    · rw [if_pos c]; exact h1
    · rw [if_neg c,if_neg (by omega)]; exact p3 k (by omega) q2
theorem pe_main (S:So enc lt dom H db n) {T:Heap} (hT:mxs T=0) {a b p:Nat} (hb:b ≤ n):∀ (d i j:Nat) (l:List α),j+1 - i ≤ d → l.length=n → Dm dom l → PE lt a b i j l →
    ∃ (i' j':Nat) (l':List α),RT polSl 89 (sub [1,1,1,0,0] B89) (env89 (.sl db 0 n cap n 1) (.int .i64 (a:Int)) (.int .i64 (b:Int)) (.int .i64 (p:Int)) (.func 64 [] []) (.int .i64 0) (.int .i64 (i:Int)) (.int .i64 (j:Int))) (Mm enc H db l T) (.exit 0) (env89 (.sl db 0 n cap n 1) (.int .i64 (a:Int)) (.int .i64 (b:Int)) (.int .i64 (p:Int)) (.func 64 [] []) (.int .i64 0) (.int .i64 (i':Int)) (.int .i64 (j':Int))) (Mm enc H db l' T)∧Sw a b l l'∧at_ l' a=at_ l a∧PE lt a b i' j' l'∧j' < i':=by
  have hn:=S.nb
  intro d
  induction d with
  | zero =>
    intro i j l hd hl hD hI
    obtain ⟨p1,p2,p3⟩:=id hI
    obtain ⟨i',r1,q1,q2,q3,q4⟩:=pe1 S (cap:=cap) (a:=a) (b:=b) (p:=p) (j:=j) hT hl hD _ i (Nat.le_refl _) p1.1 p1.2.1 (by omega)
    obtain ⟨j',r2,q5,q6,q7,q8⟩:=pe2 S (cap:=cap) (a:=a) (b:=b) (p:=p) hT hl hD _ j (Nat.le_refl _) (i:=i') (by omega) (by omega) (by omega)
    have st:=RunsTo.block_other (i:=1) (c:=sub [1,1,1,0,0,0] B89) (sq (bke (c:=sub [1,1,1,0,0,0,0,0] B89) (r1)) (sq (bke (c:=sub [1,1,1,0,0,0,0,1,0] B89) (r2)) (pe_f_0 0 db n cap (Mm enc H db l T) 0 a b p i' j' (by omega)) (c:=sub [1,1,1,0,0,0,0,1] B89)) (c:=sub [1,1,1,0,0,0,0] B89)) (by simp) (by kernel_rfl)
    exact ⟨i',j',l,lpo (st),.refl,rfl,hI.scan q1 q2 q3 q5 q6 q7,by omega⟩
  | succ d ih =>
    intro i j l hd hl hD hI
    obtain ⟨p1,p2,p3⟩:=id hI
    obtain ⟨i',r1,q1,q2,q3,q4⟩:=pe1 S (cap:=cap) (a:=a) (b:=b) (p:=p) (j:=j) hT hl hD _ i (Nat.le_refl _) p1.1 p1.2.1 (by omega)
    obtain ⟨j',r2,q5,q6,q7,q8⟩:=pe2 S (cap:=cap) (a:=a) (b:=b) (p:=p) hT hl hD _ j (Nat.le_refl _) (i:=i') (by omega) (by omega) (by omega)
    have hI':=hI.scan q1 q2 q3 q5 q6 q7
    by_cases c:j' < i'
    · have st:=RunsTo.block_other (i:=1) (c:=sub [1,1,1,0,0,0] B89) (sq (bke (c:=sub [1,1,1,0,0,0,0,0] B89) (r1)) (sq (bke (c:=sub [1,1,1,0,0,0,0,1,0] B89) (r2)) (pe_f_0 0 db n cap (Mm enc H db l T) 0 a b p i' j' (by omega)) (c:=sub [1,1,1,0,0,0,0,1] B89)) (c:=sub [1,1,1,0,0,0,0] B89)) (by simp) (by kernel_rfl)
      exact ⟨i',j',l,lpo (st),.refl,rfl,hI',c⟩
    · have q4':=q4.resolve_left (by omega)
      have q8':=q8.resolve_left (by omega)
      obtain ⟨s1,s2⟩:=S.st2 (T:=T) hl (i:=i') (j:=j') (by omega) (by omega)
      have sl:=pe_f_1 0 db n cap (Mm enc H db l T) 0 a b p i' j' (by omega) (ixs (i:=j') rfl (by omega)) (S.ld l T _ hl (by omega)) (ixs (i:=i') rfl (by omega)) (S.ld l T _ hl (by omega)) (ixs (i:=i') rfl (by omega)) s1 (ixs (i:=j') rfl (by omega)) s2
      rw [wrap_succ (by omega),wrap_pred (by omega) (by omega)] at sl
      have st:=RunsTo.block_normal (i:=1) (c:=sub [1,1,1,0,0,0] B89) (sq (bke (c:=sub [1,1,1,0,0,0,0,0] B89) (r1)) (sq (bke (c:=sub [1,1,1,0,0,0,0,1,0] B89) (r2)) (sl) (c:=sub [1,1,1,0,0,0,0,1] B89)) (c:=sub [1,1,1,0,0,0,0] B89)) (by kernel_rfl)
      have sw:Sw a b l (swp l i' j'):=Sw.one (by omega) (by omega) (by omega) (by omega)
      have e0:at_ (swp l i' j') a=at_ l a:=swp_ne (by omega) (by omega) (by omega) (by omega)
      obtain ⟨i2,j2,l',r,w1,w0,w2,w3⟩:=ih (i'+1) (j' - 1) (swp l i' j') (by omega) (by rw [swp_len]; exact hl) (hD.sw sw (by omega)) (hI'.swap (by omega) (by omega) q4' q8')
      exact ⟨i2,j2,l',lop (st) (gcM _ _ _ _ _ rfl) (r),sw.trans w1,w0.trans e0,w2,w3⟩
theorem peq_ok (S:So enc lt dom H db n) (hL:Lin lt) {T:Heap} (hT:mxs T=0) {a b p:Nat} (hb:b ≤ n) (hp1:a ≤ p) (hp2:p < b) {l:List α} (hl:l.length=n) (hD:Dm dom l) :
    ∃ m l',ClL 89 [.sl db 0 n cap n 1,.int .i64 (a:Int),.int .i64 (b:Int),.int .i64 (p:Int),.func 64 [] []] (Mm enc H db l T) (.int .i64 ((m:Nat):Int)) (Mm enc H db l' T)∧Sw a b l l'∧(a < m∧m ≤ b)∧(∀ k,a ≤ k → k < m → ¬ lt (at_ l p) (at_ l' k))∧∀ k,m ≤ k → k < b → lt (at_ l p) (at_ l' k):=by
  have hn:=S.nb
  obtain ⟨s1,s2⟩:=S.st2 (T:=T) hl (i:=a) (j:=p) (by omega) (by omega)
  have t0:=pe_a_0 0 db n cap (Mm enc H db l T) 0 a b p
  have t1:=pe_b_0 0 db n cap (Mm enc H db l T) 0 a b p (y11:=Ud) (y12:=Ud) (ixs (i:=p) rfl (by omega)) (S.ld l T _ hl (by omega)) (ixs (i:=a) rfl (by omega)) (S.ld l T _ hl (by omega)) (ixs (i:=a) rfl (by omega)) s1 (ixs (i:=p) rfl (by omega)) s2
  have sw0:Sw a b l (swp l a p):=Sw.one (by omega) (by omega) (by omega) (by omega)
  have e0:at_ (swp l a p) a=at_ l p:=by
    rw [swp_at (by omega) (by omega)]
    by_cases c:a=p
    · rw [if_pos c,c]
    · rw [if_neg c,if_pos rfl]
  have hl0:=sw_len sw0 hl
  have hD0:=hD.sw sw0 (by omega)
  generalize swp l a p=l0 at t1 sw0 hl0 hD0 s2 e0
  clear s2
  have t2:=pe_c_0 0 db n cap (Mm enc H db l0 T) 0 a b p (y11:=Ud) (y12:=Ud)
  rw [wrap_succ (by omega),wrap_pred (by omega) (by omega)] at t2
  have hI0:PE lt a b (a+1) (b - 1) l0:=⟨by omega,fun k h1 h2=>by omega,fun k h1 h2=>by omega⟩
  obtain ⟨i,j,l1,r,w1,w0,w2,w3⟩:=pe_main S (cap:=cap) (p:=p) hT hb _ (a+1) (b - 1) l0 (Nat.le_refl _) hl0 hD0 hI0
  obtain ⟨w4,w5,w6⟩:=w2
  have z:=pe_g_0 0 db n cap (Mm enc H db l1 T) 0 a b p i j
  have t:=sq (t0) (sq (t1) (sq (t2) (sq (bke (c:=sub [1,1,1,0] B89) (r)) (z) (c:=sub [1,1,1] B89)) (c:=sub [1,1] B89)) (c:=sub [1] B89)) (c:=B89)
  have hc:=CallsTo.shared (P:=Tp) (pol:=polSl) (g:=89) (fn:=Try.f89) (cd:=B89) (args:=[.sl db 0 n cap n 1,.int .i64 (a:Int),.int .i64 (b:Int),.int .i64 (p:Int),.func 64 [] []]) (v:=.int .i64 (i:Int)) (by kernel_rfl) (by kernel_rfl) (by kernel_rfl) (by kernel_rfl) t (by kernel_rfl) (by simp) (by kernel_rfl)
  rw [gcM _ _ _ _ _ rfl] at hc
  refine ⟨i,l1,hc,sw0.trans w1,by omega,fun k h1 h2=>?_,fun k h1 h2=>?_⟩
  · rw [← e0,← w0]
    by_cases c:k=a
    · subst c; exact hL.rf _
    · exact w5 k (by omega) h2
  · rw [← e0,← w0]; exact w6 k (by omega) h2
end
end Go.Proofs.Ytaibmipamkaljaa
end
section
open Go Go.HL Go.HL.So
namespace Go.Proofs.Ytaibmipamkaljaa
set_option linter.unusedSectionVars false
open Go.Proofs.Try renaming prog → Tp
open Go.HL.HV renaming undef → Ud
section
variable {α:Type} [Inhabited α] {enc:α → HV} {lt:α → α → Prop} {dom:α → Prop} {H:Heap} {db n:Nat} {cap:Option Nat}
theorem sorted_one {a:Nat} {l:List α}:Sorted lt a (a+1) l:=fun p q h1 h2 h3=>by omega
theorem sorted_more (hL:Lin lt) {a i:Nat} {l:List α} (h:Sorted lt a i l) (hc:¬ lt (at_ l i) (at_ l (i - 1))):Sorted lt a (i+1) l:=fun p q h1 h2 h3=>by
  by_cases e:q=i
  · subst e
    by_cases e2:p=q - 1
    · rw [e2]; exact hc
    · exact hL.tr _ _ _ (h p (q - 1) h1 (by omega) (by omega)) hc
  · exact h p q h1 h2 (by omega)
theorem pi_scan (S:So enc lt dom H db n) (hL:Lin lt) {T:Heap} (hT:mxs T=0) {a b k:Nat} (hb:b ≤ n) {l:List α} (hl:l.length=n) (hD:Dm dom l):∀ (d i:Nat),b - i ≤ d → a < i → i ≤ b → Sorted lt a i l →
    ∃ i':Nat,RT polSl 88 (sub [1,1,0,1,0,0,1,0,0,0,0] B88) (env88 (.sl db 0 n cap n 1) (.int .i64 (a:Int)) (.int .i64 (b:Int)) (.func 64 [] []) (.bool false) (.int .i64 (i:Int)) (.int .i64 (k:Int)) Ud Ud) (Mm enc H db l T) (.exit 2) (env88 (.sl db 0 n cap n 1) (.int .i64 (a:Int)) (.int .i64 (b:Int)) (.func 64 [] []) (.bool false) (.int .i64 (i':Int)) (.int .i64 (k:Int)) Ud Ud) (Mm enc H db l T)∧(a < i'∧i' ≤ b)∧Sorted lt a i' l∧(i' < b → lt (at_ l i') (at_ l (i' - 1))):=by
  have hn:=S.nb
  intro d
  induction d with
  | zero =>
    intro i hd ha hi hS
    exact ⟨i,lpo (pi_e_2 0 db n cap (Mm enc H db l T) 0 a b i k (by omega)),by omega,hS,fun h=>by omega⟩
  | succ d ih =>
    intro i hd ha hi hS
    by_cases c0:i < b
    · by_cases c:lt (at_ l i) (at_ l (i - 1))
      · obtain ⟨cc,N,hN,hc⟩:=S.ct (T:=T) hl hT (hD.at (i:=i) (by omega)) (hD.at (i:=i - 1) (by omega)) c
        have st:=pi_e_0 N db n cap (Mm enc H db l T) 0 a b i k (y11:=Ud) (y12:=Ud) (by omega) (ixs (i:=i) rfl (by omega)) (S.ld l T _ hl (by omega)) (ixs (i:=i - 1) (wrap_pred (by omega) (by omega)) (by omega)) (S.ld l T _ hl (by omega)) hN hc
        exact ⟨i,lpo (st),by omega,hS,fun _=>c⟩
      · obtain ⟨cc,N,hN,hc⟩:=S.cf (T:=T) hl hT (hD.at (i:=i) (by omega)) (hD.at (i:=i - 1) (by omega)) c
        have st:=pi_e_1 N db n cap (Mm enc H db l T) 0 a b i k (y11:=Ud) (y12:=Ud) (by omega) (ixs (i:=i) rfl (by omega)) (S.ld l T _ hl (by omega)) (ixs (i:=i - 1) (wrap_pred (by omega) (by omega)) (by omega)) (S.ld l T _ hl (by omega)) hN hc
        rw [wrap_succ (by omega)] at st
        obtain ⟨i',r,q⟩:=ih (i+1) (by omega) (by omega) (by omega) (sorted_more hL hS c)
        exact ⟨i',lop (st) (gcM _ _ _ _ _ rfl) (r),q⟩
    · exact ⟨i,lpo (pi_e_2 0 db n cap (Mm enc H db l T) 0 a b i k (by omega)),by omega,hS,fun h=>by omega⟩
def Flo (lt:α → α → Prop) (a b:Nat) (l:List α):Prop:=0 < a → ∀ k,a ≤ k → k < b → ¬ lt (at_ l k) (at_ l (a - 1))
theorem Flo.sw {a b:Nat} {l l':List α} (h:Flo lt a b l) (hb:b ≤ l.length) (hs:Sw a b l l'):Flo lt a b l':=fun h0=>by
  rw [hs.out hb (k:=a - 1) (by omega)]
  exact hs.all hb (Q:=fun x=>¬ lt x (at_ l (a - 1))) (Nat.le_refl _) (Nat.le_refl _) (h h0)
theorem pi_left (S:So enc lt dom H db n) (hL:Lin lt) {T:Heap} (hT:mxs T=0) {a b i k:Nat} (hi:i < b) (hb:b ≤ n):∀ (j:Nat) (l:List α),l.length=n → j < i → a ≤ j → Dm dom l → Flo lt a b l → Sink lt a i j l →
    ∃ y l',RT polSl 88 (sub [1,1,0,1,0,0,1,0,0,1,1,1,1,0,1,0,1,0] B88) (env88 (.sl db 0 n cap n 1) (.int .i64 (a:Int)) (.int .i64 (b:Int)) (.func 64 [] []) (.bool false) (.int .i64 (i:Int)) (.int .i64 (k:Int)) (.int .i64 (j:Int)) Ud) (Mm enc H db l T) (.exit 4) (env88 (.sl db 0 n cap n 1) (.int .i64 (a:Int)) (.int .i64 (b:Int)) (.func 64 [] []) (.bool false) (.int .i64 (i:Int)) (.int .i64 (k:Int)) y Ud) (Mm enc H db l' T)∧Sw a i l l'∧Sorted lt a i l':=by
  have hn:=S.nb
  intro j
  induction j with
  | zero =>
    intro l hl hj ha hD hF hS
    exact ⟨_,l,lpo (pi_k_2 0 db n cap (Mm enc H db l T) 0 a b i k 0 (by omega)),.refl,sink_end hL hS (.inl (Nat.zero_le _))⟩
  | succ j ih =>
    intro l hl hj ha hD hF hS
    have hw:IntKind.i64.wrap (((j+1:Nat):Int) - 1)=((j:Nat):Int):=wrap_pred (j:=j+1) (by omega) (by omega)
    by_cases c2:lt (at_ l (j+1)) (at_ l j)
    · have ha':a < j+1:=by
        rcases Nat.lt_or_ge a (j+1) with h | h
        · exact h
        · exfalso
          have e:a=j+1:=by omega
          have:=hF (by omega) (j+1) (by omega) (by omega)
          rw [show a - 1=j by omega] at this
          exact this c2
      obtain ⟨cc,N,hN,hc⟩:=S.ct (T:=T) hl hT (hD.at (i:=j+1) (by omega)) (hD.at (i:=j) (by omega)) c2
      obtain ⟨s1,s2⟩:=S.st2 (T:=T) hl (i:=j+1) (j:=j) (by omega) (by omega)
      have sw:Sw a i l (swp l (j+1) j):=Sw.one (by omega) (by omega) (by omega) (by omega)
      have st:=pi_k_0 N db n cap (Mm enc H db l T) 0 a b i k (j+1) (y12:=Ud) (by omega) (ixs (i:=j+1) rfl (by omega)) (S.ld l T _ hl (by omega)) (ixs hw (by omega)) (S.ld l T _ hl (by omega)) hN hc
        (ixs hw (by omega)) (S.ld l T _ hl (by omega)) (ixs (i:=j+1) rfl (by omega)) (S.ld l T _ hl (by omega)) (ixs (i:=j+1) rfl (by omega)) s1 (ixs hw (by omega)) s2
      rw [hw] at st
      obtain ⟨y,l',r,q1,q2⟩:=ih (swp l (j+1) j) (by rw [swp_len]; exact hl) (by omega) (by omega) (hD.sw sw (by omega)) (hF.sw (by omega) (sw.mono (Nat.le_refl _) (by omega))) (sink_step hL (j:=j+1) (by omega) (by omega) ha' hS c2)
      exact ⟨y,l',lop (st) (gcM _ _ _ _ _ rfl) (r),sw.trans q1,q2⟩
    · obtain ⟨cc,N,hN,hc⟩:=S.cf (T:=T) hl hT (hD.at (i:=j+1) (by omega)) (hD.at (i:=j) (by omega)) c2
      have st:=pi_k_1 N db n cap (Mm enc H db l T) 0 a b i k (j+1) (y12:=Ud) (by omega) (ixs (i:=j+1) rfl (by omega)) (S.ld l T _ hl (by omega)) (ixs hw (by omega)) (S.ld l T _ hl (by omega)) hN hc
      exact ⟨_,l,lpo (st),.refl,sink_end hL hS (.inr c2)⟩
theorem pi_right (S:So enc lt dom H db n) {T:Heap} (hT:mxs T=0) {a b i k:Nat} (hb:b ≤ n):∀ (d w:Nat) (l:List α),b - w ≤ d → l.length=n → i < w → Dm dom l →
    ∃ y l',RT polSl 88 (sub [1,1,0,1,0,0,1,0,0,1,1,1,1,1,1,0,1,0] B88) (env88 (.sl db 0 n cap n 1) (.int .i64 (a:Int)) (.int .i64 (b:Int)) (.func 64 [] []) (.bool false) (.int .i64 (i:Int)) (.int .i64 (k:Int)) Ud (.int .i64 (w:Int))) (Mm enc H db l T) (.exit 6) (env88 (.sl db 0 n cap n 1) (.int .i64 (a:Int)) (.int .i64 (b:Int)) (.func 64 [] []) (.bool false) (.int .i64 (i:Int)) (.int .i64 (k:Int)) Ud y) (Mm enc H db l' T)∧Sw i b l l':=by
  have hn:=S.nb
  intro d
  induction d with
  | zero =>
    intro w l hd hl hw hD
    exact ⟨_,l,lpo (pi_n_2 0 db n cap (Mm enc H db l T) 0 a b i k w (by omega)),.refl⟩
  | succ d ih =>
    intro w l hd hl hi hD
    by_cases c0:w < b
    · have hw:IntKind.i64.wrap ((w:Int) - 1)=((w - 1:Nat):Int):=wrap_pred (by omega) (by omega)
      by_cases c:lt (at_ l w) (at_ l (w - 1))
      · obtain ⟨cc,N,hN,hc⟩:=S.ct (T:=T) hl hT (hD.at (i:=w) (by omega)) (hD.at (i:=w - 1) (by omega)) c
        obtain ⟨s1,s2⟩:=S.st2 (T:=T) hl (i:=w) (j:=w - 1) (by omega) (by omega)
        have sw:Sw i b l (swp l w (w - 1)):=Sw.one (by omega) (by omega) (by omega) (by omega)
        have st:=pi_n_0 N db n cap (Mm enc H db l T) 0 a b i k w (y11:=Ud) (by omega) (ixs (i:=w) rfl (by omega)) (S.ld l T _ hl (by omega)) (ixs hw (by omega)) (S.ld l T _ hl (by omega)) hN hc
          (ixs hw (by omega)) (S.ld l T _ hl (by omega)) (ixs (i:=w) rfl (by omega)) (S.ld l T _ hl (by omega)) (ixs (i:=w) rfl (by omega)) s1 (ixs hw (by omega)) s2
        rw [wrap_succ (by omega)] at st
        obtain ⟨y,l',r,q1⟩:=ih (w+1) (swp l w (w - 1)) (by omega) (by rw [swp_len]; exact hl) (by omega) (hD.sw sw (by omega))
        exact ⟨y,l',lop (st) (gcM _ _ _ _ _ rfl) (r),sw.trans q1⟩
      · obtain ⟨cc,N,hN,hc⟩:=S.cf (T:=T) hl hT (hD.at (i:=w) (by omega)) (hD.at (i:=w - 1) (by omega)) c
        have st:=pi_n_1 N db n cap (Mm enc H db l T) 0 a b i k w (y11:=Ud) (by omega) (ixs (i:=w) rfl (by omega)) (S.ld l T _ hl (by omega)) (ixs hw (by omega)) (S.ld l T _ hl (by omega)) hN hc
        exact ⟨_,l,lpo (st),.refl⟩
    · exact ⟨_,l,lpo (pi_n_2 0 db n cap (Mm enc H db l T) 0 a b i k w (by omega)),.refl⟩
theorem pi_L (S:So enc lt dom H db n) (hL:Lin lt) {T:Heap} (hT:mxs T=0) {a b i k:Nat} (hai:a < i) (hi:i < b) (hb:b ≤ n) {l:List α} (hl:l.length=n) (hD:Dm dom l) (hF:Flo lt a b l) (hS:Sorted lt a (i - 1) l) :
    ∃ y l',RT polSl 88 (sub [1,1,0,1,0,0,1,0,0,1,1,1,1,0] B88) (env88 (.sl db 0 n cap n 1) (.int .i64 (a:Int)) (.int .i64 (b:Int)) (.func 64 [] []) (.bool false) (.int .i64 (i:Int)) (.int .i64 (k:Int)) Ud Ud) (Mm enc H db l T) .normal (env88 (.sl db 0 n cap n 1) (.int .i64 (a:Int)) (.int .i64 (b:Int)) (.func 64 [] []) (.bool false) (.int .i64 (i:Int)) (.int .i64 (k:Int)) y Ud) (Mm enc H db l' T)∧Sw a i l l'∧Sorted lt a i l':=by
  have hn:=S.nb
  have hw:IntKind.i64.wrap ((i:Int) - (a:Int))=((i - a:Nat):Int):=(by rw [wrap_id (by omega) (by omega)]; omega)
  by_cases c:2 ≤ i - a
  · have t0:=pi_i_0 0 db n cap (Mm enc H db l T) 0 a b i k (y11:=Ud) (y12:=Ud) (by rw [hw]; omega)
    have t1:=pi_j_0 0 db n cap (Mm enc H db l T) 0 a b i k (y11:=Ud) (y12:=Ud)
    rw [wrap_pred (by omega) (by omega)] at t1
    have hk:Sink lt a i (i - 1) l:=by
      have:=sink_start (i:=i - 1) hS
      rwa [show i - 1+1=i by omega] at this
    obtain ⟨y,l',r,q1,q2⟩:=pi_left S hL (cap:=cap) (k:=k) hT hi hb (i - 1) l hl (by omega) (by omega) hD hF hk
    exact ⟨y,l',sq (t0) (RunsTo.cond (y:=.tmp 65) (t:=true) (c:=sub [1,1,0,1,0,0,1,0,0,1,1,1,1,0,1] B88) (a:=sub [1,1,0,1,0,0,1,0,0,1,1,1,1,0,1,0] B88) (b:=sub [1,1,0,1,0,0,1,0,0,1,1,1,1,0,1,1] B88) (by kernel_rfl) rfl (sq (t1) (bke (c:=sub [1,1,0,1,0,0,1,0,0,1,1,1,1,0,1,0,1] B88) (r)) (c:=sub [1,1,0,1,0,0,1,0,0,1,1,1,1,0,1,0] B88))) (c:=sub [1,1,0,1,0,0,1,0,0,1,1,1,1,0] B88),q1,q2⟩
  · have t0:=pi_i_1 0 db n cap (Mm enc H db l T) 0 a b i k (y11:=Ud) (y12:=Ud) (by rw [hw]; omega)
    refine ⟨_,l,sq (t0) (RunsTo.cond (y:=.tmp 65) (t:=false) (c:=sub [1,1,0,1,0,0,1,0,0,1,1,1,1,0,1] B88) (a:=sub [1,1,0,1,0,0,1,0,0,1,1,1,1,0,1,0] B88) (b:=sub [1,1,0,1,0,0,1,0,0,1,1,1,1,0,1,1] B88) (by kernel_rfl) rfl (RunsTo.skip (E:=(env88 (.sl db 0 n cap n 1) (.int .i64 (a:Int)) (.int .i64 (b:Int)) (.func 64 [] []) (.bool false) (.int .i64 (i:Int)) (.int .i64 (k:Int)) Ud Ud)) (by kernel_rfl) (by kernel_rfl))) (c:=sub [1,1,0,1,0,0,1,0,0,1,1,1,1,0] B88),.refl,?_⟩
    rw [show i=a+1 by omega]; exact sorted_one
theorem pi_R (S:So enc lt dom H db n) {T:Heap} (hT:mxs T=0) {a b i k:Nat} {y0:HV} (hi:i < b) (hb:b ≤ n) {l:List α} (hl:l.length=n) (hD:Dm dom l) :
    ∃ y y' l',RT polSl 88 (sub [1,1,0,1,0,0,1,0,0,1,1,1,1,1] B88) (env88 (.sl db 0 n cap n 1) (.int .i64 (a:Int)) (.int .i64 (b:Int)) (.func 64 [] []) (.bool false) (.int .i64 (i:Int)) (.int .i64 (k:Int)) y0 Ud) (Mm enc H db l T) .normal (env88 (.sl db 0 n cap n 1) (.int .i64 (a:Int)) (.int .i64 (b:Int)) (.func 64 [] []) (.bool false) (.int .i64 (i:Int)) (.int .i64 (k:Int)) y y') (Mm enc H db l' T)∧Sw i b l l':=by
  have hn:=S.nb
  have hw:IntKind.i64.wrap ((b:Int) - (i:Int))=((b - i:Nat):Int):=(by rw [wrap_id (by omega) (by omega)]; omega)
  by_cases c:2 ≤ b - i
  · have t0:=pi_l_0 0 db n cap (Mm enc H db l T) 0 a b i k (y11:=y0) (y12:=Ud) (by rw [hw]; omega)
    have t1:=pi_m_0 0 db n cap (Mm enc H db l T) 0 a b i k (y11:=y0) (y12:=Ud)
    rw [wrap_succ (by omega)] at t1
    obtain ⟨y,l',r,q1⟩:=pi_right S (cap:=cap) (a:=a) (i:=i) (k:=k) hT hb _ (i+1) l (Nat.le_refl _) hl (by omega) hD
    have r':=lpi (e0:=(env88 (.sl db 0 n cap n 1) (.int .i64 (a:Int)) (.int .i64 (b:Int)) (.func 64 [] []) (.bool false) (.int .i64 (i:Int)) (.int .i64 (k:Int)) y0 (.int .i64 ((i+1:Nat):Int)))) r (b:=sub [1,1,0,1,0,0,1,0,0,1,1,1,1,1,1,0,1,0,0] B88)
    exact ⟨_,y,l',sq (t0) (RunsTo.cond (y:=.tmp 104) (t:=true) (c:=sub [1,1,0,1,0,0,1,0,0,1,1,1,1,1,1] B88) (a:=sub [1,1,0,1,0,0,1,0,0,1,1,1,1,1,1,0] B88) (b:=sub [1,1,0,1,0,0,1,0,0,1,1,1,1,1,1,1] B88) (by kernel_rfl) rfl (sq (t1) (bke (c:=sub [1,1,0,1,0,0,1,0,0,1,1,1,1,1,1,0,1] B88) (r')) (c:=sub [1,1,0,1,0,0,1,0,0,1,1,1,1,1,1,0] B88))) (c:=sub [1,1,0,1,0,0,1,0,0,1,1,1,1,1] B88),q1⟩
  · have t0:=pi_l_1 0 db n cap (Mm enc H db l T) 0 a b i k (y11:=y0) (y12:=Ud) (by rw [hw]; omega)
    exact ⟨_,_,l,sq (t0) (RunsTo.cond (y:=.tmp 104) (t:=false) (c:=sub [1,1,0,1,0,0,1,0,0,1,1,1,1,1,1] B88) (a:=sub [1,1,0,1,0,0,1,0,0,1,1,1,1,1,1,0] B88) (b:=sub [1,1,0,1,0,0,1,0,0,1,1,1,1,1,1,1] B88) (by kernel_rfl) rfl (RunsTo.skip (E:=(env88 (.sl db 0 n cap n 1) (.int .i64 (a:Int)) (.int .i64 (b:Int)) (.func 64 [] []) (.bool false) (.int .i64 (i:Int)) (.int .i64 (k:Int)) y0 Ud)) (by kernel_rfl) (by kernel_rfl))) (c:=sub [1,1,0,1,0,0,1,0,0,1,1,1,1,1] B88),.refl⟩
theorem pi_loop (S:So enc lt dom H db n) (hL:Lin lt) {T:Heap} (hT:mxs T=0) {a b:Nat} (hb:b ≤ n):∀ (d k i:Nat) (l:List α),k+d=5 → a < i → i ≤ b → l.length=n → Dm dom l → Flo lt a b l → Sorted lt a i l →
    ∃ x E l',RT polSl 88 (sub [1,1,0,1,0] B88) (env88 (.sl db 0 n cap n 1) (.int .i64 (a:Int)) (.int .i64 (b:Int)) (.func 64 [] []) (.bool false) (.int .i64 (i:Int)) (.int .i64 (k:Int)) Ud Ud) (Mm enc H db l T) x E (Mm enc H db l' T)∧Sw a b l l'∧((x=.exit 0∧∃ y5 y6:Nat,E=(env88 (.sl db 0 n cap n 1) (.int .i64 (a:Int)) (.int .i64 (b:Int)) (.func 64 [] []) (.bool false) (.int .i64 (y5:Int)) (.int .i64 (y6:Int)) Ud Ud)) ∨ (x=.ret∧∃ bb,resultsV Tp Try.f88 E (Mm enc H db l' T)=some (.bool bb)∧(bb=true → Sorted lt a b l'))):=by
  have hn:=S.nb
  intro d
  induction d with
  | zero =>
    intro k i l hk ha hi hl hD hF hS
    exact ⟨_,_,l,lpo (sqo (pi_d_1 0 db n cap (Mm enc H db l T) 0 a b i k (by omega) (y11:=Ud) (y12:=Ud)) (c:=sub [1,1,0,1,0,0] B88) (b:=sub [1,1,0,1,0,0,1] B88)),.refl,.inl ⟨rfl,_,_,rfl⟩⟩
  | succ d ih =>
    intro k i l hk ha hi hl hD hF hS
    have t0:=pi_d_0 0 db n cap (Mm enc H db l T) 0 a b i k (by omega) (y11:=Ud) (y12:=Ud)
    obtain ⟨i',r,q1,q2,q3⟩:=pi_scan S hL (cap:=cap) (k:=k) hT hb hl hD _ i (Nat.le_refl _) ha hi hS
    by_cases c:i'=b
    · have t1:=pi_f_0 0 db n cap (Mm enc H db l T) 0 a b i' k (by omega) (y11:=Ud) (y12:=Ud)
      have st:=sq (t0) (sqo (RunsTo.block_ret (i:=1) (c:=sub [1,1,0,1,0,0,1,0] B88) (sq (bke (c:=sub [1,1,0,1,0,0,1,0,0,0] B88) (r)) (sqo (t1) (c:=sub [1,1,0,1,0,0,1,0,0,1] B88) (b:=sub [1,1,0,1,0,0,1,0,0,1,1] B88)) (c:=sub [1,1,0,1,0,0,1,0,0] B88)) (by kernel_rfl)) (c:=sub [1,1,0,1,0,0,1] B88) (b:=sub [1,1,0,1,0,0,1,1] B88)) (c:=sub [1,1,0,1,0,0] B88)
      exact ⟨_,_,l,lpo (st),.refl,.inr ⟨rfl,true,by kernel_rfl,fun _=>c ▸ q2⟩⟩
    · have t1:=pi_f_1 0 db n cap (Mm enc H db l T) 0 a b i' k (by omega) (y11:=Ud) (y12:=Ud)
      have hw:IntKind.i64.wrap ((b:Int) - (a:Int))=((b - a:Nat):Int):=(by rw [wrap_id (by omega) (by omega)]; omega)
      by_cases c2:b - a < 50
      · have t2:=pi_g_0 0 db n cap (Mm enc H db l T) 0 a b i' k (by rw [hw]; omega) (y11:=Ud) (y12:=Ud)
        have st:=sq (t0) (sqo (RunsTo.block_ret (i:=1) (c:=sub [1,1,0,1,0,0,1,0] B88) (sq (bke (c:=sub [1,1,0,1,0,0,1,0,0,0] B88) (r)) (sq (t1) (sqo (t2) (c:=sub [1,1,0,1,0,0,1,0,0,1,1] B88) (b:=sub [1,1,0,1,0,0,1,0,0,1,1,1] B88)) (c:=sub [1,1,0,1,0,0,1,0,0,1] B88)) (c:=sub [1,1,0,1,0,0,1,0,0] B88)) (by kernel_rfl)) (c:=sub [1,1,0,1,0,0,1] B88) (b:=sub [1,1,0,1,0,0,1,1] B88)) (c:=sub [1,1,0,1,0,0] B88)
        exact ⟨_,_,l,lpo (st),.refl,.inr ⟨rfl,false,by kernel_rfl,fun h=>by cases h⟩⟩
      · have t2:=pi_g_1 0 db n cap (Mm enc H db l T) 0 a b i' k (by rw [hw]; omega) (y11:=Ud) (y12:=Ud)
        have hp:IntKind.i64.wrap ((i':Int) - 1)=((i' - 1:Nat):Int):=wrap_pred (by omega) (by omega)
        obtain ⟨s1,s2⟩:=S.st2 (T:=T) hl (i:=i') (j:=i' - 1) (by omega) (by omega)
        have t3:=pi_h_0 0 db n cap (Mm enc H db l T) 0 a b i' k (y11:=Ud) (y12:=Ud) (ixs hp (by omega)) (S.ld l T _ hl (by omega)) (ixs (i:=i') rfl (by omega)) (S.ld l T _ hl (by omega)) (ixs (i:=i') rfl (by omega)) s1 (ixs hp (by omega)) s2
        have sw:Sw a b l (swp l i' (i' - 1)):=Sw.one (by omega) (by omega) (by omega) (by omega)
        have hS1:Sorted lt a (i' - 1) (swp l i' (i' - 1)):=fun p q h1 h2 h3=>by
          rw [swp_ne (by omega) (by omega) (by omega) (by omega),swp_ne (by omega) (by omega) (by omega) (by omega)]
          exact q2 p q h1 h2 (by omega)
        have hl1:=sw_len sw hl
        have hD1:=hD.sw sw (by omega)
        have hF1:=hF.sw (by omega) sw
        generalize swp l i' (i' - 1)=l1 at t3 sw hS1 hl1 hD1 hF1 s2
        obtain ⟨y,l2,r2,w1,w2⟩:=pi_L S hL (cap:=cap) (k:=k) hT q1.1 (by omega) hb hl1 hD1 hF1 hS1
        have hl2:=sw_len w1 hl1
        have hD2:=hD1.sw w1 (by omega)
        have hF2:=hF1.sw (by omega) (w1.mono (Nat.le_refl _) (by omega))
        obtain ⟨y',y2,l3,r3,w3⟩:=pi_R S (cap:=cap) (a:=a) (k:=k) (y0:=y) hT (i:=i') (by omega) hb hl2 hD2
        have hl3:=sw_len w3 hl2
        have sw3:Sw a b l2 l3:=w3.mono (by omega) (Nat.le_refl _)
        have hS3:Sorted lt a i' l3:=fun p q h1 h2 h3=>by
          rw [w3.out (by omega) (k:=q) (by omega),w3.out (by omega) (k:=p) (by omega)]
          exact w2 p q h1 h2 h3
        have t6:=pi_o_0 0 db n cap (Mm enc H db l3 T) 0 a b i' k (y11:=y') (y12:=y2)
        rw [wrap_succ (by omega)] at t6
        have st:=sq (t0) (sq (RunsTo.block_normal (i:=1) (c:=sub [1,1,0,1,0,0,1,0] B88) (sq (bke (c:=sub [1,1,0,1,0,0,1,0,0,0] B88) (r)) (sq (t1) (sq (t2) (sq (t3) (sq (r2) (r3) (c:=sub [1,1,0,1,0,0,1,0,0,1,1,1,1] B88)) (c:=sub [1,1,0,1,0,0,1,0,0,1,1,1] B88)) (c:=sub [1,1,0,1,0,0,1,0,0,1,1] B88)) (c:=sub [1,1,0,1,0,0,1,0,0,1] B88)) (c:=sub [1,1,0,1,0,0,1,0,0] B88)) (by kernel_rfl)) (t6) (c:=sub [1,1,0,1,0,0,1] B88)) (c:=sub [1,1,0,1,0,0] B88)
        obtain ⟨x,E,l',rr,z1,z2⟩:=ih (k+1) i' l3 (by omega) q1.1 q1.2 hl3 (hD2.sw w3 (by omega)) (hF2.sw (by omega) sw3) hS3
        exact ⟨x,E,l',lop (st) (gcM _ _ _ _ _ rfl) (rr),sw.trans ((w1.mono (Nat.le_refl _) (by omega)).trans (sw3.trans z1)),z2⟩
theorem pin_ok (S:So enc lt dom H db n) (hL:Lin lt) {T:Heap} (hT:mxs T=0) {a b:Nat} (hab:a < b) (hb:b ≤ n) {l:List α} (hl:l.length=n) (hD:Dm dom l) (hF:Flo lt a b l) :
    ∃ bb l',ClL 88 [.sl db 0 n cap n 1,.int .i64 (a:Int),.int .i64 (b:Int),.func 64 [] []] (Mm enc H db l T) (.bool bb) (Mm enc H db l' T)∧Sw a b l l'∧(bb=true → Sorted lt a b l'):=by
  have hn:=S.nb
  have t0:=pi_a_0 0 db n cap (Mm enc H db l T) 0 a b
  have t1:=pi_b_0 0 db n cap (Mm enc H db l T) 0 a b (y9:=Ud) (y10:=Ud) (y11:=Ud) (y12:=Ud)
  rw [wrap_succ (by omega)] at t1
  have t2:=pi_c_0 0 db n cap (Mm enc H db l T) 0 a b (a+1) (y10:=Ud) (y11:=Ud) (y12:=Ud)
  obtain ⟨x,E,l',r,q1,q2⟩:=pi_loop S hL (cap:=cap) hT hb 5 0 (a+1) l rfl (by omega) (by omega) hl hD hF sorted_one
  rcases q2 with ⟨rfl,y5,y6,rfl⟩ | ⟨rfl,bb,hv,hs⟩
  · have z:=pi_p_0 0 db n cap (Mm enc H db l' T) 0 a b y5 y6 (y11:=Ud) (y12:=Ud)
    have t:=sq (t0) (sq (t1) (sq (sq (t2) (bke (c:=sub [1,1,0,1] B88) (r)) (c:=sub [1,1,0] B88)) (z) (c:=sub [1,1] B88)) (c:=sub [1] B88)) (c:=B88)
    have hc:=CallsTo.shared (P:=Tp) (pol:=polSl) (g:=88) (fn:=Try.f88) (cd:=B88) (args:=[.sl db 0 n cap n 1,.int .i64 (a:Int),.int .i64 (b:Int),.func 64 [] []]) (v:=.bool false) (by kernel_rfl) (by kernel_rfl) (by kernel_rfl) (by kernel_rfl) t (by kernel_rfl) (by simp) (by kernel_rfl)
    rw [gcM _ _ _ _ _ rfl] at hc
    exact ⟨false,l',hc,q1,fun h=>by cases h⟩
  · have t:=sq (t0) (sq (t1) (sqo (sq (t2) (RunsTo.block_ret (i:=0) (c:=sub [1,1,0,1] B88) (r) (by kernel_rfl)) (c:=sub [1,1,0] B88)) (c:=sub [1,1] B88) (b:=sub [1,1,1] B88)) (c:=sub [1] B88)) (c:=B88)
    have hc:=CallsTo.shared (P:=Tp) (pol:=polSl) (g:=88) (fn:=Try.f88) (cd:=B88) (args:=[.sl db 0 n cap n 1,.int .i64 (a:Int),.int .i64 (b:Int),.func 64 [] []]) (by kernel_rfl) (by kernel_rfl) (by kernel_rfl) (by kernel_rfl) t (by kernel_rfl) (by simp) hv
    rw [gcM _ _ _ _ _ rfl] at hc
    exact ⟨bb,l',hc,q1,hs⟩
end
end Go.Proofs.Ytaibmipamkaljaa
end
