/- A part of the proof. -/
import Derived.Test.YtaibmipamkaljaaSmA
set_option linter.unusedVariables false
set_option linter.unusedSimpArgs false
set_option linter.unnecessarySimpa false
section
open Go Go.HL
namespace Go.Proofs.Ytaibmipamkaljaa
open Go.Proofs.Try renaming prog → Tp
open Go.HL.HV renaming undef → Ud
theorem res7:Try.f7.results.toList=[.tmp 6]:=by kernel_rfl
abbrev smE (n:Int) (l1:List Int) (c0:Int) (p q i:Nat):Env:=(env7 (.int .i64 n) (.imm .arg 1 (l1.map encI)) (.int .i64 c0) (.bool false) (.sl 0 0 p none p 1) (.sl 1 0 q none q 1) (.int .i64 (i:Int)) Ud Ud Ud Ud Ud Ud Ud)
abbrev smF (n:Int) (l1:List Int) (c0:Int) (p z:Nat) (sm:Int) (j:Nat):Env:=(env7 (.int .i64 n) (.imm .arg 1 (l1.map encI)) (.int .i64 c0) (.bool false) (.sl 0 0 p none p 1) Ud Ud Ud (.sl 2 0 z none z 1) Ud Ud Ud (.int .i64 sm) (.int .i64 (j:Int)))
section
variable {n c0:Int} {l1:List Int}
abbrev smH (X:List Int) (c:Int):Heap:=[bI X,bI (X.map (·+c))]
theorem sm_fill (a0:Int) (h1:1 ≤ n) (h2:n ≤ 20):∀ k i:Nat,((i+k:Nat):Int)=2 * n - 1 →
    RT polL7 7 (sub [1,1,1,0,1,0] B7) (smE n l1 c0 (xsP l1 i).length (xsP l1 i).length i) (smH (xsP l1 i) (modW c0 1000)) (.exit 0) (smE n l1 c0 (xsP l1 (i+k)).length (xsP l1 (i+k)).length (i+k)) (smH (xsP l1 (i+k)) (modW c0 1000)):=by
  have w:IntKind.i64.wrap (IntKind.i64.wrap (2 * n) - 1)=2 * n - 1:=by rw [wrap_id (n:=2 * n) (by omega) (by omega)]; exact wrap_id (by omega) (by omega)
  intro k
  induction k with
  | zero =>
    intro i hi
    have s:=sm_e_3 a0 (l1.map encI) c0 n (xsP l1 i).length ((xsP l1 i).map encI) (xsP l1 i).length (((xsP l1 i).map (·+modW c0 1000)).map encI) i (y10:=Ud) (y11:=Ud) (y12:=Ud) (y13:=Ud) (y14:=Ud) (y15:=Ud) (y16:=Ud) (by rw [w]; omega)
    exact lpo (s) (c:=sub [1,1,1,0,1,0] B7)
  | succ k ih =>
    intro i hi
    have hlt:(i:Int) < IntKind.i64.wrap (IntKind.i64.wrap (2 * n) - 1):=by rw [w]; omega
    have hb:=modW_bounds c0 1000 (by omega) (by omega)
    have hc:=clip_bnd (atT l1 (i:Int))
    have at1:=at_at (pol':=polL7) (by kernel_rfl) l1 (v:=(i:Int)) (by omega) (smH (xsP l1 i) (modW c0 1000))
    have mdc:=mod_at (pol':=polL7) (by kernel_rfl) (atT l1 (i:Int)) (n:=1099511627776) (by omega) (by omega) (smH (xsP l1 i) (modW c0 1000))
    have ap1:=app_ints (H:=smH (xsP l1 i) (modW c0 1000)) (b:=0) (o:=xsP l1 i) (xs:=[clip (atT l1 (i:Int))]) rfl (by rw [xsP_len,List.length_singleton]; omega) (by simp)
    have md2:=mod_at (pol':=polL7) (by kernel_rfl) c0 (n:=1000) (by omega) (by omega) [bI (xsP l1 i ++ [clip (atT l1 (i:Int))]),bI ((xsP l1 i).map (·+modW c0 1000))]
    have ap2:=app_ints (H:=[bI (xsP l1 i ++ [clip (atT l1 (i:Int))]),bI ((xsP l1 i).map (·+modW c0 1000))]) (b:=1) (o:=(xsP l1 i).map (·+modW c0 1000)) (xs:=[clip (atT l1 (i:Int))+modW c0 1000]) rfl (by rw [List.length_map,xsP_len,List.length_singleton]; omega) (by simp)
    have wv:IntKind.i64.wrap (clip (atT l1 (i:Int))+modW c0 1000)=clip (atT l1 (i:Int))+modW c0 1000:=wrap_id (by omega) (by omega)
    have el:((xsP l1 i).map (·+modW c0 1000)).length=(xsP l1 i).length:=List.length_map ..
    rw [el] at ap2
    have k1:appV (smH (xsP l1 i) (modW c0 1000)) 1 8 (.sl 0 0 (xsP l1 i).length none (xsP l1 i).length 1) [.int .i64 (clip (atT l1 (i:Int)))]=some (.sl 0 0 ((xsP l1 i).length+1) none ((xsP l1 i).length+1) 1,[.arr 1 ((xsP l1 i).map encI ++ [.int .i64 (clip (atT l1 (i:Int)))]) true 0,.arr 1 (((xsP l1 i).map (·+modW c0 1000)).map encI) true 0]) :=
      ap1.trans (by rw [List.length_append,List.length_singleton]; simp only [bI,List.map_append]; rfl)
    have k2:appV [.arr 1 ((xsP l1 i).map encI ++ [.int .i64 (clip (atT l1 (i:Int)))]) true 0,.arr 1 (((xsP l1 i).map (·+modW c0 1000)).map encI) true 0] 1 8 (.sl 1 0 (xsP l1 i).length none (xsP l1 i).length 1) [.int .i64 (IntKind.i64.wrap (clip (atT l1 (i:Int))+modW c0 1000))]=some (.sl 1 0 ((xsP l1 i).length+1) none ((xsP l1 i).length+1) 1,[.arr 1 ((xsP l1 i).map encI ++ [.int .i64 (clip (atT l1 (i:Int)))]) true 0,.arr 1 (((xsP l1 i).map (·+modW c0 1000)).map encI ++ [.int .i64 (IntKind.i64.wrap (clip (atT l1 (i:Int))+modW c0 1000))]) true 0]):=by
      rw [wv]
      have e1:(xsP l1 i).map encI ++ [.int .i64 (clip (atT l1 (i:Int)))]=(xsP l1 i ++ [clip (atT l1 (i:Int))]).map encI:=by rw [List.map_append]; rfl
      rw [e1]
      exact ap2.trans (by rw [List.length_append,List.length_singleton,el]; simp only [bI,List.map_append]; rfl)
    have md3:∀ kf,callN Tp polL7 (kf+1) 30 [.int .i64 c0,.int .i64 1000] [.arr 1 ((xsP l1 i).map encI ++ [.int .i64 (clip (atT l1 (i:Int)))]) true 0,.arr 1 (((xsP l1 i).map (·+modW c0 1000)).map encI) true 0]=some (.int .i64 (modW c0 1000),[.arr 1 ((xsP l1 i).map encI ++ [.int .i64 (clip (atT l1 (i:Int)))]) true 0,.arr 1 (((xsP l1 i).map (·+modW c0 1000)).map encI) true 0]) :=
      mod_at (pol':=polL7) (by kernel_rfl) c0 (n:=1000) (by omega) (by omega) _
    have hEnd:[Blk.arr 1 ((xsP l1 i).map encI ++ [.int .i64 (clip (atT l1 (i:Int)))]) true 0,.arr 1 (((xsP l1 i).map (·+modW c0 1000)).map encI ++ [.int .i64 (IntKind.i64.wrap (clip (atT l1 (i:Int))+modW c0 1000))]) true 0]=smH (xsP l1 (i+1)) (modW c0 1000):=by
      rw [wv,xsP_succ]; simp only [smH,bI,List.map_append]; rfl
    generalize hv:clip (atT l1 (i:Int))=v at *
    have hrun:∃ v10,RT polL7 7 (sub [1,1,1,0,1,0,0] B7) (smE n l1 c0 (xsP l1 i).length (xsP l1 i).length i) (smH (xsP l1 i) (modW c0 1000)) .normal (env7 (.int .i64 n) (.imm .arg 1 (l1.map encI)) (.int .i64 c0) (.bool false) (.sl 0 0 ((xsP l1 i).length+1) none ((xsP l1 i).length+1) 1) (.sl 1 0 ((xsP l1 i).length+1) none ((xsP l1 i).length+1) 1) (.int .i64 (IntKind.i64.wrap ((i:Int)+1))) v10 Ud Ud Ud Ud Ud Ud) (smH (xsP l1 (i+1)) (modW c0 1000)):=by
      by_cases c1:1099511627776 < atT l1 (i:Int)
      · have ev:v=modW (atT l1 (i:Int)) 1099511627776:=by rw [← hv,clip,if_pos (.inl c1)]
        rw [← hEnd]
        rw [← ev] at mdc
        exact ⟨_,sm_e_0 a0 (l1.map encI) c0 n (xsP l1 i).length ((xsP l1 i).map encI) (xsP l1 i).length (((xsP l1 i).map (·+modW c0 1000)).map encI) i (y10:=Ud) (y11:=Ud) (y12:=Ud) (y13:=Ud) (y14:=Ud) (y15:=Ud) (y16:=Ud) hlt at1 c1 mdc k1 md3 k2⟩
      · by_cases c2:atT l1 (i:Int) < -1099511627776
        · have ev:v=modW (atT l1 (i:Int)) 1099511627776:=by rw [← hv,clip,if_pos (.inr c2)]
          rw [← hEnd]
          rw [← ev] at mdc
          exact ⟨_,sm_e_1 a0 (l1.map encI) c0 n (xsP l1 i).length ((xsP l1 i).map encI) (xsP l1 i).length (((xsP l1 i).map (·+modW c0 1000)).map encI) i (y10:=Ud) (y11:=Ud) (y12:=Ud) (y13:=Ud) (y14:=Ud) (y15:=Ud) (y16:=Ud) hlt at1 c1 c2 mdc k1 md3 k2⟩
        · have ev:v=atT l1 (i:Int):=by rw [← hv,clip,if_neg (by rintro (h | h); exact c1 h; exact c2 h)]
          rw [← hEnd]
          rw [← ev] at at1 c1 c2
          exact ⟨_,sm_e_2 a0 (l1.map encI) c0 n (xsP l1 i).length ((xsP l1 i).map encI) (xsP l1 i).length (((xsP l1 i).map (·+modW c0 1000)).map encI) i (y10:=Ud) (y11:=Ud) (y12:=Ud) (y13:=Ud) (y14:=Ud) (y15:=Ud) (y16:=Ud) hlt at1 c1 c2 k1 md3 k2⟩
    obtain ⟨v10,s⟩:=hrun
    rw [wrap_succ (by omega),show (xsP l1 i).length+1=(xsP l1 (i+1)).length by rw [xsP_len,xsP_len]] at s
    have nx:=ih (i+1) (by omega)
    rw [show i+1+k=i+(k+1) by omega] at nx
    exact lop (s) (gc_eq _ rfl) (nx)
theorem sum_bnd (X:List Int) (hX:∀ k,-1099511627776 ≤ X.getD k 0∧X.getD k 0 ≤ 1099511627776):∀ (T:List Nat),-(1099511627776 * (T.length:Int)) ≤ (T.map fun q=>X.getD q 0).sum∧(T.map fun q=>X.getD q 0).sum ≤ 1099511627776 * (T.length:Int)
  | []=>by simp
  | q :: T=>by
    have h1:=sum_bnd X hX T
    have h2:=hX q
    rw [List.map_cons,List.sum_cons,List.length_cons]
    omega
theorem sm_sum (a0:Int) {X Y:List Int} {T:List Nat} {us:List Int} (hX:∀ k,-1099511627776 ≤ X.getD k 0∧X.getD k 0 ≤ 1099511627776) (hXl:X.length ≤ 1000) (hT:(T.length:Int)=n) (hn:n ≤ 20) (hb:∀ q ∈ T,q < X.length) (hs:T.Pairwise (· < ·)):∀ k j:Nat,j+k=T.length →
    RT polL7 7 (sub [1,1,1,1,1,1,1,1,0,1,0] B7) (smF n l1 c0 X.length T.length (((T.take j).map fun q=>X.getD q 0).sum) j) [bI X,bI Y,bI (T.map fun q=>((q:Nat):Int)),bI us] (.exit 2) (smF n l1 c0 X.length T.length ((T.map fun q=>X.getD q 0).sum) T.length) [bI X,bI Y,bI (T.map fun q=>((q:Nat):Int)),bI us]:=by
  intro k
  induction k with
  | zero =>
    intro j hj
    have:j=T.length:=by omega
    subst this
    rw [List.take_length]
    have s:=sm_k_5 a0 (l1.map encI) c0 n X.length (X.map encI) Y.length (Y.map encI) T.length ((T.map fun q=>((q:Nat):Int)).map encI) us.length (us.map encI) ((T.map fun q=>X.getD q 0).sum) T.length (y8:=Ud) (y9:=Ud) (y10:=Ud) (y12:=Ud) (y13:=Ud) (y14:=Ud) (by omega)
    exact lpo (s) (c:=sub [1,1,1,1,1,1,1,1,0,1,0] B7)
  | succ k ih =>
    intro j hj
    have hjl:j < T.length:=by omega
    have hzl:(T.map fun q=>((q:Nat):Int)).length=T.length:=List.length_map ..
    have hget:∀ i,i < T.length → (T.map fun q=>((q:Nat):Int)).getD i 0=((T.getD i 0:Nat):Int):=by
      intro i hi; simp [List.getD,List.getElem?_map,List.getElem?_eq_getElem hi]
    have ldz:∀ i,i < T.length → loadV Tp [bI X,bI Y,bI (T.map fun q=>((q:Nat):Int)),bI us] 3 (.ptr 2 i 0 T.length)=some (.int .i64 ((T.getD i 0:Nat):Int)):=by
      intro i hi
      have:=load_out (H:=[bI X,bI Y,bI (T.map fun q=>((q:Nat):Int)),bI us]) (k:=2) (o:=T.map fun q=>((q:Nat):Int)) rfl (y:=i) (by rw [hzl]; exact hi)
      rwa [hget i hi,hzl] at this
    have hTj:T.getD j 0=T[j]:=by simp [List.getD,List.getElem?_eq_getElem hjl]
    have hbj:T.getD j 0 < X.length:=by rw [hTj]; exact hb _ (List.getElem_mem _)
    have ldx:loadV Tp [bI X,bI Y,bI (T.map fun q=>((q:Nat):Int)),bI us] 3 (.ptr 0 (((T.getD j 0:Nat):Int).toNat) 0 X.length)=some (.int .i64 (X.getD (T.getD j 0) 0)):=by
      rw [Int.toNat_natCast]
      exact load_out (k:=0) (o:=X) rfl hbj
    have ixx:idxV Tp 22 (.sl 0 0 X.length none X.length 1) (.int .i64 ((T.getD j 0:Nat):Int))=some (.ptr 0 (((T.getD j 0:Nat):Int).toNat) 0 X.length):=ix22z (by omega) (by rw [Int.toNat_natCast]; exact hbj)
    have et:T.take (j+1)=T.take j ++ [T.getD j 0]:=by rw [List.take_succ_eq_append_getElem hjl,hTj]
    have hsm:=sum_bnd X hX (T.take j)
    have hx1:=hX (T.getD j 0)
    have hlt:(T.take j).length ≤ 20:=by rw [List.length_take]; omega
    have es:IntKind.i64.wrap (((T.take j).map fun q=>X.getD q 0).sum+X.getD (T.getD j 0) 0)=((T.take (j+1)).map fun q=>X.getD q 0).sum:=by
      rw [et,List.map_append,List.sum_append,List.map_cons,List.map_nil,List.sum_cons,List.sum_nil,Int.add_zero]
      exact wrap_id (by omega) (by omega)
    have nx:=ih (j+1) (by omega)
    by_cases c:0 < j
    · have hlt2:T.getD (j - 1) 0 < T.getD j 0:=by
        have h1:T.getD (j - 1) 0=T[j - 1]:=by simp [List.getD,List.getElem?_eq_getElem (show j - 1 < T.length by omega)]
        rw [h1,hTj]
        exact (List.pairwise_iff_getElem.1 hs) (j - 1) j (by omega) hjl (by omega)
      have wp:IntKind.i64.wrap ((j:Int) - 1)=((j - 1:Nat):Int):=wrap_pred c (by omega)
      have s:=sm_k_3 a0 (l1.map encI) c0 n X.length (X.map encI) Y.length (Y.map encI) T.length ((T.map fun q=>((q:Nat):Int)).map encI) us.length (us.map encI) (((T.take j).map fun q=>X.getD q 0).sum) j (y8:=Ud) (y9:=Ud) (y10:=Ud) (y12:=Ud) (y13:=Ud) (y14:=Ud) (by omega) (ix22 hjl) (ldz j hjl) (by omega) (ix22 hjl) (ldz j hjl) (by omega) (by omega) (by rw [wp]; exact ix22 (by omega)) (ldz (j - 1) (by omega)) (ix22 hjl) (ldz j hjl) (by omega) (ix22 hjl) (ldz j hjl) ixx ldx
      rw [es,wrap_succ (by omega)] at s
      exact lop (s) (gc_eq _ rfl) (nx)
    · have s:=sm_k_4 a0 (l1.map encI) c0 n X.length (X.map encI) Y.length (Y.map encI) T.length ((T.map fun q=>((q:Nat):Int)).map encI) us.length (us.map encI) (((T.take j).map fun q=>X.getD q 0).sum) j (y8:=Ud) (y9:=Ud) (y10:=Ud) (y12:=Ud) (y13:=Ud) (y14:=Ud) (by omega) (ix22 hjl) (ldz j hjl) (by omega) (ix22 hjl) (ldz j hjl) (by omega) (by omega) (ix22 hjl) (ldz j hjl) ixx ldx
      rw [es,wrap_succ (by omega)] at s
      exact lop (s) (gc_eq _ rfl) (nx)
end
theorem sumsMultiples_law (a0:Int) (l1:List Int) (c0:Int):∃ E H,RT polL7 7 B7 (args0 [.int .i64 a0,.imm .arg 1 (l1.map encI),.int .i64 c0]) [] .ret E H∧E.get 6=.bool true:=by
  have hb:=modW_bounds a0 20 (by omega) (by omega)
  have hc:=modW_bounds c0 1000 (by omega) (by omega)
  have a:=sm_a_0 a0 (l1.map encI) c0
  have b:=sm_b_0 a0 (l1.map encI) c0 (y7:=Ud) (y8:=Ud) (y9:=Ud) (y10:=Ud) (y11:=Ud) (y12:=Ud) (y13:=Ud) (y14:=Ud) (y15:=Ud) (y16:=Ud) (mod_at (pol':=polL7) (by kernel_rfl) a0 (n:=20) (by omega) (by omega) [])
  have wn:IntKind.i64.wrap (1+modW a0 20)=1+modW a0 20:=wrap_id (by omega) (by omega)
  rw [wn] at b
  generalize hn:1+modW a0 20=n at *
  have h1:1 ≤ n:=by omega
  have h2:n ≤ 20:=by omega
  have c:=sm_c_0 a0 (l1.map encI) c0 n (y7:=Ud) (y8:=Ud) (y9:=Ud) (y10:=Ud) (y11:=Ud) (y12:=Ud) (y13:=Ud) (y14:=Ud) (y15:=Ud) (y16:=Ud)
  have d:=sm_d_0 a0 (l1.map encI) c0 n 0 [] 0 [] (y9:=Ud) (y10:=Ud) (y11:=Ud) (y12:=Ud) (y13:=Ud) (y14:=Ud) (y15:=Ud) (y16:=Ud)
  have lp:=sm_fill (n:=n) (c0:=c0) (l1:=l1) a0 h1 h2 (2 * n - 1).toNat 0 (by omega)
  rw [Nat.zero_add] at lp
  have lp':=lpi (e0:=(env7 (.int .i64 n) (.imm .arg 1 (l1.map encI)) (.int .i64 c0) (.bool false) (.sl 0 0 0 none 0 1) (.sl 1 0 0 none 0 1) (.int .i64 0) Ud Ud Ud Ud Ud Ud Ud)) lp (b:=sub [1,1,1,0,1,0,0] B7)
  have hXl:((xsP l1 (2 * n - 1).toNat).length:Int)=2 * n - 1:=by rw [xsP_len]; omega
  have hXb:=xsP_get l1 (2 * n - 1).toNat
  have eL:(xsP l1 (2 * n - 1).toNat).length=(2 * n - 1).toNat:=xsP_len ..
  generalize hX:xsP l1 (2 * n - 1).toNat=X at *
  rw [← eL] at lp lp'
  have ho:=open_all h1 h2 hXl
  have ho2:=open_all h1 h2 (l:=X.map (·+modW c0 1000)) (by rw [List.length_map]; exact hXl)
  have x1:exT n X=some (partI (gN n) (X.map (modX n)) (n,(0,0)),0):=by rw [exT,if_pos ⟨⟨h1,h2⟩,hXl⟩,if_pos ho]
  have x2:exT n (X.map (·+modW c0 1000))=some (partI (gN n) (X.map (modX n)) (n,(0,0)),0):=by
    rw [exT,if_pos ⟨⟨h1,h2⟩,by rw [List.length_map]; exact hXl⟩,if_pos ho2,← partI_shift (by omega)]
  have pl:=partT_len (gN_ok h1 (by omega)) (X.map (modX n)) 0 (n,(0,0)) (fun x hx=>by
    obtain ⟨y,_,rfl⟩:=List.mem_map.1 hx
    exact modX_ok (by omega) y) ho
  obtain ⟨p1,p2,p3⟩:=part_props (by omega) (by omega) X 0 (n,(0,0)) ho (fun q=>X.getD q 0) (fun k _=>by rw [Nat.zero_add])
  simp only [partI] at x1 x2
  generalize hT:partT (gN n) (X.map (modX n)) 0 (n,(0,0))=T at *
  simp only at pl p1
  have q1:=exactly_at (pol':=polL7) (by kernel_rfl) (v:=.sl 0 0 X.length none X.length 1) (H:=smH X (modW c0 1000)) (arg_sl rfl rfl) x1
  have hZl:(T.map fun q=>((q:Nat):Int)).length=T.length:=List.length_map ..
  have hYl:(X.map (·+modW c0 1000)).length=X.length:=List.length_map ..
  rw [hZl] at q1
  have q2:=exactly_at (pol':=polL7) (by kernel_rfl) (v:=.sl 1 0 X.length none X.length 1) (H:=smH X (modW c0 1000) ++ [bI (T.map fun q=>((q:Nat):Int))]) (arg_sl hYl rfl) x2
  rw [hZl] at q2
  have f:=sm_f_0 a0 (l1.map encI) c0 n X.length (X.map encI) X.length ((X.map (·+modW c0 1000)).map encI) T.length ((T.map fun q=>((q:Nat):Int)).map encI) (y9:=.int .i64 (X.length:Int)) (y10:=Ud) (y11:=Ud) (y12:=Ud) (y13:=Ud) (y14:=Ud) (y15:=Ud) (y16:=Ud) q1
  have gq:=sm_g_0 a0 (l1.map encI) c0 n X.length (X.map encI) X.length ((X.map (·+modW c0 1000)).map encI) T.length ((T.map fun q=>((q:Nat):Int)).map encI) T.length ((T.map fun q=>((q:Nat):Int)).map encI) (y9:=.int .i64 (X.length:Int)) (y10:=Ud) (y13:=Ud) (y14:=Ud) (y15:=Ud) (y16:=Ud) q2
  have it:=ints_at (pol':=polL7) (by kernel_rfl) (a:=T.map fun q=>((q:Nat):Int)) (b:=T.map fun q=>((q:Nat):Int)) (v1:=.sl 2 0 T.length none T.length 1) (v2:=.sl 3 0 T.length none T.length 1) (H:=smH X (modW c0 1000) ++ [bI (T.map fun q=>((q:Nat):Int)),bI (T.map fun q=>((q:Nat):Int))]) (arg_sl hZl rfl) (arg_sl hZl rfl) (by rw [hZl]; omega)
  rw [decide_eq_true rfl] at it
  have h:=sm_h_0 a0 (l1.map encI) c0 n X.length (X.map encI) X.length ((X.map (·+modW c0 1000)).map encI) T.length ((T.map fun q=>((q:Nat):Int)).map encI) T.length ((T.map fun q=>((q:Nat):Int)).map encI) (y9:=.int .i64 (X.length:Int)) (y10:=Ud) (y15:=Ud) (y16:=Ud) pl it
  have i:=sm_i_0 a0 (l1.map encI) c0 n X.length (X.map encI) X.length ((X.map (·+modW c0 1000)).map encI) T.length ((T.map fun q=>((q:Nat):Int)).map encI) T.length ((T.map fun q=>((q:Nat):Int)).map encI) (y9:=.int .i64 (X.length:Int)) (y10:=Ud) (y15:=Ud) (y16:=Ud)
  have j:=sm_j_0 a0 (l1.map encI) c0 n X.length (X.map encI) X.length ((X.map (·+modW c0 1000)).map encI) T.length ((T.map fun q=>((q:Nat):Int)).map encI) T.length ((T.map fun q=>((q:Nat):Int)).map encI) 0 (y9:=.int .i64 (X.length:Int)) (y10:=Ud) (y16:=Ud)
  have lq:=sm_sum (n:=n) (c0:=c0) (l1:=l1) a0 (X:=X) (Y:=X.map (·+modW c0 1000)) (T:=T) (us:=T.map fun q=>((q:Nat):Int)) hXb (by omega) pl h2 (fun q hq=>by have:=(p2 q hq).2; omega) p3 T.length 0 (by omega)
  rw [List.take_zero,List.map_nil,List.sum_nil] at lq
  have lq':=lpi (e0:=(env7 (.int .i64 n) (.imm .arg 1 (l1.map encI)) (.int .i64 c0) (.bool false) (.sl 0 0 X.length none X.length 1) (.sl 1 0 X.length none X.length 1) (.int .i64 (X.length:Int)) Ud (.sl 2 0 T.length none T.length 1) (.int .i64 0) (.sl 3 0 T.length none T.length 1) (.int .i64 0) (.int .i64 0) (.int .i64 0))) lq (b:=sub [1,1,1,1,1,1,1,1,0,1,0,0] B7)
  have tz:(T.map fun q=>X.getD q 0).sum.tmod n=0:=Int.tmod_eq_zero_of_dvd (Int.dvd_of_emod_eq_zero p1)
  have c16:=awake_at (pol':=polL7) (by kernel_rfl) (smH X (modW c0 1000) ++ [bI (T.map fun q=>((q:Nat):Int)),bI (T.map fun q=>((q:Nat):Int))])
  have z:=sm_l_0 a0 (l1.map encI) c0 n X.length (X.map encI) X.length ((X.map (·+modW c0 1000)).map encI) T.length ((T.map fun q=>((q:Nat):Int)).map encI) T.length ((T.map fun q=>((q:Nat):Int)).map encI) ((T.map fun q=>X.getD q 0).sum) (y16:=.int .i64 (T.length:Int)) (y8:=Ud) (y9:=Ud) (y10:=Ud) (y12:=Ud) (y13:=Ud) (y14:=Ud) (rem3 (by omega)) tz c16
  have u:=sq (a) (sq (b) (sq (c) (sq (sq (d) (bke (c:=sub [1,1,1,0,1] B7) (lp')) (c:=sub [1,1,1,0] B7)) (sq (f) (sq (gq) (sq (h) (sq (i) (sq (sq (j) (bke (c:=sub [1,1,1,1,1,1,1,1,0,1] B7) (lq')) (c:=sub [1,1,1,1,1,1,1,1,0] B7)) (z) (c:=sub [1,1,1,1,1,1,1,1] B7)) (c:=sub [1,1,1,1,1,1,1] B7)) (c:=sub [1,1,1,1,1,1] B7)) (c:=sub [1,1,1,1,1] B7)) (c:=sub [1,1,1,1] B7)) (c:=sub [1,1,1] B7)) (c:=sub [1,1] B7)) (c:=sub [1] B7)) (c:=B7)
  exact ⟨_,_,u,rfl⟩
end Go.Proofs.Ytaibmipamkaljaa
end
section
namespace Go.HL
open Go.ChangeShapes Go.WideShapes Go.ChangeAt Go.RowKit Go.Deep
theorem okNil (w:World) (r:Nat):okOf Ctx.nil w.heap.size false r:=by
  refine ⟨fun hM=>?_,by simp⟩
  obtain ⟨b,y,h1,_,_⟩:=M_iff.1 hM
  simp [Ctx.nil] at h1
theorem cell_lt {w:World} {a:Addr} {v:Value} (h:w.cell? a=some v):a.block < w.heap.size:=by
  rcases Nat.lt_or_ge a.block w.heap.size with hl | hl
  · exact hl
  · have:w.heap[a.block]?=none:=by simp [hl]
    simp [World.cell?,this] at h
end Go.HL
end
section
namespace Go.HL
open Go.ChangeShapes Go.WideShapes Go.ChangeAt Go.RowKit Go.Deep
theorem arg_ints_ok {H:Type} {enc:TypeId × Value → H} {P:Program} {W:World} {base:Nat} {t q:TypeId} {v:Value} {d:DataW H} {ps:List MemPlace} (ht:P.underlying t=some (.slice q)) (hq:P.underlying q=some (.int .i64)) (cq:P.cellsOf q=1)
    (hval:Value.okWide P W .any base t v) (hd:DataW.Trod enc P W 0 (fun _=>true) true t v d ps):∃ l:List Int,V W (okOf Ctx.nil W.heap.size) Ctx.nil (.imm .arg 1 (l.map encI)) v:=by
  obtain ⟨a,len,cap,rfl⟩:=okWide_slice ht hval
  obtain ⟨fuel,hf⟩:=hd
  rcases open_slice ht hf with ⟨h0,_⟩ | ⟨a',len',cap',m,n,D,Pl,h0,hb,hl,hm,hmm,hx,hel⟩
  · simp [Value.cells] at h0
    obtain ⟨rfl,rfl,rfl⟩:=h0
    exact ⟨[],.imm .arg 1 [] none 0 (fun _=>.bool false) (by simp) (by simp) (by simp) (by simp) (by simp) (by simp)⟩
  · simp [Value.cells] at h0
    obtain ⟨rfl,rfl,rfl⟩:=h0
    have hlm:len ≤ m:=by rw [hmm]; split <;> omega
    have each:∀ i,i < len → ∃ z:Int,W.cell? (a'.add i)=some (.int .i64 z):=by
      intro i hi
      obtain ⟨cs',h1,h2⟩:=hel i (by omega)
      rw [cq] at h1
      obtain ⟨_,hlen,hcell⟩:=World.cells?_some h1
      match cs',hlen with
      | [v0],_ =>
        obtain ⟨z0,e0,_,_⟩:=DataW.trod_int hq h2
        simp at e0
        subst e0
        have c0:=hcell 0 (by omega)
        rw [add_add] at c0
        exact ⟨z0,by simpa using c0⟩
    obtain ⟨f,hf⟩:=choose_lt each
    refine ⟨(List.range len).map f,?_⟩
    have hlen:(((List.range len).map f).map encI).length=len:=by simp
    have key:=V.imm (w:=W) (ok:=okOf Ctx.nil W.heap.size) (c:=Ctx.nil) .arg 1 (((List.range len).map f).map encI) (some a') cap (fun j=>.int .i64 (f j))
      (by rw [hlen]; exact hl) (by simp) ?_ ?_ ?_ ?_
    · rw [hlen] at key; exact key
    · intro hne
      have h0:0 < len:=by
        rcases Nat.eq_zero_or_pos len with h | h
        · subst h; simp at hne
        · exact h
      obtain ⟨b,off,spot⟩:=a'
      have hspot:spot=none:=by simpa [Addr.add] using World.cell?_spot (hf 0 h0)
      subst hspot
      refine ⟨b,off,rfl,by simpa [Addr.add] using cell_lt (hf 0 h0),okNil W b,fun j hj=>?_⟩
      rw [hlen] at hj
      have c0:=hf j (by omega)
      rw [add_plain] at c0
      exact c0
    · intro v hv
      obtain ⟨p,_,rfl⟩:=List.mem_map.1 hv
      rfl
    · intro v hv
      obtain ⟨p,_,rfl⟩:=List.mem_map.1 hv
      rfl
    · intro i v j x hi hj
      have hil:i < len:=by have:=lt_of_get hi; rw [hlen] at this; exact this
      have:v=encI (f i):=by
        rw [List.getElem?_map,List.getElem?_map,List.getElem?_range hil] at hi
        simpa using hi.symm
      subst this
      have hjx:j < 1:=lt_of_get hj
      match j,hjx,hj with
      | 0,_,hj =>
        simp [encI,cellsOf] at hj
        subst hj
        have e1:i * 1+0=i:=by omega
        rw [e1]
        exact V.int _ _
end Go.HL
end
