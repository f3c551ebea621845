/- A part of the proof. -/
import Derived.Test.YtaibmipamkaljaaSeA
set_option linter.unusedVariables false
set_option linter.unusedSimpArgs false
set_option linter.unnecessarySimpa false
section
open Go Go.HL
namespace Go.Proofs.Ytaibmipamkaljaa
open Go.Proofs.Try renaming prog → Tp
open Go.HL.HV renaming undef → Ud
theorem u73:Tp.underlying 73=some (.slice 74):=by kernel_rfl
theorem z74:tySize Tp 74=some 1:=by kernel_rfl
theorem a74:tyAgg Tp 74=false:=by kernel_rfl
theorem i74:(Tp.underlying 74).isSome=true:=by kernel_rfl
theorem info4:(Tp.info? 4).map (fun i=>(i.size,i.bytes,i.zero.map ofConst))=some (1,1,some (.bool false)):=by kernel_rfl
theorem info74:(Tp.info? 74).map (fun i=>(i.size,i.bytes,i.zero.map ofConst))=some (1,24,some (.imm .lit 0 [])):=by kernel_rfl
def encB (r:List Bool):HV:=.imm .own 1 (r.map .bool)
abbrev nilV:HV:=.imm .lit 0 []
def rowV (n:Nat) (s:List Int):List Bool:=(List.range ((n+1) * n)).map fun c=>cellT n s (c / n) (c % n)
def rwS (n:Nat):List Int → List (List Bool)
  | []=>[rowV n []]
  | x :: s=>rowV n (x :: s) :: rwS n s
def rwK (n:Nat) (l:List Int) (k:Nat):List (List Bool):=if k ≤ l.length then rwS n (l.drop k) else []
theorem rwK_step {n:Nat} {l:List Int} {k:Nat} (h:k ≤ l.length):rwK n l k=rowV n (l.drop k) :: rwK n l (k+1):=by
  unfold rwK
  rw [if_pos h]
  by_cases e:k=l.length
  · subst e
    rw [if_neg (by omega),List.drop_length]; rfl
  · rw [if_pos (by omega),List.drop_eq_getElem_cons (by omega)]; rfl
theorem rwK_len {n:Nat} {l:List Int}:∀ d k,k+d=l.length+1 → (rwK n l k).length=d:=by
  intro d
  induction d with
  | zero=>intro k h; rw [rwK,if_neg (by omega)]; rfl
  | succ d ih=>intro k h; rw [rwK_step (by omega),List.length_cons,ih (k+1) (by omega)]
theorem rwK_at {n:Nat} {l:List Int}:∀ d k j,k+d=j → j ≤ l.length → (rwK n l k)[d]?=some (rowV n (l.drop j)):=by
  intro d
  induction d with
  | zero=>intro k j h hj; rw [rwK_step (by omega)]; simp [← h]
  | succ d ih=>intro k j h hj; rw [rwK_step (by omega),List.getElem?_cons_succ,ih (k+1) j (by omega) hj]
abbrev bN (k:Nat) (M:List (List Bool)):Blk:=.arr 1 (List.replicate k nilV ++ M.map encB) true 0
abbrev bT (T:List Bool):Blk:=.arr 1 (T.map .bool) true 0
theorem same_bools (T:List Bool):sameL (T.map HV.bool) (T.map HV.bool)=true:=bools_sameL T
theorem same_encB (r:List Bool):same (encB r) (encB r)=true:=by simp only [encB,same,bools_sameL,beq_self_eq_true,Bool.and_self]
theorem same_nN (k:Nat) (M:List (List Bool)):sameL (List.replicate k nilV ++ M.map encB) (List.replicate k nilV ++ M.map encB)=true:=by
  induction k with
  | zero=>simp only [List.replicate_zero,List.nil_append]; exact same_mapL same_encB M
  | succ k ih=>simp only [List.replicate_succ,List.cons_append,sameL,ih]; rfl
theorem ix73 {m i:Nat} (h:i < m):idxV Tp 73 (.sl 0 0 m (some m) m 1) (.int .i64 (i:Int))=some (.ptr 0 i 0 m):=by
  have:=idx_sl (P:=Tp) (t:=73) (b:=0) (len:=m) (tot:=m) (cap:=some m) (ik:=.i64) (n:=(i:Int)) u73 z74 (by omega) (by omega)
  rwa [Int.toNat_natCast] at this
theorem ix74 {m i:Nat} (h:i < m):idxV Tp 74 (.sl 1 0 m (some m) m 1) (.int .i64 (i:Int))=some (.ptr 1 i 0 m):=by
  have:=idx_sl (P:=Tp) (t:=74) (b:=1) (len:=m) (tot:=m) (cap:=some m) (ik:=.i64) (n:=(i:Int)) u74 z4 (by omega) (by omega)
  rwa [Int.toNat_natCast] at this
theorem ixB {r:List Bool} {i:Nat} (h:i < r.length):idxV Tp 74 (encB r) (.int .i64 (i:Int))=some (.vptr (.bool (r.getD i false))) :=
  idx_imm u74 z4 (by omega) (by rw [Int.toNat_natCast,List.getElem?_map,List.getElem?_eq_getElem h]; simp [List.getD,List.getElem?_eq_getElem h])
theorem ldN {k m i:Nat} {M:List (List Bool)} {H:Heap} {r:List Bool} (hm:k+M.length=m) (h:M[i]?=some r):loadV Tp (bN k M :: H) 74 (.ptr 0 (k+i) 0 m)=some (encB r) :=
  load_elem (b:=0) (els:=List.replicate k nilV ++ M.map encB) rfl (by simp [hm]) (by rw [List.getElem?_append_right (by simp)]; simp [h]) rfl a74 i74
theorem stT {B:Blk} {T:List Bool} {q c:Nat} (hq:T.length=q) (hc:c < q) (v:Bool):storeV Tp [B,bT T] 4 (.ptr 1 c 0 q) (.bool v)=some [B,bT (T.set c v)]:=by
  have hi:(T.map HV.bool)[c]?=some (.bool T[c]):=by rw [List.getElem?_map,List.getElem?_eq_getElem (by omega)]; rfl
  have:=store_elem (P:=Tp) (t:=4) (b:=1) (tot:=q) (v:=.bool v) (H:=[B,bT T]) rfl (by simp [hq]) hi rfl (by intro cs h; cases h) z4 rfl rfl rfl
  rw [this,← List.map_set]; rfl
theorem ldv (v:Bool) (H:Heap):loadV Tp H 4 (.vptr (.bool v))=some (.bool v):=by
  simp only [loadV,a4,i4]; simp
theorem rep_set {α:Type} (a v:α) (X:List α):∀ k,(List.replicate (k+1) a ++ X).set k v=List.replicate k a ++ v :: X
  | 0=>rfl
  | k+1=>by rw [List.replicate_succ,List.cons_append,List.set_cons_succ,rep_set a v X k]; rfl
theorem bools_res:∀ (T:List Bool),resPL (T.map HV.bool)=true
  | []=>rfl
  | b :: T=>by simp only [List.map_cons,resPL,resP,bools_res T,Bool.and_self]
theorem seal_row {k m q:Nat} {M:List (List Bool)} {T:List Bool} (hm:k+1+M.length=m) (hq:T.length=q) (h0:q ≠ 0) :
    sealSt Tp 74 (.ptr 0 k 0 m) (.sl 1 0 q (some q) q 1) [bN (k+1) M,bT T]=some (.tuple [],[bN k (T :: M),.arr 1 (T.map .bool) false 0]):=by
  have h1:seal1 [bN (k+1) M,bT T] (.sl 1 0 q (some q) q 1)=some (encB T,[bN (k+1) M,.arr 1 (T.map .bool) false 0]):=by
    simp only [seal1,if_neg h0,List.getElem?_cons_succ,List.getElem?_cons_zero,List.drop_zero]
    rw [if_pos ⟨by simp [hq],by simp [hq],trivial,by rw [List.take_of_length_le (by simp [hq])]; exact bools_res T⟩,List.take_of_length_le (by simp [hq])]
    rfl
  have hi:(List.replicate (k+1) nilV ++ M.map encB)[k]?=some nilV:=by rw [List.getElem?_append_left (by simp),List.getElem?_replicate]; simp
  have h2:=store_elem (P:=Tp) (t:=74) (b:=0) (tot:=m) (v:=encB T) (H:=[bN (k+1) M,.arr 1 (T.map .bool) false 0]) rfl (by simp; omega) hi rfl (by intro cs h; cases h) z74 rfl rfl rfl
  simp only [sealSt,h1,h2,Option.map_some]
  rw [rep_set]
  rfl
theorem gcN (k:Nat) (M:List (List Bool)) (B:List HV) (w:Bool) {r:Nat} (h:r ≤ 1):gc 1 r [bN k M,.arr 1 B w 0]=[bN k M]:=by
  have h3:max 1 (max r (mxs [bN k M,.arr 1 B w 0]))=1:=by
    have:mxs [bN k M,.arr 1 B w 0]=0:=rfl
    rw [this]; omega
  unfold gc
  rw [h3]; rfl
def FI (n:Nat) (s:List Int) (T:List Bool) (c:Nat):Prop:=T.length=(n+1) * n∧∀ j,j < c → T.getD j false=cellT n s (j / n) (j % n)
theorem FI.put {n:Nat} {s:List Int} {T:List Bool} {c:Nat} (h:FI n s T c) (hc:c < (n+1) * n):FI n s (T.set c (cellT n s (c / n) (c % n))) (c+1):=by
  refine ⟨by rw [List.length_set]; exact h.1,fun j hj=>?_⟩
  by_cases e:j=c
  · subst e
    simp [List.getD,List.getElem?_set,h.1,hc]
  · have:=h.2 j (by omega)
    simp only [List.getD,List.getElem?_set] at this ⊢
    rw [if_neg (fun h=>e h.symm)]; exact this
theorem FI.row {n:Nat} {s:List Int} {T:List Bool} (h:FI n s T ((n+1) * n)):T=rowV n s:=by
  apply List.ext_getElem
  · rw [h.1]; simp [rowV]
  · intro j h1 h2
    have:=h.2 j (by have:=h.1; omega)
    simp only [rowV,List.getElem_map,List.getElem_range]
    rw [← this]; simp [List.getD,List.getElem?_eq_getElem h1]
theorem row_at {n:Nat} {s:List Int} {k r:Nat} (hk:k ≤ n) (hr:r < n):(rowV n s).length=(n+1) * n∧k * n+r < (n+1) * n∧(rowV n s).getD (k * n+r) false=cellT n s k r:=by
  have h1:k * n+r < (n+1) * n:=by
    have:=Nat.mul_le_mul_right n hk
    rw [Nat.add_mul,Nat.one_mul]; omega
  have h2:(k * n+r) / n=k:=by rw [Nat.mul_comm,Nat.mul_add_div (by omega),Nat.div_eq_of_lt hr]; omega
  have h3:(k * n+r) % n=r:=by rw [Nat.mul_comm,Nat.mul_add_mod,Nat.mod_eq_of_lt hr]
  refine ⟨by simp [rowV],h1,?_⟩
  simp [rowV,List.getD,List.getElem?_map,List.getElem?_range,h1,h2,h3]
theorem wkn {k n r:Nat} (hk:k ≤ n) (hn:n ≤ 20) (hr:r < n):IntKind.i64.wrap (IntKind.i64.wrap ((k:Int) * (n:Int))+(r:Int))=((k * n+r:Nat):Int):=by
  have h:=Nat.mul_le_mul hk hn
  rw [show (k:Int) * (n:Int)=((k * n:Nat):Int) by push_cast; rfl]
  generalize k * n=x at h
  rw [wrap_id (n:=(x:Int)) (by omega) (by omega),wrap_id (by omega) (by omega)]
  omega
theorem rest_at {pol':Pol} (hp:pol'.prim 50=some rest50) {a b n:Int} (h0:0 ≤ a) (h1:a < n) (hn:n ≤ 1000) (H:Heap):∀ k,callN Tp pol' (k+1) 50 [.int .i64 a,.int .i64 b,.int .i64 n] H=some (.int .i64 ((a - b) % n),H):=fun k=>by
  rw [prim_call (pol:=pol') (g:=50) (F:=rest50) hp (rs:=[.int .i64 a,.int .i64 b,.int .i64 n]) rfl (res:=.int .i64 ((a - b) % n)) (by simp only [rest50]; rw [if_pos ⟨⟨h0,h1⟩,hn⟩])]
  rfl
section
variable {n:Nat} {l:List Int}
abbrev rxE (n:Nat) (l:List Int) (v5 v6 v7 v8 v9 v10 v11 v12 v13 v14:HV):Env:=(env18 (.int .i64 (n:Int)) (.imm .arg 1 (l.map encI)) (.imm .lit 1 []) v5 v6 v7 v8 v9 v10 v11 v12 v13 v14)
abbrev rxI (n:Nat) (l:List Int) (v7 v8 v9 v10:HV):Env:=rxE n l (.int .i64 (l.length:Int)) (.sl 0 0 (l.length+1) (some (l.length+1)) (l.length+1) 1) v7 v8 v9 v10 Ud Ud Ud Ud
abbrev rsl (n:Nat):HV:=.sl 1 0 ((n+1) * n) (some ((n+1) * n)) ((n+1) * n) 1
theorem rx_r (h1:1 ≤ n) (h20:n ≤ 20) (hl:l.length ≤ 100) {i k:Nat} (hi:i ≤ l.length) (hk:k ≤ n):∀ d r T,r+d=n → FI n (l.drop i) T (k * n+r) →
    ∃ T',RT polTb 18 (sub [1,1,1,0,1,0,0,1,0,0,1,0,1,0,0,1,0,0,1,0] B18) (rxI n l (.int .i64 (i:Int)) (rsl n) (.int .i64 (k:Int)) (.int .i64 (r:Int))) [bN (i+1) (rwK n l (i+1)),bT T] (.exit 4)
      (rxI n l (.int .i64 (i:Int)) (rsl n) (.int .i64 (k:Int)) (.int .i64 (n:Int))) [bN (i+1) (rwK n l (i+1)),bT T']∧FI n (l.drop i) T' (k * n+n):=by
  intro d
  induction d with
  | zero =>
    intro r T hr hT
    have:r=n:=by omega
    subst this
    have s:=rx_j_7 r (l.map encI) l.length (l.length+1) [bN (i+1) (rwK r l (i+1)),bT T] i ((r+1) * r) k r (y11:=Ud) (y12:=Ud) (y13:=Ud) (y14:=Ud) (by omega)
    exact ⟨T,lpo (s),hT⟩
  | succ d ih =>
    intro r T hr hT
    have hrn:r < n:=by omega
    obtain ⟨c1,c2,c3⟩:=row_at (n:=n) (s:=l.drop (i+1)) hk hrn
    have wk:=wkn hk h20 hrn
    have hix:=ix74 c2
    have cd:(k * n+r) / n=k:=by rw [Nat.mul_comm,Nat.mul_add_div (by omega),Nat.div_eq_of_lt hrn]; omega
    have cm:(k * n+r) % n=r:=by rw [Nat.mul_comm,Nat.mul_add_mod,Nat.mod_eq_of_lt hrn]
    have fin:∀ v,v=cellT n (l.drop i) k r → RT polTb 18 (sub [1,1,1,0,1,0,0,1,0,0,1,0,1,0,0,1,0,0,1,0,0] B18) (rxI n l (.int .i64 (i:Int)) (rsl n) (.int .i64 (k:Int)) (.int .i64 (r:Int))) [bN (i+1) (rwK n l (i+1)),bT T] .normal
        (rxI n l (.int .i64 (i:Int)) (rsl n) (.int .i64 (k:Int)) (.int .i64 ((r+1:Nat):Int))) [bN (i+1) (rwK n l (i+1)),bT (T.set (k * n+r) v)] →
        ∃ T',RT polTb 18 (sub [1,1,1,0,1,0,0,1,0,0,1,0,1,0,0,1,0,0,1,0] B18) (rxI n l (.int .i64 (i:Int)) (rsl n) (.int .i64 (k:Int)) (.int .i64 (r:Int))) [bN (i+1) (rwK n l (i+1)),bT T] (.exit 4)
          (rxI n l (.int .i64 (i:Int)) (rsl n) (.int .i64 (k:Int)) (.int .i64 (n:Int))) [bN (i+1) (rwK n l (i+1)),bT T']∧FI n (l.drop i) T' (k * n+n):=fun v hv s=>by
      have hT':=hT.put c2
      rw [cd,cm,← hv,Nat.add_assoc] at hT'
      obtain ⟨T',r',hF⟩:=ih (r+1) (T.set (k * n+r) v) (by omega) hT'
      exact ⟨T',lop (s) (gc_eq _ rfl) (r'),hF⟩
    have st:∀ v,storeV Tp [bN (i+1) (rwK n l (i+1)),bT T] 4 (.ptr 1 (k * n+r) 0 ((n+1) * n)) (.bool v)=some [bN (i+1) (rwK n l (i+1)),bT (T.set (k * n+r) v)]:=fun v=>stT hT.1 c2 v
    by_cases hiL:i=l.length
    · have hnil:l.drop i=[]:=by rw [hiL,List.drop_length]
      by_cases k0:k=0
      · by_cases r0:r=0
        · have s:=rx_j_0 n (l.map encI) l.length (l.length+1) [bN (i+1) (rwK n l (i+1)),bT T] i ((n+1) * n) k r (y11:=Ud) (y12:=Ud) (y13:=Ud) (y14:=Ud) (by omega) (by omega) (by omega) (by omega) (by rw [wk,Int.toNat_natCast]; exact hix) (by rw [wk,Int.toNat_natCast]; exact st true)
          rw [wrap_succ (by omega)] at s
          exact fin true (by rw [hnil,cell_nil,k0,r0]; rfl) s
        · have s:=rx_j_1 n (l.map encI) l.length (l.length+1) [bN (i+1) (rwK n l (i+1)),bT T] i ((n+1) * n) k r (y11:=Ud) (y12:=Ud) (y13:=Ud) (y14:=Ud) (by omega) (by omega) (by omega) (by omega) (by rw [wk,Int.toNat_natCast]; exact hix) (by rw [wk,Int.toNat_natCast]; exact st false)
          rw [wrap_succ (by omega)] at s
          exact fin false (by rw [hnil,cell_nil,decide_eq_false r0,Bool.and_false]) s
      · have s:=rx_j_2 n (l.map encI) l.length (l.length+1) [bN (i+1) (rwK n l (i+1)),bT T] i ((n+1) * n) k r (y11:=Ud) (y12:=Ud) (y13:=Ud) (y14:=Ud) (by omega) (by omega) (by omega) (by rw [wk,Int.toNat_natCast]; exact hix) (by rw [wk,Int.toNat_natCast]; exact st false)
        rw [wrap_succ (by omega)] at s
        exact fin false (by rw [hnil,cell_nil,decide_eq_false k0,Bool.false_and]) s
    · have hlt:i < l.length:=by omega
      have hcons:l.drop i=l.getD i 0 :: l.drop (i+1):=by
        rw [List.drop_eq_getElem_cons hlt]; simp [List.getD,List.getElem?_eq_getElem hlt]
      have hcell:=cell_cons (n:=(n:Int)) (by omega) (l.getD i 0) (l.drop (i+1)) k r (by omega)
      rw [← hcons] at hcell
      have hlen:=rwK_len (n:=n) (l:=l) (l.length - i) (i+1) (by omega)
      have hx:=ix73 (m:=l.length+1) (i:=i+1) (by omega)
      have hrow:=rwK_at (n:=n) (l:=l) 0 (i+1) (i+1) (by omega) (by omega)
      have hld:=ldN (k:=i+1) (m:=l.length+1) (i:=0) (H:=[bT T]) (by omega) hrow
      rw [Nat.add_zero] at hld
      have wi:=wrap_succ (j:=i) (by omega)
      have hB:=ixB (r:=rowV n (l.drop (i+1))) (i:=k * n+r) (by omega)
      rw [c3] at hB
      cases hc:cellT n (l.drop (i+1)) k r with
      | true =>
        rw [hc] at hB
        have s:=rx_j_3 n (l.map encI) l.length (l.length+1) [bN (i+1) (rwK n l (i+1)),bT T] i ((n+1) * n) k r (y11:=Ud) (y12:=Ud) (y13:=Ud) (y14:=Ud) (by omega) (by omega) (by rw [wi,Int.toNat_natCast]; exact hx) (by rw [wi,Int.toNat_natCast]; exact hld) (by rw [wk]; exact hB) (ldv true _) (by rw [wk,Int.toNat_natCast]; exact hix) (by rw [wk,Int.toNat_natCast]; exact st true) rfl
        rw [wrap_succ (by omega)] at s
        exact fin true (by rw [hcell,hc]; rfl) s
      | false =>
        rw [hc] at hB
        by_cases k0:0 < k
        · have hm0:=Int.emod_nonneg ((r:Int) - l.getD i 0) (show (n:Int) ≠ 0 by omega)
          have hm1:=Int.emod_lt_of_pos ((r:Int) - l.getD i 0) (show (0:Int) < n by omega)
          obtain ⟨d1,d2,d3⟩:=row_at (n:=n) (s:=l.drop (i+1)) (k:=k - 1) (r:=(((r:Int) - l.getD i 0) % n).toNat) (by omega) (by omega)
          have wk2:=wkn (k:=k - 1) (n:=n) (r:=(((r:Int) - l.getD i 0) % n).toNat) (by omega) h20 (by omega)
          rw [Int.toNat_of_nonneg hm0] at wk2
          have wp:=wrap_pred (j:=k) k0 (by omega)
          have hB2:=ixB (r:=rowV n (l.drop (i+1))) (i:=(k - 1) * n+(((r:Int) - l.getD i 0) % n).toNat) (by omega)
          rw [d3] at hB2
          have cl:=rest_at (pol':=polTb) (by kernel_rfl) (a:=(r:Int)) (b:=l.getD i 0) (n:=(n:Int)) (by omega) (by omega) (by omega) [bN (i+1) (rwK n l (i+1)),bT T]
          have hgx:=gx (l:=l) (y:=i) hlt
          have hrec:(recL ((loadV Tp [bN (i+1) (rwK n l (i+1)),bT T] 74 (.ptr 0 ((IntKind.i64.wrap ((i:Int)+1)).toNat) 0 (l.length+1))).map (fun v=>(v,([bN (i+1) (rwK n l (i+1)),bT T]:Heap)))) ((loadV Tp [bN (i+1) (rwK n l (i+1)),bT T] 74 (.ptr 0 ((IntKind.i64.wrap ((i:Int)+1)).toNat) 0 (l.length+1))).map (fun v=>(v,([bN (i+1) (rwK n l (i+1)),bT T]:Heap)))) [bN (i+1) (rwK n l (i+1)),bT T] [bN (i+1) (rwK n l (i+1)),bT T] && true)=true:=by
            rw [wi,Int.toNat_natCast,hld]
            simp only [Option.map_some,recL,same_encB,sameH,same_nN,same_bools,beq_self_eq_true,Bool.and_self]
          cases hc2:cellT n (l.drop (i+1)) (k - 1) (((r:Int) - l.getD i 0) % n).toNat with
          | true =>
            rw [hc2] at hB2
            have s:=rx_j_4 n (l.map encI) l.length (l.length+1) [bN (i+1) (rwK n l (i+1)),bT T] i ((n+1) * n) k r (y11:=Ud) (y12:=Ud) (y13:=Ud) (y14:=Ud) (by omega) (by omega) (by rw [wi,Int.toNat_natCast]; exact hx) (by rw [wi,Int.toNat_natCast]; exact hld) (by rw [wk]; exact hB) (ldv false _) (by omega) (by rw [wi,Int.toNat_natCast]; exact hx) (by rw [wi,Int.toNat_natCast]; exact hld) hgx cl (by rw [wp,wk2]; exact hB2) (ldv true _) (by rw [wk,Int.toNat_natCast]; exact hix) (by rw [wk,Int.toNat_natCast]; exact st true) hrec
            rw [wrap_succ (by omega)] at s
            exact fin true (by rw [hcell,hc,hc2,decide_eq_true k0]; rfl) s
          | false =>
            rw [hc2] at hB2
            have s:=rx_j_5 n (l.map encI) l.length (l.length+1) [bN (i+1) (rwK n l (i+1)),bT T] i ((n+1) * n) k r (y11:=Ud) (y12:=Ud) (y13:=Ud) (y14:=Ud) (by omega) (by omega) (by rw [wi,Int.toNat_natCast]; exact hx) (by rw [wi,Int.toNat_natCast]; exact hld) (by rw [wk]; exact hB) (ldv false _) (by omega) (by rw [wi,Int.toNat_natCast]; exact hx) (by rw [wi,Int.toNat_natCast]; exact hld) hgx cl (by rw [wp,wk2]; exact hB2) (ldv false _) (by rw [wk,Int.toNat_natCast]; exact hix) (by rw [wk,Int.toNat_natCast]; exact st false) hrec
            rw [wrap_succ (by omega)] at s
            exact fin false (by rw [hcell,hc,hc2,Bool.and_false]; rfl) s
        · have s:=rx_j_6 n (l.map encI) l.length (l.length+1) [bN (i+1) (rwK n l (i+1)),bT T] i ((n+1) * n) k r (y11:=Ud) (y12:=Ud) (y13:=Ud) (y14:=Ud) (by omega) (by omega) (by rw [wi,Int.toNat_natCast]; exact hx) (by rw [wi,Int.toNat_natCast]; exact hld) (by rw [wk]; exact hB) (ldv false _) (by omega) (by rw [wk,Int.toNat_natCast]; exact hix) (by rw [wk,Int.toNat_natCast]; exact st false) rfl
          rw [wrap_succ (by omega)] at s
          exact fin false (by rw [hcell,hc,decide_eq_false k0]; rfl) s
theorem rx_k (h1:1 ≤ n) (h20:n ≤ 20) (hl:l.length ≤ 100) {i:Nat} (hi:i ≤ l.length):∀ d k T,k+d=n+1 → FI n (l.drop i) T (k * n) →
    ∃ T' y9 y10,RT polTb 18 (sub [1,1,1,0,1,0,0,1,0,0,1,0,1,0] B18) (rxI n l (.int .i64 (i:Int)) (rsl n) (.int .i64 (k:Int)) Ud) [bN (i+1) (rwK n l (i+1)),bT T] (.exit 2)
      (rxI n l (.int .i64 (i:Int)) (rsl n) y9 y10) [bN (i+1) (rwK n l (i+1)),bT T']∧FI n (l.drop i) T' ((n+1) * n):=by
  intro d
  induction d with
  | zero =>
    intro k T hk hT
    have:k=n+1:=by omega
    subst this
    have s:=rx_h_1 n (l.map encI) l.length (l.length+1) [bN (i+1) (rwK n l (i+1)),bT T] i ((n+1) * n) (n+1) (y10:=Ud) (y11:=Ud) (y12:=Ud) (y13:=Ud) (y14:=Ud) (by omega)
    exact ⟨T,_,_,lpo (sqo (s) (c:=sub [1,1,1,0,1,0,0,1,0,0,1,0,1,0,0] B18) (b:=sub [1,1,1,0,1,0,0,1,0,0,1,0,1,0,0,1] B18)),hT⟩
  | succ d ih =>
    intro k T hk hT
    have s1:=rx_h_0 n (l.map encI) l.length (l.length+1) [bN (i+1) (rwK n l (i+1)),bT T] i ((n+1) * n) k (y10:=Ud) (y11:=Ud) (y12:=Ud) (y13:=Ud) (y14:=Ud) (by omega)
    have s2:=rx_i_0 n (l.map encI) l.length (l.length+1) [bN (i+1) (rwK n l (i+1)),bT T] i ((n+1) * n) k (y10:=Ud) (y11:=Ud) (y12:=Ud) (y13:=Ud) (y14:=Ud)
    obtain ⟨T1,r1,hT1⟩:=rx_r h1 h20 hl hi (k:=k) (by omega) n 0 T (by omega) (by simpa using hT)
    have s3:=rx_k_0 n (l.map encI) l.length (l.length+1) [bN (i+1) (rwK n l (i+1)),bT T1] i ((n+1) * n) k (y10:=.int .i64 (n:Int)) (y11:=Ud) (y12:=Ud) (y13:=Ud) (y14:=Ud)
    rw [wrap_succ (by omega)] at s3
    obtain ⟨T2,y9,y10,r2,hT2⟩:=ih (k+1) T1 (by omega) (by rw [Nat.add_mul,Nat.one_mul]; exact hT1)
    exact ⟨T2,y9,y10,lop (sq (s1) (sq (RunsTo.block_normal (i:=3) (c:=sub [1,1,1,0,1,0,0,1,0,0,1,0,1,0,0,1,0] B18) (sq (s2) (bke (c:=sub [1,1,1,0,1,0,0,1,0,0,1,0,1,0,0,1,0,0,1] B18) (lpi (e0:=(rxI n l (.int .i64 (i:Int)) (rsl n) (.int .i64 (k:Int)) (.int .i64 ((0:Nat):Int)))) r1 (b:=sub [1,1,1,0,1,0,0,1,0,0,1,0,1,0,0,1,0,0,1,0,0] B18))) (c:=sub [1,1,1,0,1,0,0,1,0,0,1,0,1,0,0,1,0,0] B18)) (by kernel_rfl)) (s3) (c:=sub [1,1,1,0,1,0,0,1,0,0,1,0,1,0,0,1] B18)) (c:=sub [1,1,1,0,1,0,0,1,0,0,1,0,1,0,0] B18)) (gc_eq _ rfl) (r2),hT2⟩
theorem rx_i (h1:1 ≤ n) (h20:n ≤ 20) (hl:l.length ≤ 100):∀ k,k ≤ l.length+1 →
    ∃ y8 y9 y10,RT polTb 18 (sub [1,1,1,0,1,0] B18) (rxI n l (.int .i64 ((k:Int) - 1)) Ud Ud Ud) [bN k (rwK n l k)] (.exit 0)
      (rxI n l (.int .i64 (-1)) y8 y9 y10) [bN 0 (rwK n l 0)]:=by
  have hq:IntKind.i64.wrap (IntKind.i64.wrap ((n:Int)+1) * (n:Int))=(((n+1) * n:Nat):Int):=by
    have h:=Nat.mul_le_mul (show n+1 ≤ 21 by omega) h20
    rw [wrap_succ (by omega),show ((n+1:Nat):Int) * (n:Int)=(((n+1) * n:Nat):Int) by push_cast; rfl]
    generalize (n+1) * n=x at h
    exact wrap_id (by omega) (by omega)
  have hqb:(n+1) * n ≤ 420:=Nat.mul_le_mul (show n+1 ≤ 21 by omega) h20
  have hq0:(n+1) * n ≠ 0:=Nat.mul_ne_zero (by omega) (by omega)
  intro k
  induction k with
  | zero =>
    intro _
    have s:=rx_e_1 n (l.map encI) l.length (l.length+1) [bN 0 (rwK n l 0)] (-1) (y8:=Ud) (y9:=Ud) (y10:=Ud) (y11:=Ud) (y12:=Ud) (y13:=Ud) (y14:=Ud) (by omega)
    exact ⟨_,_,_,lpo (sqo (s) (c:=sub [1,1,1,0,1,0,0] B18) (b:=sub [1,1,1,0,1,0,0,1] B18))⟩
  | succ k ih =>
    intro hk
    rw [show ((k+1:Nat):Int) - 1=(k:Int) by omega]
    have s1:=rx_e_0 n (l.map encI) l.length (l.length+1) [bN (k+1) (rwK n l (k+1))] (k:Int) (y8:=Ud) (y9:=Ud) (y10:=Ud) (y11:=Ud) (y12:=Ud) (y13:=Ud) (y14:=Ud) (by omega)
    have mk:=makeV_ok (P:=Tp) (H:=[bN (k+1) (rwK n l (k+1))]) (t:=74) (n:=(((n+1) * n:Nat):Int)) u74 info4 rfl rfl (by omega) (by omega) (by simp only [roomMax]; omega)
    rw [Int.toNat_natCast] at mk
    have s2:=rx_f_0 n (l.map encI) l.length (l.length+1) [bN (k+1) (rwK n l (k+1))] k ((n+1) * n) (y8:=Ud) (y9:=Ud) (y10:=Ud) (y11:=Ud) (y12:=Ud) (y13:=Ud) (y14:=Ud) (by rw [hq]; exact mk)
    have s3:=rx_g_0 n (l.map encI) l.length (l.length+1) ([bN (k+1) (rwK n l (k+1))] ++ [.arr 1 (List.replicate ((n+1) * n) (.bool false)) true 0]) k ((n+1) * n) (y9:=Ud) (y10:=Ud) (y11:=Ud) (y12:=Ud) (y13:=Ud) (y14:=Ud)
    have e0:([bN (k+1) (rwK n l (k+1))] ++ [.arr 1 (List.replicate ((n+1) * n) (.bool false)) true 0]:Heap)=[bN (k+1) (rwK n l (k+1)),bT (List.replicate ((n+1) * n) false)]:=by simp [bT]
    rw [e0] at s2 s3
    obtain ⟨T1,y9,y10,r1,hT1⟩:=rx_k h1 h20 hl (i:=k) (by omega) (n+1) 0 (List.replicate ((n+1) * n) false) (by omega) ⟨by simp,fun j hj=>by omega⟩
    have hx:=ix73 (m:=l.length+1) (i:=k) (by omega)
    have hlen:=rwK_len (n:=n) (l:=l) (l.length - k) (k+1) (by omega)
    have sl:=seal_row (k:=k) (m:=l.length+1) (q:=(n+1) * n) (M:=rwK n l (k+1)) (T:=T1) (by omega) hT1.1 hq0
    have s4:=rx_l_0 n (l.map encI) l.length (l.length+1) [bN (k+1) (rwK n l (k+1)),bT T1] k ((n+1) * n) (y9:=y9) (y10:=y10) (y11:=Ud) (y12:=Ud) (y13:=Ud) (y14:=Ud) hx sl
    have s5:=rx_m_0 n (l.map encI) l.length (l.length+1) [bN k (T1 :: rwK n l (k+1)),.arr 1 (T1.map .bool) false 0] k (y8:=rsl n) (y9:=y9) (y10:=y10) (y11:=Ud) (y12:=Ud) (y13:=Ud) (y14:=Ud)
    rw [wrap_id (by omega) (by omega)] at s5
    obtain ⟨z8,z9,z10,r2⟩:=ih (by omega)
    rw [rwK_step (n:=n) (l:=l) (k:=k) (by omega),← hT1.row] at r2
    have hg:gc [bN (k+1) (rwK n l (k+1))].length (bndE (rxI n l (.int .i64 ((k:Int) - 1)) Ud Ud Ud)) [bN k (T1 :: rwK n l (k+1)),.arr 1 (T1.map .bool) false 0]=[bN k (T1 :: rwK n l (k+1))]:=gcN k _ _ false (by simp only [bndE,bnd]; decide)
    exact ⟨z8,z9,z10,lop (sq (s1) (sq (RunsTo.block_normal (i:=1) (c:=sub [1,1,1,0,1,0,0,1,0] B18) (sq (s2) (sq (sq (s3) (bke (c:=sub [1,1,1,0,1,0,0,1,0,0,1,0,1] B18) (lpi (e0:=(rxI n l (.int .i64 (k:Int)) (rsl n) (.int .i64 ((0:Nat):Int)) Ud)) r1 (b:=sub [1,1,1,0,1,0,0,1,0,0,1,0,1,0,0] B18))) (c:=sub [1,1,1,0,1,0,0,1,0,0,1,0] B18)) (s4) (c:=sub [1,1,1,0,1,0,0,1,0,0,1] B18)) (c:=sub [1,1,1,0,1,0,0,1,0,0] B18)) (by kernel_rfl)) (s5) (c:=sub [1,1,1,0,1,0,0,1] B18)) (c:=sub [1,1,1,0,1,0,0] B18)) hg (r2)⟩
abbrev rxQ (n:Nat) (l:List Int) (v7 v8 v9 v10:HV) (z:Nat) (v12 v13 v14:HV):Env:=rxE n l (.int .i64 (l.length:Int)) (.sl 0 0 (l.length+1) (some (l.length+1)) (l.length+1) 1) v7 v8 v9 v10 (.sl 1 0 z none z 1) v12 v13 v14
theorem rx_q (h1:1 ≤ n) (h20:n ≤ 20) (hl:l.length ≤ 100):∀ d j (sm:Nat) (o:List Int),j+d=l.length → sm < n → o.length ≤ n →
    ∃ o' y12 y13 y14,o'=o ++ (partT (gN n) ((l.drop j).map (modX n)) j ((n:Int) - o.length,((sm:Int),0))).map (fun q=>((q:Nat):Int))∧RT polTb 18 (sub [1,1,1,1,1,1,0,1,0] B18) (rxQ n l Ud Ud Ud Ud o.length (.int .i64 (sm:Int)) (.int .i64 (j:Int)) Ud) [bN 0 (rwK n l 0),bI o] (.exit 6)
      (rxQ n l Ud Ud Ud Ud o'.length y12 y13 y14) [bN 0 (rwK n l 0),bI o']:=by
  intro d
  induction d with
  | zero =>
    intro j sm o hj hs ho
    have s:=rx_q_3 n (l.map encI) l.length (l.length+1) [bN 0 (rwK n l 0),bI o] o.length sm j (y7:=Ud) (y8:=Ud) (y9:=Ud) (y10:=Ud) (y14:=Ud) (by omega)
    exact ⟨o,_,_,_,by rw [List.drop_of_length_le (by omega)]; simp [partT],lpo (s)⟩
  | succ d ih =>
    intro j sm o hj hs ho
    have hlt:j < l.length:=by omega
    have hcons:l.drop j=l.getD j 0 :: l.drop (j+1):=by
      rw [List.drop_eq_getElem_cons hlt]; simp [List.getD,List.getElem?_eq_getElem hlt]
    rw [hcons,List.map_cons,partT]
    by_cases hz:o.length < n
    · rw [if_neg (by show ¬ ((n:Int) - o.length=0); omega)]
      have hm0:=Int.emod_nonneg ((sm:Int) - l.getD j 0) (show (n:Int) ≠ 0 by omega)
      have hm1:=Int.emod_lt_of_pos ((sm:Int) - l.getD j 0) (show (0:Int) < n by omega)
      have hsub:subT (gN n) ((sm:Int),0) (modX n (l.getD j 0))=(((sm:Int) - l.getD j 0) % n,0):=by
        simp only [subT,gN,modX]
        refine Prod.ext ?_ rfl
        show ((sm:Int) - l.getD j 0 % n+n) % n=_
        rw [Int.add_emod_right,Int.sub_emod,Int.emod_emod,← Int.sub_emod]
      show ∃ o' y12 y13 y14,o'=o ++ (if ((n:Int) - o.length - 1,subT (gN n) ((sm:Int),0) (modX n (l.getD j 0))) ∈ _ then _ else _:List Nat).map _∧_
      rw [hsub]
      obtain ⟨d1,d2,d3⟩:=row_at (n:=n) (s:=l.drop (j+1)) (k:=n - o.length - 1) (r:=(((sm:Int) - l.getD j 0) % n).toNat) (by omega) (by omega)
      have wk:=wkn (k:=n - o.length - 1) (n:=n) (r:=(((sm:Int) - l.getD j 0) % n).toNat) (by omega) h20 (by omega)
      rw [Int.toNat_of_nonneg hm0] at wk
      have wp:IntKind.i64.wrap (IntKind.i64.wrap ((n:Int) - (o.length:Int)) - 1)=((n - o.length - 1:Nat):Int):=by rw [wrap_id (n:=(n:Int) - o.length) (by omega) (by omega),wrap_id (by omega) (by omega)]; omega
      have hB:=ixB (r:=rowV n (l.drop (j+1))) (i:=(n - o.length - 1) * n+(((sm:Int) - l.getD j 0) % n).toNat) (by omega)
      rw [d3] at hB
      have cl:=rest_at (pol':=polTb) (by kernel_rfl) (a:=(sm:Int)) (b:=l.getD j 0) (n:=(n:Int)) (by omega) (by omega) (by omega) [bN 0 (rwK n l 0),bI o]
      have hgx:=gx (l:=l) (y:=j) hlt
      have wi:=wrap_succ (j:=j) (by omega)
      have hx:=ix73 (m:=l.length+1) (i:=j+1) (by omega)
      have hlen:=rwK_len (n:=n) (l:=l) (l.length+1) 0 (by omega)
      have hrow:=rwK_at (n:=n) (l:=l) (j+1) 0 (j+1) (by omega) (by omega)
      have hld:=ldN (k:=0) (m:=l.length+1) (i:=j+1) (H:=[bI o]) (by omega) hrow
      rw [Nat.zero_add] at hld
      have hct:cellT n (l.drop (j+1)) (n - o.length - 1) (((sm:Int) - l.getD j 0) % n).toNat=decide ((((n:Int) - o.length - 1,(((sm:Int) - l.getD j 0) % n,0)):Wt) ∈ (rchT (gN n) ((l.drop (j+1)).map (modX n))).headD []):=by
        rw [cellT,Int.toNat_of_nonneg hm0,show ((n - o.length - 1:Nat):Int)=(n:Int) - o.length - 1 by omega]
      by_cases hc:(((n:Int) - o.length - 1,(((sm:Int) - l.getD j 0) % n,0)):Wt) ∈ (rchT (gN n) ((l.drop (j+1)).map (modX n))).headD []
      · rw [if_pos hc]
        rw [hct,decide_eq_true hc] at hB
        have ap:=app_ints (H:=[bN 0 (rwK n l 0),bI o]) (b:=1) (o:=o) (xs:=[(j:Int)]) rfl (by simp; omega) (by simp)
        rw [List.length_append,List.length_singleton] at ap
        have s:=rx_q_0 n (l.map encI) l.length (l.length+1) [bN 0 (rwK n l 0),bI o] o.length sm j (y7:=Ud) (y8:=Ud) (y9:=Ud) (y10:=Ud) (y14:=Ud) (by omega) (by omega) hgx cl (by rw [wi,Int.toNat_natCast]; exact hx) (by rw [wi,Int.toNat_natCast]; exact hld) (by rw [wp,wk]; exact hB) (ldv true _) ap
        obtain ⟨o',y12,y13,y14,e,r⟩:=ih (j+1) (((sm:Int) - l.getD j 0) % n).toNat (o ++ [(j:Int)]) (by omega) (by omega) (by simp; omega)
        rw [Int.toNat_of_nonneg hm0,List.length_append,List.length_singleton] at r
        rw [wi] at s
        refine ⟨o',y12,y13,y14,?_,lop (s) (gc_eq _ rfl) (r)⟩
        rw [e,Int.toNat_of_nonneg hm0,List.length_append,List.length_singleton,show (n:Int) - ((o.length+1:Nat):Int)=(n:Int) - o.length - 1 by omega,List.append_assoc]
        rfl
      · rw [if_neg hc]
        rw [hct,decide_eq_false hc] at hB
        have s:=rx_q_1 n (l.map encI) l.length (l.length+1) [bN 0 (rwK n l 0),bI o] o.length sm j (y7:=Ud) (y8:=Ud) (y9:=Ud) (y10:=Ud) (y14:=Ud) (by omega) (by omega) hgx cl (by rw [wi,Int.toNat_natCast]; exact hx) (by rw [wi,Int.toNat_natCast]; exact hld) (by rw [wp,wk]; exact hB) (ldv false _)
        obtain ⟨o',y12,y13,y14,e,r⟩:=ih (j+1) sm o (by omega) hs ho
        rw [wi] at s
        exact ⟨o',y12,y13,y14,e,lop (s) (gc_eq _ rfl) (r)⟩
    · rw [if_pos (by show (n:Int) - o.length=0; omega)]
      have s:=rx_q_2 n (l.map encI) l.length (l.length+1) [bN 0 (rwK n l 0),bI o] o.length sm j (y7:=Ud) (y8:=Ud) (y9:=Ud) (y10:=Ud) (y14:=Ud) (by omega) (by omega)
      exact ⟨o,_,_,_,by simp,lpo (s)⟩
end
theorem res18:Try.f18.results.toList=[.tmp 4]:=by kernel_rfl
def rexT (n:Int) (l:List Int):Option HV:=if (1 ≤ n∧n ≤ 20)∧l.length ≤ 100 then some (.own 1 ((partI (gN n) (l.map (modX n)) (n,(0,0))).map encI)) else none
def rexact18:List HV → Option HV
  | [.int .i64 n,.imm .arg 1 la]=>(match mapO decI la with | some l=>rexT n l | none=>none)
  | _=>none
theorem rexact_inv {args:List HV} {res:HV} (h:rexact18 args=some res):∃ (n:Int) (l:List Int),args=[.int .i64 n,.imm .arg 1 (l.map encI)]∧((1 ≤ n∧n ≤ 20)∧l.length ≤ 100)∧res=.own 1 ((partI (gN n) (l.map (modX n)) (n,(0,0))).map encI):=by
  unfold rexact18 at h
  split at h
  · rename_i n la
    split at h
    · rename_i l hl
      unfold rexT at h
      split at h
      · rename_i hk
        cases h
        exact ⟨n,l,by rw [mapO_inv decI_inv hl],hk,rfl⟩
      · cases h
    · cases h
  · cases h
theorem fnokTb (g:FuncId) (fn:Func) (h:Tp.funcs[g]?=some fn):fnOk polTb g fn=true:=by
  have:=fnOk_prim (pol:={ pol with freezeS:=fun g r=>g == 18 && r == 16 }) (F:=fun g=>if g == 50 then some rest50 else none) g fn
  show fnOk { pol with freezeS:=fun g r=>g == 18 && r == 16,prim:=fun g=>if g == 50 then some rest50 else none } g fn=true
  rw [this]
  exact List.all_eq_true.1 fns_okTb (fn,g) (by
    rw [List.mem_zipIdx_iff_getElem?]
    simpa using h)
theorem rexact_ok:PrimOk Tp 18 rexact18:=by
  refine primOk_pure (pol:=polTb) (fn:=Try.f18) (cd:=B18) follows_mixed soundTb (by kernel_rfl) (by kernel_rfl) (fnokTb 18 _ (by kernel_rfl)) (by kernel_rfl) ?_
  intro args res h
  obtain ⟨n,l,rfl,⟨⟨h1,h2⟩,hl⟩,rfl⟩:=rexact_inv h
  obtain ⟨n,rfl⟩:∃ m:Nat,n=m:=⟨n.toNat,by omega⟩
  have a:=rx_a_0 n (l.map encI)
  have b:=rx_b_0 n (l.map encI) (y5:=Ud) (y6:=Ud) (y7:=Ud) (y8:=Ud) (y9:=Ud) (y10:=Ud) (y11:=Ud) (y12:=Ud) (y13:=Ud) (y14:=Ud)
  rw [List.length_map] at b
  have mk:=makeV_ok (P:=Tp) (H:=[]) (t:=73) (n:=((l.length+1:Nat):Int)) u73 info74 rfl rfl (by omega) (by omega) (by simp only [roomMax]; omega)
  rw [Int.toNat_natCast] at mk
  have c:=rx_c_0 n (l.map encI) l.length (l.length+1) (y6:=Ud) (y7:=Ud) (y8:=Ud) (y9:=Ud) (y10:=Ud) (y11:=Ud) (y12:=Ud) (y13:=Ud) (y14:=Ud) (by rw [wrap_succ (by omega)]; exact mk)
  have d:=rx_d_0 n (l.map encI) l.length (l.length+1) [.arr 1 (List.replicate (l.length+1) (.imm .lit 0 [])) true 0] (y7:=Ud) (y8:=Ud) (y9:=Ud) (y10:=Ud) (y11:=Ud) (y12:=Ud) (y13:=Ud) (y14:=Ud)
  obtain ⟨y8,y9,y10,r1⟩:=rx_i (n:=n) (l:=l) (by omega) (by omega) hl (l.length+1) (Nat.le_refl _)
  have e0:([bN (l.length+1) (rwK n l (l.length+1))]:Heap)=[.arr 1 (List.replicate (l.length+1) (.imm .lit 0 [])) true 0]:=by
    rw [rwK,if_neg (by omega)]; simp [bN]
  rw [e0,show ((l.length+1:Nat):Int) - 1=(l.length:Int) by omega] at r1
  have nn:=rx_n_0 n (l.map encI) l.length (l.length+1) [bN 0 (rwK n l 0)] (y7:=.int .i64 (-1)) (y8:=y8) (y9:=y9) (y10:=y10) (y11:=Ud) (y12:=Ud) (y13:=Ud) (y14:=Ud) (H0:=[bN 0 (rwK n l 0),bI []]) rfl
  have oo:=rx_o_0 n (l.map encI) l.length (l.length+1) [bN 0 (rwK n l 0),bI []] 0 (y7:=.int .i64 (-1)) (y8:=y8) (y9:=y9) (y10:=y10) (y12:=Ud) (y13:=Ud) (y14:=Ud)
  have pp:=rx_p_0 n (l.map encI) l.length (l.length+1) [bN 0 (rwK n l 0),bI []] 0 0 (y7:=.int .i64 (-1)) (y8:=y8) (y9:=y9) (y10:=y10) (y13:=Ud) (y14:=Ud)
  obtain ⟨o',y12,y13,y14,e,r2⟩:=rx_q (n:=n) (l:=l) (by omega) (by omega) hl l.length 0 0 [] (by omega) (by omega) (by simp)
  have ep:o'=partI (gN n) (l.map (modX n)) (n,(0,0)):=by
    rw [e,List.nil_append,List.drop_zero,partI,List.length_nil]
    simp
  have zz:=rx_r_0 n (l.map encI) l.length (l.length+1) [bN 0 (rwK n l 0),bI o'] o'.length (y7:=Ud) (y8:=Ud) (y9:=Ud) (y10:=Ud) (y12:=y12) (y13:=y13) (y14:=y14)
  have u:=sq (a) (sq (b) (sq (c) (sq (sq (d) (bke (c:=sub [1,1,1,0,1] B18) (lpi (e0:=(rxI n l (.int .i64 (l.length:Int)) Ud Ud Ud)) r1 (b:=sub [1,1,1,0,1,0,0] B18))) (c:=sub [1,1,1,0] B18)) (sq (nn) (sq (oo) (sq (sq (pp) (bke (c:=sub [1,1,1,1,1,1,0,1] B18) (lpi (e0:=(rxQ n l (.int .i64 (-1)) y8 y9 y10 0 (.int .i64 ((0:Nat):Int)) (.int .i64 ((0:Nat):Int)) Ud)) r2 (b:=sub [1,1,1,1,1,1,0,1,0,0] B18))) (c:=sub [1,1,1,1,1,1,0] B18)) (zz) (c:=sub [1,1,1,1,1,1] B18)) (c:=sub [1,1,1,1,1] B18)) (c:=sub [1,1,1,1] B18)) (c:=sub [1,1,1] B18)) (c:=sub [1,1] B18)) (c:=sub [1] B18)) (c:=B18)
  exact ⟨_,_,_,.sl 1 0 o'.length none o'.length 1,u,by simp,by simp only [resultsV,res18]; rfl,by rw [← ep]; exact res_li rfl rfl⟩
end Go.Proofs.Ytaibmipamkaljaa
end
section
open Go Go.HL
namespace Go.Proofs.Ytaibmipamkaljaa
set_option maxRecDepth 100000
open Go.Proofs.Try renaming prog → Tp
open Go.HL.HV renaming undef → Ud
noncomputable def B15:Code:=Try.f15.body.getD .skip
abbrev env15 (v0 v1 v4 v5 v6 v7 v9 v24 v25 v26:HV):Env:=[(0,v0),(1,v1),(4,v4),(5,v5),(6,v6),(7,v7),(9,v9),(24,v24),(25,v25),(26,v26)]
theorem ex_a_0 (n:Int) (l:List HV) :RT polX 15 (sub [0] B15) [(0,.i n),(1,.imm .arg 1 l)] [] .normal (env15 (.i n) (.imm .arg 1 l) (.imm .lit 1 []) (.i 0) Ud Ud Ud Ud Ud Ud) [] :=
  RunsTo.hin 0 60 [] fun kf hk=>⟨_,by kernel_rfl,.nil⟩
theorem ex_b_0 (n:Int) (l:List HV)  {y6 y7 y9 y24 y25 y26:HV}(g0:(1:Int) ≤ n∧n ≤ (20:Int)) (g1:(l.length:Int)=IntKind.i64.wrap (IntKind.i64.wrap (2 * n) - 1)):RT polX 15 (sub [1,0] B15) (env15 (.i n) (.imm .arg 1 l) (.imm .lit 1 []) (.i 0) y6 y7 y9 y24 y25 y26) [] .normal (env15 (.i n) (.imm .arg 1 l) (.imm .lit 1 []) (.i 0) y6 y7 y9 y24 y25 y26) [] :=
  RunsTo.hin 0 60 [⟨1,1,.bool true,[]⟩,⟨1,9,.bool false,[]⟩] fun kf hk=>⟨_,by kernel_rfl,(oB [] (decide_eq_true g0) (oB [] (congrArg not (decide_eq_true g1)) .nil))⟩
theorem ex_b_1 (n:Int) (l:List HV)  {y6 y7 y9 y24 y25 y26:HV}(g0:(1:Int) ≤ n∧n ≤ (20:Int)) (g1:¬ ((l.length:Int)=IntKind.i64.wrap (IntKind.i64.wrap (2 * n) - 1))):RT polX 15 (sub [1,0] B15) (env15 (.i n) (.imm .arg 1 l) (.imm .lit 1 []) (.i 0) y6 y7 y9 y24 y25 y26) [] .ret (env15 (.i n) (.imm .arg 1 l) (.imm .lit 1 []) (.i 2) y6 y7 y9 y24 y25 y26) [] :=
  RunsTo.hin 0 60 [⟨1,1,.bool true,[]⟩,⟨1,9,.bool true,[]⟩] fun kf hk=>⟨_,by kernel_rfl,(oB [] (decide_eq_true g0) (oB [] (congrArg not (decide_eq_false g1)) .nil))⟩
theorem ex_b_2 (n:Int) (l:List HV)  {y6 y7 y9 y24 y25 y26:HV}(g0:¬ ((1:Int) ≤ n∧n ≤ (20:Int))):RT polX 15 (sub [1,0] B15) (env15 (.i n) (.imm .arg 1 l) (.imm .lit 1 []) (.i 0) y6 y7 y9 y24 y25 y26) [] .ret (env15 (.i n) (.imm .arg 1 l) (.imm .lit 1 []) (.i 2) y6 y7 y9 y24 y25 y26) [] :=
  RunsTo.hin 0 60 [⟨1,1,.bool false,[]⟩] fun kf hk=>⟨_,by kernel_rfl,(oB [] (decide_eq_false g0) .nil)⟩
theorem ex_c_0 (n:Int) (l:List HV)  {y6 y7 y9 y24 y25 y26:HV}:RT polX 15 (sub [1,1,0] B15) (env15 (.i n) (.imm .arg 1 l) (.imm .lit 1 []) (.i 0) y6 y7 y9 y24 y25 y26) [] .normal (env15 (.i n) (.imm .arg 1 l) (.imm .lit 1 []) (.i 0) (.ptr 0 0 0 1) y7 y9 y24 y25 y26) [.arr 3 [.agg [.i n,.i 1,.i 1]] true 0] :=
  RunsTo.hin 0 60 [] fun kf hk=>⟨_,by kernel_rfl,.nil⟩
theorem ex_d_0 (n:Int) (l:List HV)  {y7 y9 y24 y25 y26:HV}:RT polX 15 (sub [1,1,1,0] B15) (env15 (.i n) (.imm .arg 1 l) (.imm .lit 1 []) (.i 0) (.ptr 0 0 0 1) y7 y9 y24 y25 y26) [.arr 3 [.agg [.i n,.i 1,.i 1]] true 0] .normal (env15 (.i n) (.imm .arg 1 l) (.imm .lit 1 []) (.i 0) (.ptr 0 0 0 1) (.sl 1 0 0 none 0 2) y9 y24 y25 y26) [.arr 3 [.agg [.i n,.i 1,.i 1]] true 0,.arr 2 [] true 0] :=
  RunsTo.hin 0 60 [] fun kf hk=>⟨_,by kernel_rfl,.nil⟩
theorem ex_e_0 (n:Int) (l:List HV) (q:Nat) (es:List HV) {y9 y24 y25 y26:HV}:RT polX 15 (sub [1,1,1,1,0,0] B15) (env15 (.i n) (.imm .arg 1 l) (.imm .lit 1 []) (.i 0) (.ptr 0 0 0 1) (.sl 1 0 q none q 2) y9 y24 y25 y26) [.arr 3 [.agg [.i n,.i 1,.i 1]] true 0,.arr 2 es true 0] .normal (env15 (.i n) (.imm .arg 1 l) (.imm .lit 1 []) (.i 0) (.ptr 0 0 0 1) (.sl 1 0 q none q 2) y9 (.imm .arg 1 l) (.i (l.length:Int)) (.i 0)) [.arr 3 [.agg [.i n,.i 1,.i 1]] true 0,.arr 2 es true 0] :=
  RunsTo.hin 0 60 [] fun kf hk=>⟨_,by kernel_rfl,.nil⟩
theorem ex_f_0 (n:Int) (l:List HV) (q:Nat) (es:List HV) (i:Nat) {y9:HV} {x0:Int} (g0:(i:Int) < (l.length:Int)) (g1:idxV Tp 22 (.imm .arg 1 l) (.i (i:Int))=some (.vptr (.i x0))) (g2:binV Tp .rem 3 (.i x0) (.i n)=some (.i ((x0:Int).tmod n))) (g3:binV Tp .rem 3 (.i (IntKind.i64.wrap ((x0:Int).tmod n+n))) (.i n)=some (.i ((IntKind.i64.wrap ((x0:Int).tmod n+n):Int).tmod n))) (g4:appV [.arr 3 [.agg [.i n,.i 1,.i 1]] true 0,.arr 2 es true 0] 2 16 (.sl 1 0 q none q 2) [.agg [.i ((IntKind.i64.wrap ((x0:Int).tmod n+n):Int).tmod n),.i 0]]=some (.sl 1 0 (q+1) none (q+1) 2,[.arr 3 [.agg [.i n,.i 1,.i 1]] true 0,.arr 2 (es ++ [.agg [.i ((IntKind.i64.wrap ((x0:Int).tmod n+n):Int).tmod n),.i 0]]) true 0])):RT polX 15 (sub [1,1,1,1,0,1,0,0] B15) (env15 (.i n) (.imm .arg 1 l) (.imm .lit 1 []) (.i 0) (.ptr 0 0 0 1) (.sl 1 0 q none q 2) y9 (.imm .arg 1 l) (.i (l.length:Int)) (.i (i:Int))) [.arr 3 [.agg [.i n,.i 1,.i 1]] true 0,.arr 2 es true 0] .normal (env15 (.i n) (.imm .arg 1 l) (.imm .lit 1 []) (.i 0) (.ptr 0 0 0 1) (.sl 1 0 (q+1) none (q+1) 2) (.i x0) (.imm .arg 1 l) (.i (l.length:Int)) (.i (IntKind.i64.wrap ((i:Int)+1)))) [.arr 3 [.agg [.i n,.i 1,.i 1]] true 0,.arr 2 (es ++ [.agg [.i ((IntKind.i64.wrap ((x0:Int).tmod n+n):Int).tmod n),.i 0]]) true 0] :=
  RunsTo.hin 0 60 [⟨6,0,.bool true,[.arr 3 [.agg [.i n,.i 1,.i 1]] true 0,.arr 2 es true 0]⟩,⟨7,0,.vptr (.i x0),[.arr 3 [.agg [.i n,.i 1,.i 1]] true 0,.arr 2 es true 0]⟩,⟨8,3,.i ((x0:Int).tmod n),[.arr 3 [.agg [.i n,.i 1,.i 1]] true 0,.arr 2 es true 0]⟩,⟨8,7,.i ((IntKind.i64.wrap ((x0:Int).tmod n+n):Int).tmod n),[.arr 3 [.agg [.i n,.i 1,.i 1]] true 0,.arr 2 es true 0]⟩,⟨8,10,.sl 1 0 (q+1) none (q+1) 2,[.arr 3 [.agg [.i n,.i 1,.i 1]] true 0,.arr 2 (es ++ [.agg [.i ((IntKind.i64.wrap ((x0:Int).tmod n+n):Int).tmod n),.i 0]]) true 0]⟩] fun kf hk=>⟨_,by kernel_rfl,(oB [.arr 3 [.agg [.i n,.i 1,.i 1]] true 0,.arr 2 es true 0] (decide_eq_true g0) (oP [.arr 3 [.agg [.i n,.i 1,.i 1]] true 0,.arr 2 es true 0] g1 (oP [.arr 3 [.agg [.i n,.i 1,.i 1]] true 0,.arr 2 es true 0] g2 (oP [.arr 3 [.agg [.i n,.i 1,.i 1]] true 0,.arr 2 es true 0] g3 (oC (g4) .nil)))))⟩
theorem ex_f_1 (n:Int) (l:List HV) (q:Nat) (es:List HV) (i:Nat) {y9:HV}(g0:¬ ((i:Int) < (l.length:Int))):RT polX 15 (sub [1,1,1,1,0,1,0,0] B15) (env15 (.i n) (.imm .arg 1 l) (.imm .lit 1 []) (.i 0) (.ptr 0 0 0 1) (.sl 1 0 q none q 2) y9 (.imm .arg 1 l) (.i (l.length:Int)) (.i (i:Int))) [.arr 3 [.agg [.i n,.i 1,.i 1]] true 0,.arr 2 es true 0] (.exit 0) (env15 (.i n) (.imm .arg 1 l) (.imm .lit 1 []) (.i 0) (.ptr 0 0 0 1) (.sl 1 0 q none q 2) y9 (.imm .arg 1 l) (.i (l.length:Int)) (.i (i:Int))) [.arr 3 [.agg [.i n,.i 1,.i 1]] true 0,.arr 2 es true 0] :=
  RunsTo.hin 0 60 [⟨6,0,.bool false,[.arr 3 [.agg [.i n,.i 1,.i 1]] true 0,.arr 2 es true 0]⟩] fun kf hk=>⟨_,by kernel_rfl,(oB [.arr 3 [.agg [.i n,.i 1,.i 1]] true 0,.arr 2 es true 0] (decide_eq_false g0) .nil)⟩
theorem ex_g_0 (n:Int) (l:List HV) (q:Nat) (es:List HV) {y9 y24 y25 y26:HV} {r:Nat} {rm:List HV} {pn:Nat} {ps:List HV} (g0:∀ kf,callN Tp polX (kf+1) 49 [.agg [.i n,.i 1,.i 1],.sl 1 0 q none q 2] [.arr 3 [.agg [.i n,.i 1,.i 1]] true 0,.arr 2 es true 0]=some (.sl 2 0 r none r 1,[.arr 3 [.agg [.i n,.i 1,.i 1]] true 0,.arr 2 es true 0,.arr 1 rm true 0])) (g1:∀ kf,callN Tp polX (kf+1) 48 [.agg [.i n,.i 1,.i 1],.sl 1 0 q none q 2,.sl 2 0 r none r 1,.agg [.i n,.i 0,.i 0]] [.arr 3 [.agg [.i n,.i 1,.i 1]] true 0,.arr 2 es true 0,.arr 1 rm true 0]=some (.sl 3 0 pn none pn 1,[.arr 3 [.agg [.i n,.i 1,.i 1]] true 0,.arr 2 es true 0,.arr 1 rm true 0,.arr 1 ps true 0])) (gS10:((same (.agg [.i n,.i 1,.i 1]) (.agg [.i n,.i 1,.i 1]) && sameH ([.arr 3 [.agg [.i n,.i 1,.i 1]] true 0,.arr 2 es true 0]:Heap) [.arr 3 [.agg [.i n,.i 1,.i 1]] true 0,.arr 2 es true 0] && sameH ([.arr 3 [.agg [.i n,.i 1,.i 1]] true 0,.arr 2 es true 0,.arr 1 rm true 0]:Heap) [.arr 3 [.agg [.i n,.i 1,.i 1]] true 0,.arr 2 es true 0,.arr 1 rm true 0]) && true)=true):RT polX 15 (sub [1,1,1,1,1] B15) (env15 (.i n) (.imm .arg 1 l) (.imm .lit 1 []) (.i 0) (.ptr 0 0 0 1) (.sl 1 0 q none q 2) y9 y24 y25 y26) [.arr 3 [.agg [.i n,.i 1,.i 1]] true 0,.arr 2 es true 0] .ret (env15 (.i n) (.imm .arg 1 l) (.sl 3 0 pn none pn 1) (.i 0) (.ptr 0 0 0 1) (.sl 1 0 q none q 2) y9 y24 y25 y26) [.arr 3 [.agg [.i n,.i 1,.i 1]] true 0,.arr 2 es true 0,.arr 1 rm true 0,.arr 1 ps true 0] :=
  RunsTo.hin 0 60 [⟨10,4,.sl 2 0 r none r 1,[.arr 3 [.agg [.i n,.i 1,.i 1]] true 0,.arr 2 es true 0,.arr 1 rm true 0]⟩,⟨10,7,.sl 3 0 pn none pn 1,[.arr 3 [.agg [.i n,.i 1,.i 1]] true 0,.arr 2 es true 0,.arr 1 rm true 0,.arr 1 ps true 0]⟩] fun kf hk=>⟨_,by kernel_rfl,(oC (gS10) (oC (g0 kf) (oC (g1 kf) .nil)))⟩
end Go.Proofs.Ytaibmipamkaljaa
end
section
open Go Go.HL
namespace Go.Proofs.Ytaibmipamkaljaa
open Go.Proofs.Try renaming prog → Tp
open Go.HL.HV renaming undef → Ud
theorem res15:Try.f15.results.toList=[.tmp 4,.tmp 5]:=by kernel_rfl
abbrev exE (n:Int) (l:List Int) (q i:Nat):Env:=(env15 (.int .i64 n) (.imm .arg 1 (l.map encI)) (.imm .lit 1 []) (.int .i64 0) (.ptr 0 0 0 1) (.sl 1 0 q none q 2) Ud (.imm .arg 1 (l.map encI)) (.int .i64 ((l.map encI).length:Int)) (.int .i64 (i:Int)))
theorem ex_loop {n:Int} (h1:1 ≤ n) (h2:n ≤ 20) {l:List Int} (hl:l.length ≤ 900):∀ k i,i+k=l.length →
    RT polX 15 (sub [1,1,1,1,0,1,0] B15) (exE n l ((l.take i).map (modX n)).length i) [bGr (gN n),bX ((l.take i).map (modX n))] (.exit 0) (exE n l (l.map (modX n)).length l.length) [bGr (gN n),bX (l.map (modX n))]:=by
  intro k
  induction k with
  | zero =>
    intro i hi
    have:i=l.length:=by omega
    subst this
    rw [List.take_length]
    have s:=ex_f_1 n (l.map encI) (l.map (modX n)).length ((l.map (modX n)).map encX) l.length (y9:=Ud) (by rw [List.length_map]; omega)
    exact lpo (s) (c:=sub [1,1,1,1,0,1,0] B15)
  | succ k ih =>
    intro i hi
    have hil:i < l.length:=by omega
    have hlen:((l.take i).map (modX n)).length=i:=by simp; omega
    have ap:=app_X (H:=[bGr (gN n),bX ((l.take i).map (modX n))]) (b:=1) (o:=(l.take i).map (modX n)) rfl (by rw [hlen]; omega) (modX n (l.getD i 0))
    have rt:=remT (n:=n) (x:=l.getD i 0) (by omega) (by omega)
    have s:=ex_f_0 n (l.map encI) ((l.take i).map (modX n)).length (((l.take i).map (modX n)).map encX) i (y9:=Ud) (by rw [List.length_map]; omega) (gx hil) (rem3 (by omega)) (rem3 (by omega)) (by rw [rt]; exact ap.trans (by simp only [bX,List.map_append]; rfl))
    rw [rt,wrap_succ (by omega)] at s
    have et:l.take (i+1)=l.take i ++ [l.getD i 0]:=by
      rw [List.take_succ_eq_append_getElem hil]; simp [List.getD,List.getElem?_eq_getElem hil]
    have e:((l.take i).map (modX n)).map encX ++ [.agg [.int .i64 (l.getD i 0 % n),.int .i64 0]]=((l.take (i+1)).map (modX n)).map encX:=by
      rw [et,List.map_append,List.map_append]; rfl
    rw [e,show ((l.take i).map (modX n)).length+1=((l.take (i+1)).map (modX n)).length by rw [hlen]; simp; omega] at s
    have nx:=ih (i+1) (by omega)
    exact lop (s) (gc_eq _ rfl) (nx)
theorem exactly_ok:PrimOk Tp 15 exactly15:=by
  refine primOk_pure (pol:=polX) (fn:=Try.f15) (cd:=B15) follows_mixed soundX (by kernel_rfl) (by kernel_rfl) (fnok polX.prim _ _ (by kernel_rfl)) (by kernel_rfl) ?_
  intro args res h
  obtain ⟨n,l,r,rfl,hr,rfl⟩:=exactly_inv h
  have a:=ex_a_0 n (l.map encI)
  by_cases c:1 ≤ n∧n ≤ 20
  · have w:IntKind.i64.wrap (IntKind.i64.wrap (2 * n) - 1)=2 * n - 1:=by rw [wrap_id (n:=2 * n) (by omega) (by omega)]; exact wrap_id (by omega) (by omega)
    by_cases d:(l.length:Int)=2 * n - 1
    · have b:=ex_b_0 n (l.map encI) (y6:=Ud) (y7:=Ud) (y9:=Ud) (y24:=Ud) (y25:=Ud) (y26:=Ud) c (by rw [w,List.length_map]; exact d)
      unfold exT at hr
      rw [if_pos ⟨c,d⟩] at hr
      split at hr
      case isFalse=>cases hr
      rename_i ho
      cases hr
      have hgo:=gN_ok (n:=n) c.1 (by omega)
      have hall:allEl (gN n) (l.map (modX n))=true:=by
        rw [allEl_iff]; intro x hx
        obtain ⟨y,_,rfl⟩:=List.mem_map.1 hx
        exact modX_ok (by omega) y
      have hll:(l.map (modX n)).length ≤ 1000:=by rw [List.length_map]; omega
      have cc:=ex_c_0 n (l.map encI) (y6:=Ud) (y7:=Ud) (y9:=Ud) (y24:=Ud) (y25:=Ud) (y26:=Ud)
      have dd:=ex_d_0 n (l.map encI) (y7:=Ud) (y9:=Ud) (y24:=Ud) (y25:=Ud) (y26:=Ud)
      have ee:=ex_e_0 n (l.map encI) 0 [] (y9:=Ud) (y24:=Ud) (y25:=Ud) (y26:=Ud)
      have lp:=ex_loop c.1 c.2 (l:=l) (by omega) l.length 0 (by omega)
      have r1:=reached_at' (pol':=polX) (by kernel_rfl) hgo hall hll (H:=[bGr (gN n),bX (l.map (modX n))]) (v:=.sl 1 0 (l.map (modX n)).length none (l.map (modX n)).length 2) (arg_Xs rfl rfl)
      have p1:=part_at' (pol':=polX) (by kernel_rfl) hgo hall hll ho (H:=[bGr (gN n),bX (l.map (modX n)),.arr 1 ((rchT (gN n) (l.map (modX n))).map encM) true 0]) (b:=2) (mx:=0) (v:=.sl 1 0 (l.map (modX n)).length none (l.map (modX n)).length 2) (arg_Xs rfl rfl) rfl
      have hsX:=same_mapL same_encX (l.map (modX n))
      have hsM:=same_mapL same_encM (rchT (gN n) (l.map (modX n)))
      have z:=ex_g_0 n (l.map encI) (l.map (modX n)).length ((l.map (modX n)).map encX) (y9:=Ud) (y24:=.imm .arg 1 (l.map encI)) (y25:=.int .i64 ((l.map encI).length:Int)) (y26:=.int .i64 (l.length:Int)) r1 p1 (by simp only [same,sameL,sameH,hsX,hsM,beq_self_eq_true,Bool.and_self])
      have u:=sq (a) (sq (b) (sq (cc) (sq (dd) (sq (sq (ee) (bke (c:=sub [1,1,1,1,0,1] B15) (lp)) (c:=sub [1,1,1,1,0] B15)) (z) (c:=sub [1,1,1,1] B15)) (c:=sub [1,1,1] B15)) (c:=sub [1,1] B15)) (c:=sub [1] B15)) (c:=B15)
      exact ⟨_,_,_,.tuple [.sl 3 0 (partI (gN n) (l.map (modX n)) (n,(0,0))).length none (partI (gN n) (l.map (modX n)) (n,(0,0))).length 1,.int .i64 0],u,by simp,by simp only [resultsV,res15]; rfl,toRes_li1 rfl rfl 0⟩
    · have b:=ex_b_1 n (l.map encI) (y6:=Ud) (y7:=Ud) (y9:=Ud) (y24:=Ud) (y25:=Ud) (y26:=Ud) c (by rw [w,List.length_map]; exact d)
      have u:=sq (a) (sqo (b) (c:=sub [1] B15) (b:=sub [1,1] B15)) (c:=B15)
      unfold exT at hr
      rw [if_neg (fun h=>d h.2)] at hr
      cases hr
      exact ⟨_,_,_,.tuple [.imm .lit 1 [],.int .i64 2],u,by simp,by simp only [resultsV,res15]; rfl,rfl⟩
  · have b:=ex_b_2 n (l.map encI) (y6:=Ud) (y7:=Ud) (y9:=Ud) (y24:=Ud) (y25:=Ud) (y26:=Ud) c
    have u:=sq (a) (sqo (b) (c:=sub [1] B15) (b:=sub [1,1] B15)) (c:=B15)
    unfold exT at hr
    rw [if_neg (fun h=>c h.1)] at hr
    cases hr
    exact ⟨_,_,_,.tuple [.imm .lit 1 [],.int .i64 2],u,by simp,by simp only [resultsV,res15]; rfl,rfl⟩
end Go.Proofs.Ytaibmipamkaljaa
end
section
open Go Go.HL
namespace Go.Proofs.Ytaibmipamkaljaa
open Go.Proofs.Try renaming prog → Tp
open Go.HL.HV renaming undef → Ud
def polAw:Pol:={ pol with shared:=fun g=>sharedT.contains g || g == 54,prim:=fun g=>if g == 49 then some reached49 else if g == 59 then some add59 else none }
set_option maxRecDepth 100000 in
theorem fns_okAw:(Tp.funcs.toList.zipIdx.all fun p=>fnOk { pol with shared:=fun g=>sharedT.contains g || g == 54 } p.2 p.1)=true:=by kernel_rfl
theorem sound_primC (F:FuncId → Option (List HV → Option HV)) (hF:∀ g f,F g=some f → PrimOk Tp g f) (n:Nat):CallSound Tp (callN Tp { pol with shared:=fun g=>sharedT.contains g || g == 54,prim:=F } n) :=
  callN_ok follows_mixed (fun g fn h=>by
    have:=fnOk_prim (pol:={ pol with shared:=fun g=>sharedT.contains g || g == 54 }) (F:=F) g fn
    rw [this]
    exact List.all_eq_true.1 fns_okAw (fn,g) (by
      rw [List.mem_zipIdx_iff_getElem?]
      simpa using h)) hF n
theorem soundAw (n:Nat):CallSound Tp (callN Tp polAw n):=sound_primC _ (fun g f h=>by
  split at h
  · rename_i hg; cases h; rw [eq_of_beq hg]; exact reached_ok
  split at h
  · rename_i hg; cases h; rw [eq_of_beq hg]; exact add_ok
  · cases h) n
set_option maxRecDepth 100000 in
theorem awake_run:callN Tp polAw 400 16 [] []=some (.bool true,[]):=by kernel_rfl
end Go.Proofs.Ytaibmipamkaljaa
end
section
open Go Go.HL
namespace Go.Proofs.Ytaibmipamkaljaa
open Go.Proofs.Try renaming prog → Tp
open Go.HL.HV renaming undef → Ud
theorem awake_prim:PrimOk Tp 16 awakeF:=by
  refine primOk_of (pol:=polAw) soundAw (by kernel_rfl) fun args res h=>?_
  match args,h with
  | [],h =>
    cases h
    exact ⟨400,_,_,false,awake_run,rfl⟩
theorem awake_at {pol':Pol} (hp:pol'.prim 16=some awakeF) (H:Heap):∀ k,callN Tp pol' (k+1) 16 [] H=some (.bool true,H):=fun k=>by
  rw [prim_call (pol:=pol') (g:=16) (F:=awakeF) hp (rs:=[]) rfl (res:=.bool true) rfl]; rfl
def argI (H:Heap) (v:HV) (l:List Int):Prop:=toArg H 6 v=some (.imm .arg 1 (l.map encI))
end Go.Proofs.Ytaibmipamkaljaa
end
section
open Go Go.HL
namespace Go.Proofs.Ytaibmipamkaljaa
open Go.Proofs.Try renaming prog → Tp
open Go.HL.HV renaming undef → Ud
theorem ints_at {pol':Pol} (hp:pol'.prim 17=some ints17) {a b:List Int} {v1 v2:HV} {H:Heap} (h1:argI H v1 a) (h2:argI H v2 b) (hl:a.length ≤ 1000) :
    ∀ k,callN Tp pol' (k+1) 17 [v1,v2] H=some (.bool (decide (a=b)),H):=fun k=>by
  have hd:mapO decI (a.map encI)=some a:=mapO_map decI_enc a
  have hd2:mapO decI (b.map encI)=some b:=mapO_map decI_enc b
  unfold argI at h1 h2
  rw [prim_call (pol:=pol') (g:=17) (F:=ints17) hp (rs:=[.imm .arg 1 (a.map encI),.imm .arg 1 (b.map encI)]) (by simp only [mapO,h1,h2]) (res:=.bool (decide (a=b))) (by simp only [ints17,llF,hd,hd2]; rw [if_pos hl])]
  rfl
theorem exactly_at {pol':Pol} (hp:pol'.prim 15=some exactly15) {n:Int} {l:List Int} {v:HV} {H:Heap} (h1:argI H v l) {r:List Int × Int} (hr:exT n l=some r) :
    ∀ k,callN Tp pol' (k+1) 15 [.int .i64 n,v] H=some (.tuple [.sl H.length 0 r.1.length none r.1.length 1,.int .i64 r.2],H ++ [bI r.1]):=fun k=>by
  have hd:mapO decI (l.map encI)=some l:=mapO_map decI_enc l
  have hN:toArg H 6 (.int .i64 n)=some (.int .i64 n):=rfl
  unfold argI at h1
  rw [prim_call (pol:=pol') (g:=15) (F:=exactly15) hp (rs:=[.int .i64 n,.imm .arg 1 (l.map encI)]) (by simp only [mapO,h1,hN]) (res:=.tuple [.own 1 (r.1.map encI),.int .i64 r.2]) (by simp only [exactly15,hd,hr,Option.map]),recv_li1]
end Go.Proofs.Ytaibmipamkaljaa
end
section
open Go Go.HL
namespace Go.Proofs.Ytaibmipamkaljaa
open Go.Proofs.Try renaming prog → Tp
open Go.HL.HV renaming undef → Ud
def polL3:Pol:={ pol with prim:=fun g=>if g == 16 then some awakeF else if g == 14 then some list14 else if g == 15 then some exactly15 else if g == 17 then some ints17 else if g == 18 then some rexact18 else none }
theorem soundL3 (n:Nat):CallSound Tp (callN Tp polL3 n):=sound_prim _ (fun g f h=>by
  split at h
  · rename_i hg; cases h; rw [eq_of_beq hg]; exact awake_prim
  split at h
  · rename_i hg; cases h; rw [eq_of_beq hg]; exact list_ok
  split at h
  · rename_i hg; cases h; rw [eq_of_beq hg]; exact exactly_ok
  split at h
  · rename_i hg; cases h; rw [eq_of_beq hg]; exact ints_ok
  split at h
  · rename_i hg; cases h; rw [eq_of_beq hg]; exact rexact_ok
  · cases h) n
theorem list_at {pol':Pol} (hp:pol'.prim 14=some list14) {l:List Int} {v:HV} {H:Heap} (h1:argI H v l) :
    ∀ k,callN Tp pol' (k+1) 14 [v] H=some (.sl H.length 0 (l.take 110).length none (l.take 110).length 1,H ++ [bI (l.take 110)]):=fun k=>by
  have hd:mapO decI (l.map encI)=some l:=mapO_map decI_enc l
  unfold argI at h1
  rw [prim_call (pol:=pol') (g:=14) (F:=list14) hp (rs:=[.imm .arg 1 (l.map encI)]) (by simp only [mapO,h1]) (res:=.own 1 ((l.take 110).map encI)) (by simp only [list14,liF,hd]),recv_ints]
theorem rexact_at {pol':Pol} (hp:pol'.prim 18=some rexact18) {n:Int} {l:List Int} {v:HV} {H:Heap} (h1:argI H v l) (hn:(1 ≤ n∧n ≤ 20)∧l.length ≤ 100) :
    ∀ k,callN Tp pol' (k+1) 18 [.int .i64 n,v] H=some (.sl H.length 0 (partI (gN n) (l.map (modX n)) (n,(0,0))).length none (partI (gN n) (l.map (modX n)) (n,(0,0))).length 1,H ++ [bI (partI (gN n) (l.map (modX n)) (n,(0,0)))]):=fun k=>by
  have hd:mapO decI (l.map encI)=some l:=mapO_map decI_enc l
  have hN:toArg H 6 (.int .i64 n)=some (.int .i64 n):=rfl
  unfold argI at h1
  rw [prim_call (pol:=pol') (g:=18) (F:=rexact18) hp (rs:=[.int .i64 n,.imm .arg 1 (l.map encI)]) (by simp only [mapO,h1,hN]) (res:=.own 1 ((partI (gN n) (l.map (modX n)) (n,(0,0))).map encI)) (by simp only [rexact18,hd,rexT]; rw [if_pos hn]),recv_ints]
end Go.Proofs.Ytaibmipamkaljaa
end
section
open Go Go.HL
namespace Go.Proofs.Ytaibmipamkaljaa
set_option maxRecDepth 100000
open Go.Proofs.Try renaming prog → Tp
open Go.HL.HV renaming undef → Ud
noncomputable def B3:Code:=Try.f3.body.getD .skip
abbrev env3 (v0 v1 v4 v5 v6 v7:HV):Env:=[(0,v0),(1,v1),(4,v4),(5,v5),(6,v6),(7,v7)]
theorem se_0 (n:Int) (l:List HV) (p:Nat) (xs:List HV) (z:Nat) (zs:List HV) (er:Int) (u:Nat) (us:List HV)(g0:∀ kf,callN Tp polL3 (kf+1) 14 [.imm .arg 1 l] []=some (.sl 0 0 p none p 1,[.arr 1 xs true 0])) (g1:∀ kf,callN Tp polL3 (kf+1) 15 [.i n,.sl 0 0 p none p 1] [.arr 1 xs true 0]=some (.tuple [.sl 1 0 z none z 1,.i er],[.arr 1 xs true 0,.arr 1 zs true 0])) (g2:n < 1) (g3:(z:Int)=0) (g4:er=2) (g5:∀ kf,callN Tp polL3 (kf+1) 16 [] [.arr 1 xs true 0,.arr 1 zs true 0]=some (.bool true,[.arr 1 xs true 0,.arr 1 zs true 0])):RT polL3 3 (sub [] B3) [(0,.i n),(1,.imm .arg 1 l)] [] .ret (env3 (.i n) (.imm .arg 1 l) (.bool true) (.sl 0 0 p none p 1) (.sl 1 0 z none z 1) (.i er)) [.arr 1 xs true 0,.arr 1 zs true 0] :=
  RunsTo.hin 0 60 [⟨1,1,.sl 0 0 p none p 1,[.arr 1 xs true 0]⟩,⟨2,2,.tuple [.sl 1 0 z none z 1,.i er],[.arr 1 xs true 0,.arr 1 zs true 0]⟩,⟨3,1,.bool true,[.arr 1 xs true 0,.arr 1 zs true 0]⟩,⟨4,2,.bool true,[.arr 1 xs true 0,.arr 1 zs true 0]⟩,⟨4,5,.bool true,[.arr 1 xs true 0,.arr 1 zs true 0]⟩,⟨4,8,.bool true,[.arr 1 xs true 0,.arr 1 zs true 0]⟩] fun kf hk=>⟨_,by kernel_rfl,(oC (g0 kf) (oC (g1 kf) (oB [.arr 1 xs true 0,.arr 1 zs true 0] (decide_eq_true g2) (oB [.arr 1 xs true 0,.arr 1 zs true 0] (decide_eq_true g3) (oB [.arr 1 xs true 0,.arr 1 zs true 0] (decide_eq_true g4) (oC (g5 kf) .nil))))))⟩
theorem se_3 (n:Int) (l:List HV) (p:Nat) (xs:List HV) (z:Nat) (zs:List HV) (er:Int) (u:Nat) (us:List HV)(g0:∀ kf,callN Tp polL3 (kf+1) 14 [.imm .arg 1 l] []=some (.sl 0 0 p none p 1,[.arr 1 xs true 0])) (g1:∀ kf,callN Tp polL3 (kf+1) 15 [.i n,.sl 0 0 p none p 1] [.arr 1 xs true 0]=some (.tuple [.sl 1 0 z none z 1,.i er],[.arr 1 xs true 0,.arr 1 zs true 0])) (g2:¬ (n < 1)) (g3:20 < n) (g4:(z:Int)=0) (g5:er=2) (g6:∀ kf,callN Tp polL3 (kf+1) 16 [] [.arr 1 xs true 0,.arr 1 zs true 0]=some (.bool true,[.arr 1 xs true 0,.arr 1 zs true 0])):RT polL3 3 (sub [] B3) [(0,.i n),(1,.imm .arg 1 l)] [] .ret (env3 (.i n) (.imm .arg 1 l) (.bool true) (.sl 0 0 p none p 1) (.sl 1 0 z none z 1) (.i er)) [.arr 1 xs true 0,.arr 1 zs true 0] :=
  RunsTo.hin 0 60 [⟨1,1,.sl 0 0 p none p 1,[.arr 1 xs true 0]⟩,⟨2,2,.tuple [.sl 1 0 z none z 1,.i er],[.arr 1 xs true 0,.arr 1 zs true 0]⟩,⟨3,1,.bool false,[.arr 1 xs true 0,.arr 1 zs true 0]⟩,⟨3,4,.bool true,[.arr 1 xs true 0,.arr 1 zs true 0]⟩,⟨4,2,.bool true,[.arr 1 xs true 0,.arr 1 zs true 0]⟩,⟨4,5,.bool true,[.arr 1 xs true 0,.arr 1 zs true 0]⟩,⟨4,8,.bool true,[.arr 1 xs true 0,.arr 1 zs true 0]⟩] fun kf hk=>⟨_,by kernel_rfl,(oC (g0 kf) (oC (g1 kf) (oB [.arr 1 xs true 0,.arr 1 zs true 0] (decide_eq_false g2) (oB [.arr 1 xs true 0,.arr 1 zs true 0] (decide_eq_true g3) (oB [.arr 1 xs true 0,.arr 1 zs true 0] (decide_eq_true g4) (oB [.arr 1 xs true 0,.arr 1 zs true 0] (decide_eq_true g5) (oC (g6 kf) .nil)))))))⟩
theorem se_6 (n:Int) (l:List HV) (p:Nat) (xs:List HV) (z:Nat) (zs:List HV) (er:Int) (u:Nat) (us:List HV)(g0:∀ kf,callN Tp polL3 (kf+1) 14 [.imm .arg 1 l] []=some (.sl 0 0 p none p 1,[.arr 1 xs true 0])) (g1:∀ kf,callN Tp polL3 (kf+1) 15 [.i n,.sl 0 0 p none p 1] [.arr 1 xs true 0]=some (.tuple [.sl 1 0 z none z 1,.i er],[.arr 1 xs true 0,.arr 1 zs true 0])) (g2:¬ (n < 1)) (g3:¬ (20 < n)) (g4:(p:Int)=IntKind.i64.wrap (IntKind.i64.wrap (2 * n) - 1)) (g5:∀ kf,callN Tp polL3 (kf+1) 18 [.i n,.sl 0 0 p none p 1] [.arr 1 xs true 0,.arr 1 zs true 0]=some (.sl 2 0 u none u 1,[.arr 1 xs true 0,.arr 1 zs true 0,.arr 1 us true 0])) (g6:∀ kf,callN Tp polL3 (kf+1) 17 [.sl 1 0 z none z 1,.sl 2 0 u none u 1] [.arr 1 xs true 0,.arr 1 zs true 0,.arr 1 us true 0]=some (.bool true,[.arr 1 xs true 0,.arr 1 zs true 0,.arr 1 us true 0])) (g7:er=0) (g8:∀ kf,callN Tp polL3 (kf+1) 16 [] [.arr 1 xs true 0,.arr 1 zs true 0,.arr 1 us true 0]=some (.bool true,[.arr 1 xs true 0,.arr 1 zs true 0,.arr 1 us true 0])):RT polL3 3 (sub [] B3) [(0,.i n),(1,.imm .arg 1 l)] [] .ret (env3 (.i n) (.imm .arg 1 l) (.bool true) (.sl 0 0 p none p 1) (.sl 1 0 z none z 1) (.i er)) [.arr 1 xs true 0,.arr 1 zs true 0,.arr 1 us true 0] :=
  RunsTo.hin 0 60 [⟨1,1,.sl 0 0 p none p 1,[.arr 1 xs true 0]⟩,⟨2,2,.tuple [.sl 1 0 z none z 1,.i er],[.arr 1 xs true 0,.arr 1 zs true 0]⟩,⟨3,1,.bool false,[.arr 1 xs true 0,.arr 1 zs true 0]⟩,⟨3,4,.bool false,[.arr 1 xs true 0,.arr 1 zs true 0]⟩,⟨3,12,.bool false,[.arr 1 xs true 0,.arr 1 zs true 0]⟩,⟨5,3,.sl 2 0 u none u 1,[.arr 1 xs true 0,.arr 1 zs true 0,.arr 1 us true 0]⟩,⟨5,4,.bool true,[.arr 1 xs true 0,.arr 1 zs true 0,.arr 1 us true 0]⟩,⟨5,7,.bool true,[.arr 1 xs true 0,.arr 1 zs true 0,.arr 1 us true 0]⟩,⟨5,10,.bool true,[.arr 1 xs true 0,.arr 1 zs true 0,.arr 1 us true 0]⟩] fun kf hk=>⟨_,by kernel_rfl,(oC (g0 kf) (oC (g1 kf) (oB [.arr 1 xs true 0,.arr 1 zs true 0] (decide_eq_false g2) (oB [.arr 1 xs true 0,.arr 1 zs true 0] (decide_eq_false g3) (oB [.arr 1 xs true 0,.arr 1 zs true 0] (congrArg not (decide_eq_true g4)) (oC (g5 kf) (oC (g6 kf) (oB [.arr 1 xs true 0,.arr 1 zs true 0,.arr 1 us true 0] (decide_eq_true g7) (oC (g8 kf) .nil)))))))))⟩
theorem se_8 (n:Int) (l:List HV) (p:Nat) (xs:List HV) (z:Nat) (zs:List HV) (er:Int) (u:Nat) (us:List HV)(g0:∀ kf,callN Tp polL3 (kf+1) 14 [.imm .arg 1 l] []=some (.sl 0 0 p none p 1,[.arr 1 xs true 0])) (g1:∀ kf,callN Tp polL3 (kf+1) 15 [.i n,.sl 0 0 p none p 1] [.arr 1 xs true 0]=some (.tuple [.sl 1 0 z none z 1,.i er],[.arr 1 xs true 0,.arr 1 zs true 0])) (g2:¬ (n < 1)) (g3:¬ (20 < n)) (g4:¬ ((p:Int)=IntKind.i64.wrap (IntKind.i64.wrap (2 * n) - 1))) (g5:(z:Int)=0) (g6:er=2) (g7:∀ kf,callN Tp polL3 (kf+1) 16 [] [.arr 1 xs true 0,.arr 1 zs true 0]=some (.bool true,[.arr 1 xs true 0,.arr 1 zs true 0])):RT polL3 3 (sub [] B3) [(0,.i n),(1,.imm .arg 1 l)] [] .ret (env3 (.i n) (.imm .arg 1 l) (.bool true) (.sl 0 0 p none p 1) (.sl 1 0 z none z 1) (.i er)) [.arr 1 xs true 0,.arr 1 zs true 0] :=
  RunsTo.hin 0 60 [⟨1,1,.sl 0 0 p none p 1,[.arr 1 xs true 0]⟩,⟨2,2,.tuple [.sl 1 0 z none z 1,.i er],[.arr 1 xs true 0,.arr 1 zs true 0]⟩,⟨3,1,.bool false,[.arr 1 xs true 0,.arr 1 zs true 0]⟩,⟨3,4,.bool false,[.arr 1 xs true 0,.arr 1 zs true 0]⟩,⟨3,12,.bool true,[.arr 1 xs true 0,.arr 1 zs true 0]⟩,⟨4,2,.bool true,[.arr 1 xs true 0,.arr 1 zs true 0]⟩,⟨4,5,.bool true,[.arr 1 xs true 0,.arr 1 zs true 0]⟩,⟨4,8,.bool true,[.arr 1 xs true 0,.arr 1 zs true 0]⟩] fun kf hk=>⟨_,by kernel_rfl,(oC (g0 kf) (oC (g1 kf) (oB [.arr 1 xs true 0,.arr 1 zs true 0] (decide_eq_false g2) (oB [.arr 1 xs true 0,.arr 1 zs true 0] (decide_eq_false g3) (oB [.arr 1 xs true 0,.arr 1 zs true 0] (congrArg not (decide_eq_false g4)) (oB [.arr 1 xs true 0,.arr 1 zs true 0] (decide_eq_true g5) (oB [.arr 1 xs true 0,.arr 1 zs true 0] (decide_eq_true g6) (oC (g7 kf) .nil))))))))⟩
end Go.Proofs.Ytaibmipamkaljaa
end
section
open Go Go.HL
namespace Go.Proofs.Ytaibmipamkaljaa
open Go.Proofs.Try renaming prog → Tp
open Go.HL.HV renaming undef → Ud
theorem res3:Try.f3.results.toList=[.tmp 4]:=by kernel_rfl
theorem sumsExactly_law (a0:Int) (l1:List Int):∃ E H,RT polL3 3 B3 (args0 [.int .i64 a0,.imm .arg 1 (l1.map encI)]) [] .ret E H∧E.get 4=.bool true:=by
  have c0:=list_at (pol':=polL3) (by kernel_rfl) (l:=l1) (v:=.imm .arg 1 (l1.map encI)) (H:=[]) (arg_li _ _)
  generalize hL:l1.take 110=L at *
  have hLl:L.length ≤ 110:=by rw [← hL,List.length_take]; omega
  have hex:∀ r:List Int × Int,exT a0 L=some r → ∀ k,callN Tp polL3 (k+1) 15 [.int .i64 a0,.sl 0 0 L.length none L.length 1] [bI L]=some (.tuple [.sl 1 0 r.1.length none r.1.length 1,.int .i64 r.2],[bI L,bI r.1]):=fun r hr =>
    exactly_at (pol':=polL3) (by kernel_rfl) (v:=.sl 0 0 L.length none L.length 1) (H:=[bI L]) (arg_sl rfl rfl) hr
  have bad:¬ ((1 ≤ a0∧a0 ≤ 20)∧(L.length:Int)=2 * a0 - 1) → exT a0 L=some ([],2):=fun h=>by rw [exT,if_neg h]
  have aw:=awake_at (pol':=polL3) (by kernel_rfl) [bI L,bI []]
  by_cases h1:a0 < 1
  · exact ⟨_,_,se_0 a0 (l1.map encI) L.length (L.map encI) 0 [] 2 0 [] c0 (hex _ (bad (by omega))) h1 rfl rfl aw,rfl⟩
  by_cases h2:20 < a0
  · exact ⟨_,_,se_3 a0 (l1.map encI) L.length (L.map encI) 0 [] 2 0 [] c0 (hex _ (bad (by omega))) h1 h2 rfl rfl aw,rfl⟩
  have w:IntKind.i64.wrap (IntKind.i64.wrap (2 * a0) - 1)=2 * a0 - 1:=by rw [wrap_id (n:=2 * a0) (by omega) (by omega),wrap_id (by omega) (by omega)]
  by_cases h3:(L.length:Int)=2 * a0 - 1
  · have ho:=open_all (n:=a0) (by omega) (by omega) h3
    have hx:exT a0 L=some (partI (gN a0) (L.map (modX a0)) (a0,(0,0)),0):=by rw [exT,if_pos ⟨⟨by omega,by omega⟩,h3⟩,if_pos ho]
    have pl:=partT_len (gN_ok (n:=a0) (by omega) (by omega)) (L.map (modX a0)) 0 (a0,(0,0)) (fun x hx=>by
      obtain ⟨y,_,rfl⟩:=List.mem_map.1 hx
      exact modX_ok (by omega) y) ho
    have c5:=rexact_at (pol':=polL3) (by kernel_rfl) (n:=a0) (l:=L) (v:=.sl 0 0 L.length none L.length 1) (H:=[bI L,bI (partI (gN a0) (L.map (modX a0)) (a0,(0,0)))]) (arg_sl rfl rfl) ⟨⟨by omega,by omega⟩,by omega⟩
    have hPl:(partI (gN a0) (L.map (modX a0)) (a0,(0,0))).length ≤ 1000:=by
      simp only [partI,List.length_map]; simp only at pl; omega
    generalize partI (gN a0) (L.map (modX a0)) (a0,(0,0))=Q at *
    have it:=ints_at (pol':=polL3) (by kernel_rfl) (a:=Q) (b:=Q) (v1:=.sl 1 0 Q.length none Q.length 1) (v2:=.sl 2 0 Q.length none Q.length 1) (H:=[bI L,bI Q,bI Q]) (arg_sl rfl rfl) (arg_sl rfl rfl) hPl
    rw [decide_eq_true rfl] at it
    exact ⟨_,_,se_6 a0 (l1.map encI) L.length (L.map encI) Q.length (Q.map encI) 0 Q.length (Q.map encI) c0 (hex _ hx) h1 h2 (by rw [w]; exact h3) c5 it rfl (awake_at (pol':=polL3) (by kernel_rfl) [bI L,bI Q,bI Q]),rfl⟩
  · exact ⟨_,_,se_8 a0 (l1.map encI) L.length (L.map encI) 0 [] 2 0 [] c0 (hex _ (bad (by omega))) h1 h2 (by rw [w]; exact h3) rfl rfl aw,rfl⟩
end Go.Proofs.Ytaibmipamkaljaa
end
section
namespace Go.HL
open Go.ChangeShapes Go.WideShapes Go.ChangeAt Go.RowKit Go.Deep
theorem okNil (w:World) (r:Nat):okOf Ctx.nil w.heap.size false r:=by
  refine ⟨fun hM=>?_,by simp⟩
  obtain ⟨b,y,h1,_,_⟩:=M_iff.1 hM
  simp [Ctx.nil] at h1
theorem cell_lt {w:World} {a:Addr} {v:Value} (h:w.cell? a=some v):a.block < w.heap.size:=by
  rcases Nat.lt_or_ge a.block w.heap.size with hl | hl
  · exact hl
  · have:w.heap[a.block]?=none:=by simp [hl]
    simp [World.cell?,this] at h
end Go.HL
end
section
namespace Go.HL
open Go.ChangeShapes Go.WideShapes Go.ChangeAt Go.RowKit Go.Deep
theorem arg_ints_ok {H:Type} {enc:TypeId × Value → H} {P:Program} {W:World} {base:Nat} {t q:TypeId} {v:Value} {d:DataW H} {ps:List MemPlace} (ht:P.underlying t=some (.slice q)) (hq:P.underlying q=some (.int .i64)) (cq:P.cellsOf q=1)
    (hval:Value.okWide P W .any base t v) (hd:DataW.Trod enc P W 0 (fun _=>true) true t v d ps):∃ l:List Int,V W (okOf Ctx.nil W.heap.size) Ctx.nil (.imm .arg 1 (l.map encI)) v:=by
  obtain ⟨a,len,cap,rfl⟩:=okWide_slice ht hval
  obtain ⟨fuel,hf⟩:=hd
  rcases open_slice ht hf with ⟨h0,_⟩ | ⟨a',len',cap',m,n,D,Pl,h0,hb,hl,hm,hmm,hx,hel⟩
  · simp [Value.cells] at h0
    obtain ⟨rfl,rfl,rfl⟩:=h0
    exact ⟨[],.imm .arg 1 [] none 0 (fun _=>.bool false) (by simp) (by simp) (by simp) (by simp) (by simp) (by simp)⟩
  · simp [Value.cells] at h0
    obtain ⟨rfl,rfl,rfl⟩:=h0
    have hlm:len ≤ m:=by rw [hmm]; split <;> omega
    have each:∀ i,i < len → ∃ z:Int,W.cell? (a'.add i)=some (.int .i64 z):=by
      intro i hi
      obtain ⟨cs',h1,h2⟩:=hel i (by omega)
      rw [cq] at h1
      obtain ⟨_,hlen,hcell⟩:=World.cells?_some h1
      match cs',hlen with
      | [v0],_ =>
        obtain ⟨z0,e0,_,_⟩:=DataW.trod_int hq h2
        simp at e0
        subst e0
        have c0:=hcell 0 (by omega)
        rw [add_add] at c0
        exact ⟨z0,by simpa using c0⟩
    obtain ⟨f,hf⟩:=choose_lt each
    refine ⟨(List.range len).map f,?_⟩
    have hlen:(((List.range len).map f).map encI).length=len:=by simp
    have key:=V.imm (w:=W) (ok:=okOf Ctx.nil W.heap.size) (c:=Ctx.nil) .arg 1 (((List.range len).map f).map encI) (some a') cap (fun j=>.int .i64 (f j))
      (by rw [hlen]; exact hl) (by simp) ?_ ?_ ?_ ?_
    · rw [hlen] at key; exact key
    · intro hne
      have h0:0 < len:=by
        rcases Nat.eq_zero_or_pos len with h | h
        · subst h; simp at hne
        · exact h
      obtain ⟨b,off,spot⟩:=a'
      have hspot:spot=none:=by simpa [Addr.add] using World.cell?_spot (hf 0 h0)
      subst hspot
      refine ⟨b,off,rfl,by simpa [Addr.add] using cell_lt (hf 0 h0),okNil W b,fun j hj=>?_⟩
      rw [hlen] at hj
      have c0:=hf j (by omega)
      rw [add_plain] at c0
      exact c0
    · intro v hv
      obtain ⟨p,_,rfl⟩:=List.mem_map.1 hv
      rfl
    · intro v hv
      obtain ⟨p,_,rfl⟩:=List.mem_map.1 hv
      rfl
    · intro i v j x hi hj
      have hil:i < len:=by have:=lt_of_get hi; rw [hlen] at this; exact this
      have:v=encI (f i):=by
        rw [List.getElem?_map,List.getElem?_map,List.getElem?_range hil] at hi
        simpa using hi.symm
      subst this
      have hjx:j < 1:=lt_of_get hj
      match j,hjx,hj with
      | 0,_,hj =>
        simp [encI,cellsOf] at hj
        subst hj
        have e1:i * 1+0=i:=by omega
        rw [e1]
        exact V.int _ _
end Go.HL
end
