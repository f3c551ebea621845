/- A part of the proof. -/
import Derived.Test.YtiejmoglooaalaaP3B
set_option linter.unusedVariables false
set_option linter.unusedSimpArgs false
set_option linter.unnecessarySimpa false
open Go.IntKind renaming i64 → qA
open List renaming replicate → qB, length_set → qC, append_assoc → qD, range → qH, getD → qI, length_append → qJ, getElem?_set_ne → qL, map_cons → qM, length_map → qP, length_take → qQ, getElem?_append_right → qR, getElem?_eq_none → qU, take_length → qV, length_cons → qW, getElem?_set_self → jE, getElem?_append_left → jG, getElem_mem → jH, length_replicate → jN, set_append_right → jP, append_nil → jQ, length_nil → jU, getElem?_drop → jX, length_drop → jY, mem_or_eq_of_mem_set → zA, map_append → zC, getElem?_set → zF, eq_of_mem_replicate → zG, set_set → zN, ext_getElem? → zO, getElem?_take_of_lt → zP, mem_of_mem_drop → zQ, mem_cons_self → zS, mem_cons_of_mem → zT, map_map → zU, getElem?_eq_getElem → zY, foldl_append → zZ, replicate_zero → wA, set_getElem_self → wE, getElem?_cons_zero → wF, getElem?_cons_succ → wG
open Nat renaming le_refl → qE, lt_or_ge → qK, pow_succ → qN, mul_comm → qX, mul_add → jV, sub_self → jZ, eq_zero_or_pos → zH, add_mul_mod_self_left → wC
open Int renaming emod_nonneg → qF, emod_lt_of_pos → qG, mul_emod → qO, toNat_natCast → qS, tmod_eq_emod_of_nonneg → qT, pow_zero → qY, pow_succ → qZ, one_mul → jA, dvd_add → jI, mul_assoc → jW, sub_mul → zD, dvd_sub → zE, eq_ofNat_of_zero_le → zI, emod_emod_of_dvd → zJ, mul_le_mul → zL, dvd_mul_right → zV, dvd_mul_of_dvd_left → zW, dvd_mul_of_dvd_right → zX, tdiv_eq_ediv_of_nonneg → wD
open Bool renaming and_self → jJ
section
namespace Go.HL.Dt
set_option linter.unusedSectionVars false
open Go.Proofs.Try renaming prog → Tp
open Go.HL.HV renaming undef → Ud
def nd (p:Nat):Nat→Nat→Bool
 | 0,lo=>!(Nat.beq (p%lo) 0)
 | k+1,lo=>nd p k lo&&nd p k (lo+2 ^ k)
theorem QeV {p:Nat}:∀{k lo:Nat},nd p k lo=true→∀d,lo≤d→d<lo+2 ^ k→¬d∣p
 | 0,lo,h,d,h1,h2=>by
  have:d=lo:=by omega
  subst this
  intro c
  have e:=Nat.mod_eq_zero_of_dvd c
  simp [nd,e] at h
 | k+1,lo,h,d,h1,h2=>by
  rw [nd,Bool.and_eq_true] at h
  rw [qN] at h2
  rcases qK d (lo+2 ^ k) with c | c
  ·exact QeV h.1 d h1 c
  ·exact QeV h.2 d c (by omega)
structure Pr (p:Nat):Prop where
 big:65537<p
 small:p<4294967296
 nod:nd p 16 2=true
theorem Pr.cop {p:Nat} (h:Pr p) {k:Nat} (h0:0<k) (h1:k<p):Nat.Coprime p k:=by
 have hno:∀d,2≤d→d<65538→¬d∣p:=fun d a b=>QeV h.nod d a (by omega)
 have hg1:=Nat.gcd_dvd_left p k
 have hg2:=Nat.gcd_dvd_right p k
 have hg3:Nat.gcd p k≤k:=Nat.le_of_dvd h0 hg2
 have hg4:0<Nat.gcd p k:=Nat.gcd_pos_of_pos_right _ h0
 unfold Nat.Coprime
 generalize Nat.gcd p k=g at *
 rcases qK g 2 with c | c
 ·omega
 ·exfalso
  obtain ⟨q,hq⟩:=hg1
  rcases qK g 65538 with d | d
  ·exact hno g c d ⟨q,hq⟩
  ·rcases qK q 65538 with e | e
   ·rcases qK q 2 with f | f
    ·have:q=0∨q=1:=by omega
     rcases this with rfl | rfl
     ·rw [Nat.mul_zero] at hq;omega
     ·rw [Nat.mul_one] at hq;omega
    ·exact hno q f e ⟨g,by rw [qX];exact hq⟩
   ·have:=Nat.mul_le_mul d e
    have:=h.small
    omega
def ch:Nat→Nat→Nat
 | _,0=>1
 | 0,_+1=>0
 | n+1,k+1=>ch n k+ch n (k+1)
theorem Cr:∀n k:Nat,(k+1)*ch (n+1) (k+1)=(n+1)*ch n k
 | 0,0=>rfl
 | 0,k+1=>by simp [ch]
 | n+1,0=>by
  have:=Cr n 0
  simp only [ch] at this ⊢
  omega
 | n+1,k+1=>by
  have h1:=Cr n k
  have h2:=Cr n (k+1)
  have e1:ch (n+1+1) (k+1+1)=ch (n+1) (k+1)+ch (n+1) (k+1+1):=rfl
  have e2:ch (n+1) (k+1)=ch n k+ch n (k+1):=rfl
  rw [e1,jV,h2]
  have:(k+1+1)*ch (n+1) (k+1)=(k+1)*ch (n+1) (k+1)+ch (n+1) (k+1):=by rw [Nat.add_mul (k+1) 1,Nat.one_mul]
  rw [this,h1,e2]
  simp only [jV,Nat.add_mul,Nat.one_mul]
  omega
theorem Cs:∀n k:Nat,n<k→ch n k=0
 | n,0,h=>by omega
 | 0,k+1,_=>rfl
 | n+1,k+1,h=>by rw [ch,Cs n k (by omega),Cs n (k+1) (by omega)]
theorem Qb2:∀n:Nat,ch n n=1
 | 0=>rfl
 | n+1=>by rw [ch,Qb2 n,Cs n (n+1) (by omega)]
def S (f:Nat→Nat):Nat→Nat
 | 0=>0
 | m+1=>S f m+f m
theorem QiH (a n:Nat):∀m,S (fun k=>ch (n+1) k*a ^ k) (m+1)=S (fun k=>ch n k*a ^ k) (m+1)+a*S (fun k=>ch n k*a ^ k) m
 | 0=>by simp [S,ch]
 | m+1=>by
  have ih:=QiH a n m
  have e1:S (fun k=>ch (n+1) k*a ^ k) (m+1+1)=S (fun k=>ch (n+1) k*a ^ k) (m+1)+ch (n+1) (m+1)*a ^ (m+1):=rfl
  have e2:S (fun k=>ch n k*a ^ k) (m+1+1)=S (fun k=>ch n k*a ^ k) (m+1)+ch n (m+1)*a ^ (m+1):=rfl
  have e3:S (fun k=>ch n k*a ^ k) (m+1)=S (fun k=>ch n k*a ^ k) m+ch n m*a ^ m:=rfl
  rw [e1,ih,e2,show ch (n+1) (m+1)=ch n m+ch n (m+1) from rfl,Nat.add_mul]
  conv=>rhs;rw [e3]
  rw [e3,jV,qN]
  have:a*(ch n m*a ^ m)=ch n m*(a ^ m*a):=by rw [Nat.mul_left_comm,qX a (a ^ m)]
  rw [this]
  omega
theorem QiI (a:Nat):∀n,(a+1) ^ n=S (fun k=>ch n k*a ^ k) (n+1)
 | 0=>by simp [S,ch]
 | n+1=>by
  have ih:=QiI a n
  have h:=QiH a n (n+1)
  have e:S (fun k=>ch n k*a ^ k) (n+1+1)=S (fun k=>ch n k*a ^ k) (n+1):=by
   show S (fun k=>ch n k*a ^ k) (n+1)+ch n (n+1)*a ^ (n+1)=_
   rw [Cs n (n+1) (by omega)];omega
  rw [h,e,← ih,qN,jV,Nat.mul_one,qX a]
  omega
theorem Pr.ch_dvd {p:Nat} (h:Pr p) {k:Nat} (h0:0<k) (h1:k<p):p∣ch p k:=by
 obtain ⟨q,rfl⟩:∃q,p=q+1:=⟨p-1,by omega⟩
 obtain ⟨k,rfl⟩:∃j,k=j+1:=⟨k-1,by omega⟩
 have:=Cr q k
 exact (h.cop h0 h1).dvd_of_dvd_mul_left ⟨ch q k,this⟩
theorem Pr.fermat {p:Nat} (h:Pr p):∀a:Nat,a ^ p%p=a%p
 | 0=>by
  have:p≠0:=by have:=h.big;omega
  rw [Nat.zero_pow (by omega)]
 | a+1=>by
  have ih:=h.fermat a
  have hp:=h.big
  have key:∀m,1≤m→m≤p→S (fun k=>ch p k*a ^ k) m%p=1%p:=by
   intro m
   induction m with
   | zero=>intro h1 _;omega
   | succ m ihm =>
    intro _ h2
    rcases zH m with c | c
    ·subst c;simp [S,ch]
    ·have e:=ihm c (by omega)
     obtain ⟨q,hq⟩:=h.ch_dvd c (by omega)
     show (S (fun k=>ch p k*a ^ k) m+ch p m*a ^ m)%p=1%p
     rw [hq,Nat.mul_assoc,wC]
     exact e
  rw [QiI a p]
  show (S (fun k=>ch p k*a ^ k) p+ch p p*a ^ p)%p=_
  rw [Qb2,Nat.one_mul,Nat.add_mod,key p (by omega) (qE _),ih,← Nat.add_mod,Nat.add_comm]
theorem Pr.inv {p:Nat} (h:Pr p) {a:Nat} (h0:0<a) (h1:a<p):a*(a ^ (p-2))%p=1:=by
 have hp:=h.big
 have hf:=h.fermat a
 have e:a ^ p=a*(a*a ^ (p-2)):=by
  have:p=p-2+1+1:=by omega
  conv=>lhs;rw [this]
  rw [qN,qN,qX,qX (a ^ (p-2))]
 rw [e] at hf
 generalize a*a ^ (p-2)=X at *
 have hc:=h.cop h0 h1
 rcases zH X with c | c
 ·subst c
  rw [Nat.mul_zero,Nat.zero_mod,Nat.mod_eq_of_lt h1] at hf
  omega
 ·have hd:p∣a*(X-1):=by
   have h2:(a*X-a)%p=0:=Nat.sub_mod_eq_zero_of_mod_eq hf
   have h3:a*(X-1)=a*X-a:=by rw [Nat.mul_sub,Nat.mul_one]
   rw [h3]
   exact Nat.dvd_of_mod_eq_zero h2
  obtain ⟨q,hq⟩:=hc.dvd_of_dvd_mul_left hd
  have:X=1+p*q:=by omega
  rw [this,wC,Nat.mod_eq_of_lt (by omega)]
def pw (a:Int) (n:Nat) (p:Int):Int:=a ^ n%p
theorem Pr.invI {p:Nat} (h:Pr p) {a:Int} (h0:0<a) (h1:a<(p:Int)):a*pw a (p-2) (p:Int)%(p:Int)=1:=by
 obtain ⟨b,rfl⟩:=zI (Int.le_of_lt h0)
 have:=h.inv (a:=b) (by omega) (by omega)
 unfold pw
 have e:(b:Int) ^ (p-2)=((b ^ (p-2):Nat):Int):=by rw [Int.natCast_pow]
 rw [e,qO,zJ _ (Int.dvd_refl _),← qO]
 have e2:(b:Int)*((b ^ (p-2):Nat):Int)=((b*b ^ (p-2):Nat):Int):=by rw [Int.natCast_mul]
 rw [e2]
 have e3:((b*b ^ (p-2):Nat):Int)%(p:Int)=((b*b ^ (p-2)%p:Nat):Int):=by rw [Int.natCast_emod]
 rw [e3,this];rfl
theorem S2 (b p:Int):∀m:Nat,(b%p) ^ m%p=b ^ m%p
 | 0=>by rw [qY,qY]
 | m+1=>by
  rw [qZ,qZ,qO,S2 b p m,zJ _ (Int.dvd_refl p),← qO]
def pwL (p:Int):Nat→Int→Int→Nat→Int
 | 0,out,_,_=>out
 | k+1,out,a,n=>if n=0 then out else pwL p k (if n%2=1 then out*a%p else out) (a*a%p) (n/2)
theorem Qa3 {p:Int} (hp:1<p):∀(k:Nat) (out a:Int) (n:Nat),n<2 ^ k→0≤out→out<p→pwL p k out a n=out*a ^ n%p
 | 0,out,a,n,h,h0,h1=>by
  have:n=0:=by omega
  subst this
  rw [pwL,qY,Int.mul_one,Int.emod_eq_of_lt h0 h1]
 | k+1,out,a,n,h,h0,h1=>by
  rw [pwL]
  split
  ·rename_i e
   subst e
   rw [qY,Int.mul_one,Int.emod_eq_of_lt h0 h1]
  ·rename_i e
   rw [qN] at h
   have hq:∀(x:Int) (m:Nat),(x*(a*a%p) ^ m)%p=x*(a*a) ^ m%p:=fun x m=>by
    rw [qO,S2,← qO]
   have e2:∀m:Nat,(a*a) ^ m=a ^ (2*m):=fun m=>by rw [Int.pow_mul,qZ,qZ,qY,jA]
   by_cases c:n%2=1
   ·rw [if_pos c,Qa3 hp k _ _ _ (by omega) (qF _ (by omega)) (qG _ (by omega)),hq,e2]
    rw [qO,zJ _ (Int.dvd_refl p),← qO,jW]
    congr 2
    have:n=2*(n/2)+1:=by omega
    conv=>rhs;rw [this]
    rw [qZ,Int.mul_comm]
   ·rw [if_neg c,Qa3 hp k _ _ _ (by omega) h0 h1,hq,e2]
    congr 3
    omega
theorem Qb3 {p:Int} (hp:1<p) {k:Nat} {a:Int} {n:Nat} (h:n<2 ^ k):pwL p k 1 a n=pw a n p:=by
 rw [Qa3 hp k 1 a n h (by omega) hp,jA,pw]
theorem pr1:Pr 2147483647:=⟨by decide,by decide,by decide +kernel⟩
theorem pr2:Pr 2147483629:=⟨by decide,by decide,by decide +kernel⟩
theorem pr3:Pr 1000000007:=⟨by decide,by decide,by decide +kernel⟩
theorem pr4:Pr 998244353:=⟨by decide,by decide,by decide +kernel⟩
end Go.HL.Dt
end
section
open Go Go.HL
namespace Go.Proofs.Ytiejmoglooaalaa
set_option maxRecDepth 100000
set_option linter.unusedSectionVars false
open Go.Proofs.Try renaming prog → Tp
open Go.HL.HV renaming undef → Ud
section
variable {F:FuncId→Option (List HV→Option HV)}
noncomputable def B16:Code:=Try.f16.body.getD .skip
abbrev X3 (v0 v1 v4 v5 v6 v7 v9 v10 v11 v12:HV):Env:=[(0,v0),(1,v1),(4,v4),(5,v5),(6,v6),(7,v7),(9,v9),(10,v10),(11,v11),(12,v12)]
end
abbrev e16 (n:Int) (ls:List HV) (u6 u7 u8 u9:HV):Env:=X3 (.i n) (.g ls) (.i 0) (.i 0) (.q 0) (.bool true) u6 u7 u8 u9
section
variable {F:FuncId→Option (List HV→Option HV)}
variable (N:Nat) (n:Int) (ls:List HV)
include N n ls
theorem QmG:RU F 16 2 B16 [(0,.i n),(1,.g ls)] [] .normal (X3 (.i n) (.g ls) (.i 0) (.i 0) Ud Ud Ud Ud Ud Ud) [] :=
 hx N 60 []
end
section
variable {F:FuncId→Option (List HV→Option HV)}
variable (N:Nat) (n:Int) (ls:List HV)
include N n ls
theorem QmH {H0:Heap} {a0:HV} {H1:Heap} {H2:Heap} (g0:CN F N 39 [.i n,.g ls] [] (.tuple [.N n ls,.bool true]) H0) (g1:some (Wt (.agg [.i 0,.imm .lit 0 []]) H0)=some (a0,H1)) (g2:ST H1 66 (a0) (.N n ls) H2) (y6 y7 y9 y10 y11 y12:HV:=Ud): RU F 16 6 B16 (X3 (.i n) (.g ls) (.i 0) (.i 0) y6 y7 y9 y10 y11 y12) [] .normal (X3 (.i n) (.g ls) (.i 0) (.i 0) a0 (.bool true) y9 y10 y11 y12) H2 :=
 hx N 60 [jC 1 2 g0,jR 1 6 g1,jS 1 7 g2]
theorem QmI {H0:Heap} {a0:HV} {H1:Heap} {H2:Heap} (g0:CN F N 39 [.i n,.g ls] [] (.tuple [.N n ls,.bool false]) H0) (g1:some (Wt (.agg [.i 0,.imm .lit 0 []]) H0)=some (a0,H1)) (g2:ST H1 66 (a0) (.N n ls) H2) (y6 y7 y9 y10 y11 y12:HV:=Ud): RU F 16 6 B16 (X3 (.i n) (.g ls) (.i 0) (.i 0) y6 y7 y9 y10 y11 y12) [] .normal (X3 (.i n) (.g ls) (.i 0) (.i 0) a0 (.bool false) y9 y10 y11 y12) H2 :=
 hx N 60 [jC 1 2 g0,jR 1 6 g1,jS 1 7 g2]
theorem QgS (H:Heap) (y9 y10 y11 y12:HV:=Ud): RU F 16 14 B16 (e16 n ls y9 y10 y11 y12) H .normal (e16 n ls y9 y10 y11 y12) H :=
 hx N 60 []
theorem QgT (H:Heap) (y9 y10 y11 y12:HV:=Ud): RU F 16 14 B16 (X3 (.i n) (.g ls) (.i 0) (.i 0) (.q 0) (.bool false) y9 y10 y11 y12) H .ret (X3 (.i n) (.g ls) (.i 0) (.i 2) (.q 0) (.bool false) y9 y10 y11 y12) H :=
 hx N 60 []
theorem QmJ (H:Heap) (tb m:Nat) {H0:Heap} (g0:LD H 66 (.q 0) (.N n ls)) (g1:CM F 40 [.N n ls] H (.tuple [.s tb m,.bool true]) H0) (y9 y10 y11 y12:HV:=Ud): RU F 16 60 B16 (e16 n ls y9 y10 y11 y12) H .normal (e16 n ls (.bool true) y10 y11 y12) H0 :=
 hx N 60 [jO 4 0 H g0,jD 4 1 g1]
theorem QmK (H:Heap) (tb m:Nat) {H0:Heap} (g0:LD H 66 (.q 0) (.N n ls)) (g1:CM F 40 [.N n ls] H (.tuple [.s tb m,.bool false]) H0) (y9 y10 y11 y12:HV:=Ud): RU F 16 60 B16 (e16 n ls y9 y10 y11 y12) H .normal (e16 n ls (.bool false) y10 y11 y12) H0 :=
 hx N 60 [jO 4 0 H g0,jD 4 1 g1]
theorem QgU (H:Heap) (tb m:Nat) (y10 y11 y12:HV:=Ud): RU F 16 61 B16 (e16 n ls (.bool true) y10 y11 y12) H .normal (e16 n ls (.bool true) y10 y11 y12) H :=
 hx N 60 []
theorem QgV (H:Heap) (tb m:Nat) (y10 y11 y12:HV:=Ud): RU F 16 61 B16 (e16 n ls (.bool false) y10 y11 y12) H .ret (e16 n ls (.bool false) y10 y11 y12) H :=
 hx N 60 []
theorem QmL (H:Heap) (tb m:Nat) (x y:Int) {H0:Heap} {H1:Heap} (g0:LD H 66 (.q 0) (.N n ls)) (g1:CM F 44 [.N n ls,.i 2147483647] H (.i x) H0) (g2:LD H0 66 (.q 0) (.N n ls)) (g3:CM F 44 [.N n ls,.i 2147483629] H0 (.i y) H1) (gS7:(YT ((QK Tp H0 66 (.q 0)).map (fun v=>(v,(H0:Heap)))) ((QK Tp H 66 (.q 0)).map (fun v=>(v,(H:Heap)))) H0 H&&true)=true) (y10 y11 y12:HV:=Ud): RU F 16 62 B16 (e16 n ls (.bool true) y10 y11 y12) H .normal (e16 n ls (.bool true) (.i x) (.i y) y12) H1 :=
 hx N 60 [jK gS7,jO 7 0 H g0,jD 7 1 g1,jO 7 2 H0 g2,jD 7 3 g3]
theorem QmM (H:Heap) (x y z:Int) {H0:Heap} (g0:CM F 45 [.i 18,.i 2147483627,.i 2147483629] H (.i z) H0) (y9 y12:HV:=Ud): RU F 16 126 B16 (e16 n ls y9 (.i x) (.i y) y12) H .normal (e16 n ls y9 (.i x) (.i y) (.i ((qA.wrap ((qA.wrap (qA.wrap (y-(x:Int).tmod 2147483629)+2147483629):Int).tmod 2147483629*z):Int).tmod 2147483629))) H0 :=
 hx N 60 [jD 8 6 g0]
theorem QmN (H:Heap) (x z:Int) (y9 y11:HV:=Ud): RU F 16 127 B16 (e16 n ls y9 (.i x) y11 (.i z)) H .ret (X3 (.i n) (.g ls) (.i (qA.wrap (x+qA.wrap (2147483647*z)))) (.i 0) (.q 0) (.bool true) y9 (.i x) y11 (.i z)) H :=
 hx N 60 []
end
section
variable {F:FuncId→Option (List HV→Option HV)}
noncomputable def B44:Code:=Try.f44.body.getD .skip
abbrev VD (v0 v1 v2 v4 v5 v6 v7 v8 v9 v10 v11 v16 v17 v18:HV):Env:=[(0,v0),(1,v1),(2,v2),(4,v4),(5,v5),(6,v6),(7,v7),(8,v8),(9,v9),(10,v10),(11,v11),(16,v16),(17,v17),(18,v18)]
end
abbrev e44 (n:Int) (ls:List HV) (p:Int) (u4 u5 u6 u7 u8 u9 u10 u11 u12 u13:HV):Env:=VD (.N n ls) (.i p) (.q 0) (.i 0) u4 u5 u6 u7 u8 u9 u10 u11 u12 u13
section
variable {F:FuncId→Option (List HV→Option HV)}
variable (N:Nat) (n:Int) (ls:List HV) (p:Int)
include N n ls p
theorem QmO:RU F 44 2 B44 [(0,.N n ls),(1,.i p)] [] .normal (e44 n ls p Ud Ud Ud Ud Ud Ud Ud Ud Ud Ud) [.arr 2 [.N n ls] true 0] :=
 hx N 60 []
end
section
variable {F:FuncId→Option (List HV→Option HV)}
variable (N:Nat) (n:Int) (ls:List HV) (p:Int)
include N n ls p
theorem QmP (H:Heap) (y5 y6 y7 y8 y9 y10 y11 y16 y17 y18:HV:=Ud): RU F 44 6 B44 (e44 n ls p y5 y6 y7 y8 y9 y10 y11 y16 y17 y18) H .normal (e44 n ls p (.i 1) y6 y7 y8 y9 y10 y11 y16 y17 y18) H :=
 hx N 60 []
theorem QmQ (H:Heap) (vb:Nat) {H0:Heap} (g0:CN F N 53 [] H (.q vb) H0) (y6 y7 y8 y9 y10 y11 y16 y17 y18:HV:=Ud): RU F 44 14 B44 (e44 n ls p (.i 1) y6 y7 y8 y9 y10 y11 y16 y17 y18) H .normal (e44 n ls p (.i 1) (.q vb) y7 y8 y9 y10 y11 y16 y17 y18) H0 :=
 hx N 60 [jC 2 0 g0]
theorem QmR (H:Heap) (vb ob m:Nat) {H0:Heap} (g0:LD H 66 (.q 0) (.N n ls)) (g1:CM F 54 [.N n ls] H (.s ob m) H0) (y7 y8 y9 y10 y11 y16 y17 y18:HV:=Ud): RU F 44 30 B44 (e44 n ls p (.i 1) (.q vb) y7 y8 y9 y10 y11 y16 y17 y18) H .normal (e44 n ls p (.i 1) (.q vb) (.s ob m) y8 y9 y10 y11 y16 y17 y18) H0 :=
 hx N 60 [jO 3 0 H g0,jD 3 1 g1]
theorem QmS (H:Heap) (u:Int) (vb ob m:Nat) (y8 y9 y10 y11 y16 y17 y18:HV:=Ud): RU F 44 124 B44 (e44 n ls p (.i u) (.q vb) (.s ob m) y8 y9 y10 y11 y16 y17 y18) H .normal (e44 n ls p (.i u) (.q vb) (.s ob m) y8 y9 y10 y11 (.s ob m) (.n m) (.i 0)) H :=
 hx N 60 []
theorem QmT (H:Heap) (u:Int) (vb ob m i:Nat) (g0:(i:Int)<(m:Int)) (y8 y9 y10 y11:HV:=Ud): RunsTo Tp (plF F) 44 (sn 1000 B44) (e44 n ls p (.i u) (.q vb) (.s ob m) y8 y9 y10 y11 (.s ob m) (.n m) (.n i)) H .normal [0,1,2,4,5,6,7,8,9,10,11,16,17,18,19] [(0,.N n ls),(1,.i p),(2,.q 0),(4,.i 0),(5,.i u),(6,.q vb),(7,.s ob m),(8,y8),(9,y9),(10,y10),(11,y11),(16,.s ob m),(17,.n m),(18,.n i),(19,.bool true)] H :=
 hx N 60 [jT 5 0 H g0]
theorem QmU (H:Heap) (u:Int) (vb ob m i:Nat) (g0:¬((i:Int)<(m:Int))) (y8 y9 y10 y11:HV:=Ud): RunsTo Tp (plF F) 44 (sn 1000 B44) (e44 n ls p (.i u) (.q vb) (.s ob m) y8 y9 y10 y11 (.s ob m) (.n m) (.n i)) H .normal [0,1,2,4,5,6,7,8,9,10,11,16,17,18,19] [(0,.N n ls),(1,.i p),(2,.q 0),(4,.i 0),(5,.i u),(6,.q vb),(7,.s ob m),(8,y8),(9,y9),(10,y10),(11,y11),(16,.s ob m),(17,.n m),(18,.n i),(19,.bool false)] H :=
 hx N 60 [jF 5 0 H g0]
theorem QgW (H:Heap) (u:Int) (vb ob m i:Nat) (y8 y9 y10 y11:HV:=Ud): RU F 44 2002 B44 [(0,.N n ls),(1,.i p),(2,.q 0),(4,.i 0),(5,.i u),(6,.q vb),(7,.s ob m),(8,y8),(9,y9),(10,y10),(11,y11),(16,.s ob m),(17,.n m),(18,.n i),(19,.bool true)] H .normal (e44 n ls p (.i u) (.q vb) (.s ob m) y8 y9 y10 y11 (.s ob m) (.n m) (.n i)) H :=
 hx N 60 []
theorem QgX (H:Heap) (u:Int) (vb ob m i:Nat) (y8 y9 y10 y11:HV:=Ud): RU F 44 2002 B44 [(0,.N n ls),(1,.i p),(2,.q 0),(4,.i 0),(5,.i u),(6,.q vb),(7,.s ob m),(8,y8),(9,y9),(10,y10),(11,y11),(16,.s ob m),(17,.n m),(18,.n i),(19,.bool false)] H (.exit 0) (e44 n ls p (.i u) (.q vb) (.s ob m) y8 y9 y10 y11 (.s ob m) (.n m) (.n i)) H :=
 hx N 60 []
theorem QmV (H:Heap) (u:Int) (vb ob m i:Nat) (kk:Int) (g0:IS 24 ob m i) (g1:LD H 3 (.ptr ob i 0 m) (.i kk)) (y8 y9 y10 y11:HV:=Ud): RU F 44 16024 B44 (e44 n ls p (.i u) (.q vb) (.s ob m) y8 y9 y10 y11 (.s ob m) (.n m) (.n i)) H .normal (e44 n ls p (.i u) (.q vb) (.s ob m) (.n i) (.i kk) y10 y11 (.s ob m) (.n m) (.n i)) H :=
 hx N 60 [jO 6 1 H g0,jO 6 2 H g1]
theorem QmW (H:Heap) (u:Int) (vb ob m i:Nat) (kk a b w:Int) (g0:LD H 22 (.ptr 0 0 1 1) (.g ls)) (g1:IX 22 (.g ls) (.i kk) (.vptr (.agg [.i a,.i b,.i w]))) (y10 y11:HV:=Ud): RU F 44 32050 B44 (e44 n ls p (.i u) (.q vb) (.s ob m) (.n i) (.i kk) y10 y11 (.s ob m) (.n m) (.n i)) H .normal (e44 n ls p (.i u) (.q vb) (.s ob m) (.n i) (.i kk) (.i w) y11 (.s ob m) (.n m) (.n i)) H :=
 hx N 60 [jO 7 1 H g0,jO 7 3 H g1]
theorem QmX (H:Heap) (u:Int) (vb ob m i:Nat) (kk w y a2 b2 w2:Int) (g0:qA.wrap ((i:Int)+1)<(m:Int)) (g1:LD H 22 (.ptr 0 0 1 1) (.g ls)) (g2:IX 24 (.s ob m) (.i (qA.wrap ((i:Int)+1))) (.ptr ob ((qA.wrap ((i:Int)+1)).toNat) 0 m)) (g3:LD H 3 (.ptr ob ((qA.wrap ((i:Int)+1)).toNat) 0 m) (.i y)) (g4:IX 22 (.g ls) (.i y) (.vptr (.agg [.i a2,.i b2,.i w2]))) (g5:w2=w) (y11:HV:=Ud): RU F 44 64102 B44 (e44 n ls p (.i u) (.q vb) (.s ob m) (.n i) (.i kk) (.i w) y11 (.s ob m) (.n m) (.n i)) H (.exit 1) (e44 n ls p (.i u) (.q vb) (.s ob m) (.n i) (.i kk) (.i w) y11 (.s ob m) (.n m) (.n i)) H :=
 hx N 60 [jT 8 4 H g0,jO 8 7 H g1,jO 8 11 H g2,jO 8 12 H g3,jO 8 13 H g4,jT 8 17 H g5]
theorem QmY (H:Heap) (u:Int) (vb ob m i:Nat) (kk w y a2 b2 w2:Int) (g0:qA.wrap ((i:Int)+1)<(m:Int)) (g1:LD H 22 (.ptr 0 0 1 1) (.g ls)) (g2:IX 24 (.s ob m) (.i (qA.wrap ((i:Int)+1))) (.ptr ob ((qA.wrap ((i:Int)+1)).toNat) 0 m)) (g3:LD H 3 (.ptr ob ((qA.wrap ((i:Int)+1)).toNat) 0 m) (.i y)) (g4:IX 22 (.g ls) (.i y) (.vptr (.agg [.i a2,.i b2,.i w2]))) (g5:¬(w2=w)) (y11:HV:=Ud): RU F 44 64102 B44 (e44 n ls p (.i u) (.q vb) (.s ob m) (.n i) (.i kk) (.i w) y11 (.s ob m) (.n m) (.n i)) H .normal (e44 n ls p (.i u) (.q vb) (.s ob m) (.n i) (.i kk) (.i w) y11 (.s ob m) (.n m) (.n i)) H :=
 hx N 60 [jT 8 4 H g0,jO 8 7 H g1,jO 8 11 H g2,jO 8 12 H g3,jO 8 13 H g4,jF 8 17 H g5]
theorem QmZ (H:Heap) (u:Int) (vb ob m i:Nat) (kk w y a2 b2 w2:Int) (g0:¬(qA.wrap ((i:Int)+1)<(m:Int))) (y11:HV:=Ud): RU F 44 64102 B44 (e44 n ls p (.i u) (.q vb) (.s ob m) (.n i) (.i kk) (.i w) y11 (.s ob m) (.n m) (.n i)) H .normal (e44 n ls p (.i u) (.q vb) (.s ob m) (.n i) (.i kk) (.i w) y11 (.s ob m) (.n m) (.n i)) H :=
 hx N 60 [jF 8 4 H g0]
theorem Qm0 (H:Heap) (u:Int) (vb ob m i:Nat) (kk w r:Int) (ab:Nat) {H0:Heap} (g0:LD H 66 (.q 0) (.N n ls)) (g1:W6 Tp 24 (.s ob m) none (some (.i (qA.wrap ((i:Int)+1)))) none=some (.sl ob 0 ((qA.wrap ((i:Int)+1)).toNat) none m 1)) (g2:CN F N 57 [.N n ls,.sl ob 0 ((qA.wrap ((i:Int)+1)).toNat) none m 1] H (.tuple [.q ab,.i r]) H0) (y11:HV:=Ud): RU F 44 128206 B44 (e44 n ls p (.i u) (.q vb) (.s ob m) (.n i) (.i kk) (.i w) y11 (.s ob m) (.n m) (.n i)) H .normal (e44 n ls p (.i u) (.q vb) (.s ob m) (.n i) (.i kk) (.i w) (.q ab) (.s ob m) (.n m) (.n i)) H0 :=
 hx N 60 [jO 9 0 H g0,jO 9 4 H g1,jC 9 5 g2]
theorem Qm1 (H:Heap) (u:Int) (vb ob m i:Nat) (kk w x:Int) (ab:Nat) {H0:Heap} (g0:LD H 66 (.q 0) (.N n ls)) (g1:CN F N 65 [.N n ls,.q vb,.q ab,.i w,.i p] H (.i x) H0) (g2:BV .rem 3 (.i (qA.wrap (u*x))) (.i p) (.i ((qA.wrap (u*x):Int).tmod p))): RU F 44 128207 B44 (e44 n ls p (.i u) (.q vb) (.s ob m) (.n i) (.i kk) (.i w) (.q ab) (.s ob m) (.n m) (.n i)) H .normal (e44 n ls p (.i ((qA.wrap (u*x):Int).tmod p)) (.q ab) (.s ob m) (.n i) (.i kk) (.i w) (.q ab) (.s ob m) (.n m) (.n i)) H0 :=
 hx N 60 [jO 10 1 H g0,jC 10 6 g1,jO 10 9 H0 g2]
theorem QeW (H:Heap) (u:Int) (vb ob m i:Nat) (y8 y9 y10 y11:HV:=Ud): RU F 44 4007 B44 (e44 n ls p (.i u) (.q vb) (.s ob m) y8 y9 y10 y11 (.s ob m) (.n m) (.n i)) H .normal (e44 n ls p (.i u) (.q vb) (.s ob m) y8 y9 y10 y11 (.s ob m) (.n m) (.i (qA.wrap ((i:Int)+1)))) H :=
 hx N 60 []
theorem Qm2 (H:Heap) (u:Int) (vb ob m:Nat) (y8 y9 y10 y11 y16 y17 y18:HV:=Ud): RU F 44 63 B44 (e44 n ls p (.i u) (.q vb) (.s ob m) y8 y9 y10 y11 y16 y17 y18) H .ret (VD (.N n ls) (.i p) (.q 0) (.i u) (.i u) (.q vb) (.s ob m) y8 y9 y10 y11 y16 y17 y18) H :=
 hx N 60 []
end
section
variable {F:FuncId→Option (List HV→Option HV)}
noncomputable def B86:Code:=Try.f86.body.getD .skip
abbrev QeX (v0 v1 v2 v3 v4 v5:HV):Env:=[(0,v0),(1,v1),(2,v2),(3,v3),(4,v4),(5,v5)]
end
abbrev e86 (i:Int) (j:Int) (d:Int) (zb:Nat) (xb:Nat) (pb:Nat):Env:=QeX (.i i) (.i j) (.i d) (.q zb) (.q xb) (.q pb)
section
variable {F:FuncId→Option (List HV→Option HV)}
variable (i j d:Int) (zb xb pb:Nat) (H:Heap) (mb q ra:Nat) (y p:Int)
include i j d zb xb pb H mb q ra y p
theorem Qm3 {H0:Heap} (g0:LD H 3 (.q zb) (.n q)) (g1:i<(q:Int)) (g2:LD H 3 (.q zb) (.n q)) (g3:j<(q:Int)) (g4:LD H 57 (.q xb) (.o mb q)) (g5:IX 57 (.o mb q) (.i i) (.ptr mb ((i).toNat) 0 q)) (g6:LD H 24 (.ptr mb ((i).toNat) 0 q) (.o ra q)) (g7:LD H 57 (.q xb) (.o mb q)) (g8:IX 57 (.o mb q) (.i i) (.ptr mb ((i).toNat) 0 q)) (g9:LD H 24 (.ptr mb ((i).toNat) 0 q) (.o ra q)) (g10:IX 24 (.o ra q) (.i j) (.ptr ra ((j).toNat) 0 q)) (g11:LD H 3 (.ptr ra ((j).toNat) 0 q) (.i y)) (g12:LD H 3 (.q pb) (.i p)) (g13:LD H 3 (.q pb) (.i p)) (g14:BV .rem 3 (.i (qA.wrap (qA.wrap (y+d)+p))) (.i p) (.i ((qA.wrap (qA.wrap (y+d)+p):Int).tmod p))) (g15:IX 24 (.o ra q) (.i j) (.ptr ra ((j).toNat) 0 q)) (g16:ST H 3 (.ptr ra ((j).toNat) 0 q) (.i ((qA.wrap (qA.wrap (y+d)+p):Int).tmod p)) H0): RU F 86 1 B86 (e86 i j d zb xb pb) H .normal (e86 i j d zb xb pb) H0 :=
 hx 0 60 [jO 0 1 H g0,jT 0 2 H g1,jO 0 5 H g2,jT 0 6 H g3,jO 1 0 H g4,jO 1 2 H g5,jO 1 3 H g6,jO 1 5 H g7,jO 1 7 H g8,jO 1 8 H g9,jO 1 10 H g10,jO 1 11 H g11,jO 1 14 H g12,jO 1 16 H g13,jO 1 17 H g14,jO 1 18 H g15,jS 1 19 g16]
end
section
variable {F:FuncId→Option (List HV→Option HV)}
variable (i j d:Int) (zb xb pb:Nat) (H:Heap) (mb q ra:Nat) (y p:Int)
include i j d zb xb pb H mb q ra y p
theorem Qm4 (g0:LD H 3 (.q zb) (.n q)) (g1:i<(q:Int)) (g2:LD H 3 (.q zb) (.n q)) (g3:¬(j<(q:Int))): RU F 86 1 B86 (e86 i j d zb xb pb) H .normal (e86 i j d zb xb pb) H :=
 hx 0 60 [jO 0 1 H g0,jT 0 2 H g1,jO 0 5 H g2,jF 0 6 H g3]
theorem Qm5 (g0:LD H 3 (.q zb) (.n q)) (g1:¬(i<(q:Int))): RU F 86 1 B86 (e86 i j d zb xb pb) H .normal (e86 i j d zb xb pb) H :=
 hx 0 60 [jO 0 1 H g0,jF 0 2 H g1]
end
section
variable {F:FuncId→Option (List HV→Option HV)}
noncomputable def B65:Code:=Try.f65.body.getD .skip
abbrev QW (v0 v1 v2 v3 v4 v5 v9 v10 v11 v12 v13 v14 v15 v16 v17 v18 v20 v21 v22 v23 v25 v26 v31 v32 v60 v61 v72 v73 v74:HV):Env:=[(0,v0),(1,v1),(2,v2),(3,v3),(4,v4),(5,v5),(9,v9),(10,v10),(11,v11),(12,v12),(13,v13),(14,v14),(15,v15),(16,v16),(17,v17),(18,v18),(20,v20),(21,v21),(22,v22),(23,v23),(25,v25),(26,v26),(31,v31),(32,v32),(60,v60),(61,v61),(72,v72),(73,v73),(74,v74)]
end
abbrev e65 (n:Int) (ls:List HV) (bb:Nat) (ab:Nat) (w:Int) (p:Int) (nb:Nat) (pb:Nat) (u:Int) (top:Nat) (u9 u10 u11 u12 u13 u14 u15 u16 u17 u18 u19 u22 u23 u24 u25 u26 u27 u28:HV):Env:=QW (.N n ls) (.q bb) (.q ab) (.i w) (.i p) (.q nb) (.q pb) (.i 0) (.i u) u9 u10 u11 u12 u13 u14 u15 u16 u17 u18 u19 (.i n) (.n top) u22 u23 u24 u25 u26 u27 u28
section
variable {F:FuncId→Option (List HV→Option HV)}
variable (N:Nat) (n:Int) (ls:List HV) (bb ab:Nat) (w p:Int) (H:Heap) (nb pb:Nat)
include N n ls bb ab w p H nb pb
theorem Qm6 {a0:HV} {H0:Heap} {a1:HV} {H1:Heap} (g0:some (Wt (.N n ls) H)=some (a0,H0)) (g1:some (Wt (.i p) H0)=some (a1,H1)): RU F 65 2 B65 [(0,.N n ls),(1,.q bb),(2,.q ab),(3,.i w),(4,.i p)] H .normal (QW (.N n ls) (.q bb) (.q ab) (.i w) (.i p) a0 a1 (.i 0) Ud Ud Ud Ud Ud Ud Ud Ud Ud Ud Ud Ud Ud Ud Ud Ud Ud Ud Ud Ud Ud) H1 :=
 hx N 60 [jR 0 0 g0,jR 0 1 g1]
end
section
variable {F:FuncId→Option (List HV→Option HV)}
variable (N:Nat) (n:Int) (ls:List HV) (bb ab:Nat) (w p:Int) (H:Heap) (nb pb:Nat)
include N n ls bb ab w p H nb pb
theorem Qm7 (y11 y12 y13 y14 y15 y16 y17 y18 y20 y21 y22 y23 y25 y26 y31 y32 y60 y61 y72 y73 y74:HV:=Ud): RU F 65 6 B65 (QW (.N n ls) (.q bb) (.q ab) (.i w) (.i p) (.q nb) (.q pb) (.i 0) y11 y12 y13 y14 y15 y16 y17 y18 y20 y21 y22 y23 y25 y26 y31 y32 y60 y61 y72 y73 y74) H .normal (QW (.N n ls) (.q bb) (.q ab) (.i w) (.i p) (.q nb) (.q pb) (.i 0) (.i 1) y12 y13 y14 y15 y16 y17 y18 y20 y21 y22 y23 y25 y26 y31 y32 y60 y61 y72 y73 y74) H :=
 hx N 60 []
theorem Qm8 (u:Int) (g0:LD H 3 (.q nb) (.i n)) (y12 y13 y14 y15 y16 y17 y18 y20 y21 y22 y23 y25 y26 y31 y32 y60 y61 y72 y73 y74:HV:=Ud): RU F 65 28 B65 (QW (.N n ls) (.q bb) (.q ab) (.i w) (.i p) (.q nb) (.q pb) (.i 0) (.i u) y12 y13 y14 y15 y16 y17 y18 y20 y21 y22 y23 y25 y26 y31 y32 y60 y61 y72 y73 y74) H .normal (QW (.N n ls) (.q bb) (.q ab) (.i w) (.i p) (.q nb) (.q pb) (.i 0) (.i u) y12 y13 y14 y15 y16 y17 y18 y20 y21 y22 y23 (.i n) (.i 0) y31 y32 y60 y61 y72 y73 y74) H :=
 hx N 60 [jO 2 1 H g0]
theorem Qm9 (u:Int) (top:Nat) (g0:(top:Int)<n) (y12 y13 y14 y15 y16 y17 y18 y20 y21 y22 y23 y31 y32 y60 y61 y72 y73 y74:HV:=Ud): RunsTo Tp (plF F) 65 (sn 232 B65) (e65 n ls bb ab w p nb pb u top y12 y13 y14 y15 y16 y17 y18 y20 y21 y22 y23 y31 y32 y60 y61 y72 y73 y74) H .normal [0,1,2,3,4,5,9,10,11,12,13,14,15,16,17,18,20,21,22,23,25,26,31,32,60,61,72,73,74,27] [(0,.N n ls),(1,.q bb),(2,.q ab),(3,.i w),(4,.i p),(5,.q nb),(9,.q pb),(10,.i 0),(11,.i u),(12,y12),(13,y13),(14,y14),(15,y15),(16,y16),(17,y17),(18,y18),(20,y20),(21,y21),(22,y22),(23,y23),(25,.i n),(26,.n top),(31,y31),(32,y32),(60,y60),(61,y61),(72,y72),(73,y73),(74,y74),(27,.bool true)] H :=
 hx N 60 [jT 3 0 H g0]
theorem Qna (u:Int) (top:Nat) (g0:¬((top:Int)<n)) (y12 y13 y14 y15 y16 y17 y18 y20 y21 y22 y23 y31 y32 y60 y61 y72 y73 y74:HV:=Ud): RunsTo Tp (plF F) 65 (sn 232 B65) (e65 n ls bb ab w p nb pb u top y12 y13 y14 y15 y16 y17 y18 y20 y21 y22 y23 y31 y32 y60 y61 y72 y73 y74) H .normal [0,1,2,3,4,5,9,10,11,12,13,14,15,16,17,18,20,21,22,23,25,26,31,32,60,61,72,73,74,27] [(0,.N n ls),(1,.q bb),(2,.q ab),(3,.i w),(4,.i p),(5,.q nb),(9,.q pb),(10,.i 0),(11,.i u),(12,y12),(13,y13),(14,y14),(15,y15),(16,y16),(17,y17),(18,y18),(20,y20),(21,y21),(22,y22),(23,y23),(25,.i n),(26,.n top),(31,y31),(32,y32),(60,y60),(61,y61),(72,y72),(73,y73),(74,y74),(27,.bool false)] H :=
 hx N 60 [jF 3 0 H g0]
theorem QgY (u:Int) (top:Nat) (y12 y13 y14 y15 y16 y17 y18 y20 y21 y22 y23 y31 y32 y60 y61 y72 y73 y74:HV:=Ud): RU F 65 466 B65 [(0,.N n ls),(1,.q bb),(2,.q ab),(3,.i w),(4,.i p),(5,.q nb),(9,.q pb),(10,.i 0),(11,.i u),(12,y12),(13,y13),(14,y14),(15,y15),(16,y16),(17,y17),(18,y18),(20,y20),(21,y21),(22,y22),(23,y23),(25,.i n),(26,.n top),(31,y31),(32,y32),(60,y60),(61,y61),(72,y72),(73,y73),(74,y74),(27,.bool true)] H .normal (e65 n ls bb ab w p nb pb u top y12 y13 y14 y15 y16 y17 y18 y20 y21 y22 y23 y31 y32 y60 y61 y72 y73 y74) H :=
 hx N 60 []
theorem QgZ (u:Int) (top:Nat) (y12 y13 y14 y15 y16 y17 y18 y20 y21 y22 y23 y31 y32 y60 y61 y72 y73 y74:HV:=Ud): RU F 65 466 B65 [(0,.N n ls),(1,.q bb),(2,.q ab),(3,.i w),(4,.i p),(5,.q nb),(9,.q pb),(10,.i 0),(11,.i u),(12,y12),(13,y13),(14,y14),(15,y15),(16,y16),(17,y17),(18,y18),(20,y20),(21,y21),(22,y22),(23,y23),(25,.i n),(26,.n top),(31,y31),(32,y32),(60,y60),(61,y61),(72,y72),(73,y73),(74,y74),(27,.bool false)] H (.exit 0) (e65 n ls bb ab w p nb pb u top y12 y13 y14 y15 y16 y17 y18 y20 y21 y22 y23 y31 y32 y60 y61 y72 y73 y74) H :=
 hx N 60 []
theorem Qnb (u:Int) (top:Nat) (y12 y13 y14 y15 y16 y17 y18 y20 y21 y22 y23 y31 y32 y60 y61 y72 y73 y74:HV:=Ud): RU F 65 3736 B65 (e65 n ls bb ab w p nb pb u top y12 y13 y14 y15 y16 y17 y18 y20 y21 y22 y23 y31 y32 y60 y61 y72 y73 y74) H .normal (e65 n ls bb ab w p nb pb u top (.n top) y13 y14 y15 y16 y17 y18 y20 y21 y22 y23 y31 y32 y60 y61 y72 y73 y74) H :=
 hx N 60 []
theorem Qnc (u:Int) (top:Nat) (kb:Nat) {H0:Heap} (g0:some (HV.map H.length,H++[Blk.map [] [] 0])=some (.map kb,H0)) (y13 y14 y15 y16 y17 y18 y20 y21 y22 y23 y31 y32 y60 y61 y72 y73 y74:HV:=Ud): RU F 65 7474 B65 (e65 n ls bb ab w p nb pb u top (.n top) y13 y14 y15 y16 y17 y18 y20 y21 y22 y23 y31 y32 y60 y61 y72 y73 y74) H .normal (e65 n ls bb ab w p nb pb u top (.n top) (.map kb) y14 y15 y16 y17 y18 y20 y21 y22 y23 y31 y32 y60 y61 y72 y73 y74) H0 :=
 hx N 60 [jR 5 0 g0]
theorem Qnd (u:Int) (top:Nat) (kb:Nat) (g0:LD H 3 (.q nb) (.i n)) (y14 y15 y16 y17 y18 y20 y21 y22 y23 y31 y32 y60 y61 y72 y73 y74:HV:=Ud): RU F 65 29900 B65 (e65 n ls bb ab w p nb pb u top (.n top) (.map kb) y14 y15 y16 y17 y18 y20 y21 y22 y23 y31 y32 y60 y61 y72 y73 y74) H .normal (e65 n ls bb ab w p nb pb u top (.n top) (.map kb) y14 y15 y16 y17 y18 y20 y21 y22 y23 (.i n) (.i 0) y60 y61 y72 y73 y74) H :=
 hx N 60 [jO 6 1 H g0]
theorem Qne (u:Int) (top:Nat) (kb:Nat) (v:Nat) (g0:(v:Int)<n) (y14 y15 y16 y17 y18 y20 y21 y22 y23 y60 y61 y72 y73 y74:HV:=Ud): RunsTo Tp (plF F) 65 (sn 239208 B65) (e65 n ls bb ab w p nb pb u top (.n top) (.map kb) y14 y15 y16 y17 y18 y20 y21 y22 y23 (.i n) (.n v) y60 y61 y72 y73 y74) H .normal [0,1,2,3,4,5,9,10,11,12,13,14,15,16,17,18,20,21,22,23,25,26,31,32,60,61,72,73,74,33] [(0,.N n ls),(1,.q bb),(2,.q ab),(3,.i w),(4,.i p),(5,.q nb),(9,.q pb),(10,.i 0),(11,.i u),(12,.n top),(13,.map kb),(14,y14),(15,y15),(16,y16),(17,y17),(18,y18),(20,y20),(21,y21),(22,y22),(23,y23),(25,.i n),(26,.n top),(31,.i n),(32,.n v),(60,y60),(61,y61),(72,y72),(73,y73),(74,y74),(33,.bool true)] H :=
 hx N 60 [jT 7 0 H g0]
theorem Qnf (u:Int) (top:Nat) (kb:Nat) (v:Nat) (g0:¬((v:Int)<n)) (y14 y15 y16 y17 y18 y20 y21 y22 y23 y60 y61 y72 y73 y74:HV:=Ud): RunsTo Tp (plF F) 65 (sn 239208 B65) (e65 n ls bb ab w p nb pb u top (.n top) (.map kb) y14 y15 y16 y17 y18 y20 y21 y22 y23 (.i n) (.n v) y60 y61 y72 y73 y74) H .normal [0,1,2,3,4,5,9,10,11,12,13,14,15,16,17,18,20,21,22,23,25,26,31,32,60,61,72,73,74,33] [(0,.N n ls),(1,.q bb),(2,.q ab),(3,.i w),(4,.i p),(5,.q nb),(9,.q pb),(10,.i 0),(11,.i u),(12,.n top),(13,.map kb),(14,y14),(15,y15),(16,y16),(17,y17),(18,y18),(20,y20),(21,y21),(22,y22),(23,y23),(25,.i n),(26,.n top),(31,.i n),(32,.n v),(60,y60),(61,y61),(72,y72),(73,y73),(74,y74),(33,.bool false)] H :=
 hx N 60 [jF 7 0 H g0]
theorem Qg0 (u:Int) (top:Nat) (kb:Nat) (v:Nat) (y14 y15 y16 y17 y18 y20 y21 y22 y23 y60 y61 y72 y73 y74:HV:=Ud): RU F 65 478418 B65 [(0,.N n ls),(1,.q bb),(2,.q ab),(3,.i w),(4,.i p),(5,.q nb),(9,.q pb),(10,.i 0),(11,.i u),(12,.n top),(13,.map kb),(14,y14),(15,y15),(16,y16),(17,y17),(18,y18),(20,y20),(21,y21),(22,y22),(23,y23),(25,.i n),(26,.n top),(31,.i n),(32,.n v),(60,y60),(61,y61),(72,y72),(73,y73),(74,y74),(33,.bool true)] H .normal (e65 n ls bb ab w p nb pb u top (.n top) (.map kb) y14 y15 y16 y17 y18 y20 y21 y22 y23 (.i n) (.n v) y60 y61 y72 y73 y74) H :=
 hx N 60 []
theorem Qg1 (u:Int) (top:Nat) (kb:Nat) (v:Nat) (y14 y15 y16 y17 y18 y20 y21 y22 y23 y60 y61 y72 y73 y74:HV:=Ud): RU F 65 478418 B65 [(0,.N n ls),(1,.q bb),(2,.q ab),(3,.i w),(4,.i p),(5,.q nb),(9,.q pb),(10,.i 0),(11,.i u),(12,.n top),(13,.map kb),(14,y14),(15,y15),(16,y16),(17,y17),(18,y18),(20,y20),(21,y21),(22,y22),(23,y23),(25,.i n),(26,.n top),(31,.i n),(32,.n v),(60,y60),(61,y61),(72,y72),(73,y73),(74,y74),(33,.bool false)] H (.exit 2) (e65 n ls bb ab w p nb pb u top (.n top) (.map kb) y14 y15 y16 y17 y18 y20 y21 y22 y23 (.i n) (.n v) y60 y61 y72 y73 y74) H :=
 hx N 60 []
theorem Qng (u:Int) (top:Nat) (kb:Nat) (v:Nat) {e0:Int} {H0:Heap} {e1:Int} {H1:Heap} {n0:Int} {H2:Heap} (g0:CN F N 55 [.q bb,.n v] H (.i e0) H0) (g1:e0=(v:Int)) (g2:CN F N 55 [.q ab,.n v] H0 (.i e1) H1) (g3:e1=(top:Int)) (g4:Uq Tp H1 117 (.map kb)=some (.i n0)) (g5:GL Tp false 117 (.map kb) (.n v) (.i n0) H1=some H2) (y14 y15 y16 y17 y18 y20 y21 y22 y23 y60 y61 y72 y73 y74:HV:=Ud): RU F 65 956838 B65 (e65 n ls bb ab w p nb pb u top (.n top) (.map kb) y14 y15 y16 y17 y18 y20 y21 y22 y23 (.i n) (.n v) y60 y61 y72 y73 y74) H .normal (e65 n ls bb ab w p nb pb u top (.n top) (.map kb) (.n v) y15 y16 y17 y18 y20 y21 y22 y23 (.i n) (.n v) y60 y61 y72 y73 y74) H2 :=
 hx N 60 [jC 9 2 g0,jT 9 4 H0 g1,jC 9 8 g2,jT 9 10 H1 g3,jO 10 3 H1 g4,jS 10 4 g5]
theorem Qnh (u:Int) (top:Nat) (kb:Nat) (v:Nat) {e0:Int} {H0:Heap} {e1:Int} {H1:Heap} (g0:CN F N 55 [.q bb,.n v] H (.i e0) H0) (g1:e0=(v:Int)) (g2:CN F N 55 [.q ab,.n v] H0 (.i e1) H1) (g3:¬(e1=(top:Int))) (y14 y15 y16 y17 y18 y20 y21 y22 y23 y60 y61 y72 y73 y74:HV:=Ud): RU F 65 956838 B65 (e65 n ls bb ab w p nb pb u top (.n top) (.map kb) y14 y15 y16 y17 y18 y20 y21 y22 y23 (.i n) (.n v) y60 y61 y72 y73 y74) H .normal (e65 n ls bb ab w p nb pb u top (.n top) (.map kb) (.n v) y15 y16 y17 y18 y20 y21 y22 y23 (.i n) (.n v) y60 y61 y72 y73 y74) H1 :=
 hx N 60 [jC 9 2 g0,jT 9 4 H0 g1,jC 9 8 g2,jF 9 10 H1 g3]
theorem Qni (u:Int) (top:Nat) (kb:Nat) (v:Nat) {e0:Int} {H0:Heap} (g0:CN F N 55 [.q bb,.n v] H (.i e0) H0) (g1:¬(e0=(v:Int))) (y14 y15 y16 y17 y18 y20 y21 y22 y23 y60 y61 y72 y73 y74:HV:=Ud): RU F 65 956838 B65 (e65 n ls bb ab w p nb pb u top (.n top) (.map kb) y14 y15 y16 y17 y18 y20 y21 y22 y23 (.i n) (.n v) y60 y61 y72 y73 y74) H .normal (e65 n ls bb ab w p nb pb u top (.n top) (.map kb) (.n v) y15 y16 y17 y18 y20 y21 y22 y23 (.i n) (.n v) y60 y61 y72 y73 y74) H0 :=
 hx N 60 [jC 9 2 g0,jF 9 4 H0 g1]
theorem Qnj (u:Int) (top:Nat) (kb:Nat) (v:Nat) (y14 y15 y16 y17 y18 y20 y21 y22 y23 y60 y61 y72 y73 y74:HV:=Ud): RU F 65 956839 B65 (e65 n ls bb ab w p nb pb u top (.n top) (.map kb) y14 y15 y16 y17 y18 y20 y21 y22 y23 (.i n) (.n v) y60 y61 y72 y73 y74) H .normal (e65 n ls bb ab w p nb pb u top (.n top) (.map kb) y14 y15 y16 y17 y18 y20 y21 y22 y23 (.i n) (.i (qA.wrap ((v:Int)+1))) y60 y61 y72 y73 y74) H :=
 hx N 60 []
theorem Qnk (u:Int) (top:Nat) (kb:Nat) (zb:Nat) (e:Int) {n0:Int} {H0:Heap} {H1:Heap} (g0:Uq Tp H 117 (.map kb)=some (.i n0)) (g1:some (Wt (.i 0) H)=some (.q zb,H0)) (g2:ST H0 3 (.q zb) (.i (qA.wrap (n0-1))) H1) (y14 y15 y16 y17 y18 y20 y21 y22 y23 y31 y32 y60 y61 y72 y73 y74:HV:=Ud): RU F 65 29902 B65 (e65 n ls bb ab w p nb pb u top (.n top) (.map kb) y14 y15 y16 y17 y18 y20 y21 y22 y23 y31 y32 y60 y61 y72 y73 y74) H .normal (e65 n ls bb ab w p nb pb u top (.n top) (.map kb) y14 (.q zb) y16 y17 y18 y20 y21 y22 y23 y31 y32 y60 y61 y72 y73 y74) H1 :=
 hx N 60 [jO 12 1 H g0,jR 12 3 g1,jS 12 4 g2]
theorem Qnl (u:Int) (top:Nat) (kb:Nat) (zb:Nat) (e:Int) (g0:LD H 3 (.q zb) (.i e)) (g1:e<1) (y14 y16 y17 y18 y20 y21 y22 y23 y31 y32 y60 y61 y72 y73 y74:HV:=Ud): RU F 65 59806 B65 (e65 n ls bb ab w p nb pb u top (.n top) (.map kb) y14 (.q zb) y16 y17 y18 y20 y21 y22 y23 y31 y32 y60 y61 y72 y73 y74) H (.exit 1) (e65 n ls bb ab w p nb pb u top (.n top) (.map kb) y14 (.q zb) y16 y17 y18 y20 y21 y22 y23 y31 y32 y60 y61 y72 y73 y74) H :=
 hx N 60 [jO 13 0 H g0,jT 13 1 H g1]
theorem Qnm (u:Int) (top:Nat) (kb:Nat) (zb:Nat) (e:Int) (g0:LD H 3 (.q zb) (.i e)) (g1:¬(e<1)) (y14 y16 y17 y18 y20 y21 y22 y23 y31 y32 y60 y61 y72 y73 y74:HV:=Ud): RU F 65 59806 B65 (e65 n ls bb ab w p nb pb u top (.n top) (.map kb) y14 (.q zb) y16 y17 y18 y20 y21 y22 y23 y31 y32 y60 y61 y72 y73 y74) H .normal (e65 n ls bb ab w p nb pb u top (.n top) (.map kb) y14 (.q zb) y16 y17 y18 y20 y21 y22 y23 y31 y32 y60 y61 y72 y73 y74) H :=
 hx N 60 [jO 13 0 H g0,jF 13 1 H g1]
theorem Qnn (u:Int) (top:Nat) (kb:Nat) (zb:Nat) (xb:Nat) (mb q:Nat) {H0:Heap} {H1:Heap} {H2:Heap} (g0:LD H 3 (.q zb) (.n q)) (g1:Va Tp false 57 (.n q) (.n q) H=some (.o mb q,H0)) (g2:some (HV.ptr H0.length 0 0 1,H0++[Blk.arr 1 [HV.sl (H0.length+1) 0 0 none 0 1] true (H0.length+2),Blk.b []])=some (.q xb,H1)) (g3:ST H1 57 (.q xb) (.o mb q) H2) (y14 y16 y17 y18 y20 y21 y22 y23 y31 y32 y60 y61 y72 y73 y74:HV:=Ud): RU F 65 119614 B65 (e65 n ls bb ab w p nb pb u top (.n top) (.map kb) y14 (.q zb) y16 y17 y18 y20 y21 y22 y23 y31 y32 y60 y61 y72 y73 y74) H .normal (e65 n ls bb ab w p nb pb u top (.n top) (.map kb) y14 (.q zb) (.q xb) y17 y18 y20 y21 y22 y23 y31 y32 y60 y61 y72 y73 y74) H2 :=
 hx N 60 [jO 14 0 H g0,jR 14 1 g1,jR 14 2 g2,jS 14 3 g3]
theorem Qno (u:Int) (top:Nat) (kb:Nat) (zb:Nat) (xb:Nat) (mb q:Nat) (g0:LD H 57 (.q xb) (.o mb q)) (y14 y17 y18 y20 y21 y22 y23 y31 y32 y60 y61 y72 y73 y74:HV:=Ud): RU F 65 478460 B65 (e65 n ls bb ab w p nb pb u top (.n top) (.map kb) y14 (.q zb) (.q xb) y17 y18 y20 y21 y22 y23 y31 y32 y60 y61 y72 y73 y74) H .normal (e65 n ls bb ab w p nb pb u top (.n top) (.map kb) y14 (.q zb) (.q xb) y17 y18 y20 y21 y22 y23 y31 y32 (.n q) (.i 0) y72 y73 y74) H :=
 hx N 60 [jO 15 0 H g0]
theorem Qnp (u:Int) (top:Nat) (kb:Nat) (zb:Nat) (xb:Nat) (q i:Nat) (g0:(i:Int)<(q:Int)) (y12 y14 y17 y18 y20 y21 y22 y23 y31 y32 y72 y73 y74:HV:=Ud): RunsTo Tp (plF F) 65 (sn 3827688 B65) (e65 n ls bb ab w p nb pb u top y12 (.map kb) y14 (.q zb) (.q xb) y17 y18 y20 y21 y22 y23 y31 y32 (.n q) (.n i) y72 y73 y74) H .normal [0,1,2,3,4,5,9,10,11,12,13,14,15,16,17,18,20,21,22,23,25,26,31,32,60,61,72,73,74,62] [(0,.N n ls),(1,.q bb),(2,.q ab),(3,.i w),(4,.i p),(5,.q nb),(9,.q pb),(10,.i 0),(11,.i u),(12,y12),(13,.map kb),(14,y14),(15,.q zb),(16,.q xb),(17,y17),(18,y18),(20,y20),(21,y21),(22,y22),(23,y23),(25,.i n),(26,.n top),(31,y31),(32,y32),(60,.n q),(61,.n i),(72,y72),(73,y73),(74,y74),(62,.bool true)] H :=
 hx N 60 [jT 16 0 H g0]
theorem Qnq (u:Int) (top:Nat) (kb:Nat) (zb:Nat) (xb:Nat) (q i:Nat) (g0:¬((i:Int)<(q:Int))) (y12 y14 y17 y18 y20 y21 y22 y23 y31 y32 y72 y73 y74:HV:=Ud): RunsTo Tp (plF F) 65 (sn 3827688 B65) (e65 n ls bb ab w p nb pb u top y12 (.map kb) y14 (.q zb) (.q xb) y17 y18 y20 y21 y22 y23 y31 y32 (.n q) (.n i) y72 y73 y74) H .normal [0,1,2,3,4,5,9,10,11,12,13,14,15,16,17,18,20,21,22,23,25,26,31,32,60,61,72,73,74,62] [(0,.N n ls),(1,.q bb),(2,.q ab),(3,.i w),(4,.i p),(5,.q nb),(9,.q pb),(10,.i 0),(11,.i u),(12,y12),(13,.map kb),(14,y14),(15,.q zb),(16,.q xb),(17,y17),(18,y18),(20,y20),(21,y21),(22,y22),(23,y23),(25,.i n),(26,.n top),(31,y31),(32,y32),(60,.n q),(61,.n i),(72,y72),(73,y73),(74,y74),(62,.bool false)] H :=
 hx N 60 [jF 16 0 H g0]
theorem Qg2 (u:Int) (top:Nat) (kb:Nat) (zb:Nat) (xb:Nat) (q i:Nat) (y12 y14 y17 y18 y20 y21 y22 y23 y31 y32 y72 y73 y74:HV:=Ud): RU F 65 7655378 B65 [(0,.N n ls),(1,.q bb),(2,.q ab),(3,.i w),(4,.i p),(5,.q nb),(9,.q pb),(10,.i 0),(11,.i u),(12,y12),(13,.map kb),(14,y14),(15,.q zb),(16,.q xb),(17,y17),(18,y18),(20,y20),(21,y21),(22,y22),(23,y23),(25,.i n),(26,.n top),(31,y31),(32,y32),(60,.n q),(61,.n i),(72,y72),(73,y73),(74,y74),(62,.bool true)] H .normal (e65 n ls bb ab w p nb pb u top y12 (.map kb) y14 (.q zb) (.q xb) y17 y18 y20 y21 y22 y23 y31 y32 (.n q) (.n i) y72 y73 y74) H :=
 hx N 60 []
theorem Qg3 (u:Int) (top:Nat) (kb:Nat) (zb:Nat) (xb:Nat) (q i:Nat) (y12 y14 y17 y18 y20 y21 y22 y23 y31 y32 y72 y73 y74:HV:=Ud): RU F 65 7655378 B65 [(0,.N n ls),(1,.q bb),(2,.q ab),(3,.i w),(4,.i p),(5,.q nb),(9,.q pb),(10,.i 0),(11,.i u),(12,y12),(13,.map kb),(14,y14),(15,.q zb),(16,.q xb),(17,y17),(18,y18),(20,y20),(21,y21),(22,y22),(23,y23),(25,.i n),(26,.n top),(31,y31),(32,y32),(60,.n q),(61,.n i),(72,y72),(73,y73),(74,y74),(62,.bool false)] H (.exit 4) (e65 n ls bb ab w p nb pb u top y12 (.map kb) y14 (.q zb) (.q xb) y17 y18 y20 y21 y22 y23 y31 y32 (.n q) (.n i) y72 y73 y74) H :=
 hx N 60 []
theorem Qnr (u:Int) (top:Nat) (kb:Nat) (zb:Nat) (xb:Nat) (q i mb ra:Nat) {H0:Heap} {H1:Heap} (g0:LD H 57 (.q xb) (.o mb q)) (g1:LD H 3 (.q zb) (.n q)) (g2:Va Tp false 24 (.n q) (.n q) H=some (.o ra q,H0)) (g3:IO 57 mb q i) (g4:ST H0 24 (.ptr mb i 0 q) (.o ra q) H1) (gS18:(YT ((QK Tp H 57 (.q xb)).map (fun v=>(v,(H:Heap)))) ((QK Tp H0 57 (.q xb)).map (fun v=>(v,(H0:Heap)))) H H0&&true)=true) (y12 y14 y17 y18 y20 y21 y22 y23 y31 y32 y72 y73 y74:HV:=Ud): RU F 65 15310758 B65 (e65 n ls bb ab w p nb pb u top y12 (.map kb) y14 (.q zb) (.q xb) y17 y18 y20 y21 y22 y23 y31 y32 (.n q) (.n i) y72 y73 y74) H .normal (e65 n ls bb ab w p nb pb u top y12 (.map kb) y14 (.q zb) (.q xb) (.n i) y18 y20 y21 y22 y23 y31 y32 (.n q) (.n i) y72 y73 y74) H1 :=
 hx N 60 [jK gS18,jO 18 0 H g0,jO 18 2 H g1,jR 18 3 g2,jO 18 4 H0 g3,jS 18 5 g4]
theorem Qns (u:Int) (top:Nat) (kb:Nat) (zb:Nat) (xb:Nat) (q i:Nat) (y12 y14 y17 y18 y20 y21 y22 y23 y31 y32 y72 y73 y74:HV:=Ud): RU F 65 15310759 B65 (e65 n ls bb ab w p nb pb u top y12 (.map kb) y14 (.q zb) (.q xb) y17 y18 y20 y21 y22 y23 y31 y32 (.n q) (.n i) y72 y73 y74) H .normal (e65 n ls bb ab w p nb pb u top y12 (.map kb) y14 (.q zb) (.q xb) y17 y18 y20 y21 y22 y23 y31 y32 (.n q) (.i (qA.wrap ((i:Int)+1))) y72 y73 y74) H :=
 hx N 60 []
theorem Qnt (u:Int) (top:Nat) (kb:Nat) (zb:Nat) (xb:Nat) (y12 y14 y17 y18 y20 y21 y22 y23 y31 y32 y60 y61 y72 y73 y74:HV:=Ud): RU F 65 478462 B65 (e65 n ls bb ab w p nb pb u top y12 (.map kb) y14 (.q zb) (.q xb) y17 y18 y20 y21 y22 y23 y31 y32 y60 y61 y72 y73 y74) H .normal (e65 n ls bb ab w p nb pb u top y12 (.map kb) y14 (.q zb) (.q xb) y17 (.func 86 [] [.q zb,.q xb,.q pb]) y20 y21 y22 y23 y31 y32 y60 y61 y72 y73 y74) H :=
 hx N 60 []
theorem Qnu (u:Int) (top:Nat) (kb:Nat) (zb:Nat) (xb:Nat) (g0:LD H 22 (.ptr nb 0 1 1) (.g ls)) (y12 y14 y17 y20 y21 y22 y23 y31 y32 y60 y61 y72 y73 y74:HV:=Ud): RU F 65 1913852 B65 (e65 n ls bb ab w p nb pb u top y12 (.map kb) y14 (.q zb) (.q xb) y17 (.func 86 [] [.q zb,.q xb,.q pb]) y20 y21 y22 y23 y31 y32 y60 y61 y72 y73 y74) H .normal (e65 n ls bb ab w p nb pb u top y12 (.map kb) y14 (.q zb) (.q xb) y17 (.func 86 [] [.q zb,.q xb,.q pb]) y20 y21 y22 y23 y31 y32 y60 y61 (.g ls) (.i (ls.length:Int)) (.i 0)) H :=
 hx N 60 [jO 21 1 H g0]
theorem Qnv (u:Int) (top:Nat) (kb:Nat) (zb:Nat) (xb:Nat) (m k:Nat) (g0:(k:Int)<(m:Int)) (y12 y14 y15 y17 y20 y21 y22 y23 y31 y32 y60 y61:HV:=Ud): RunsTo Tp (plF F) 65 (sn 15310824 B65) (e65 n ls bb ab w p nb pb u top y12 (.map kb) y14 y15 (.q xb) y17 (.func 86 [] [.q zb,.q xb,.q pb]) y20 y21 y22 y23 y31 y32 y60 y61 (.g ls) (.n m) (.n k)) H .normal [0,1,2,3,4,5,9,10,11,12,13,14,15,16,17,18,20,21,22,23,25,26,31,32,60,61,72,73,74,75] [(0,.N n ls),(1,.q bb),(2,.q ab),(3,.i w),(4,.i p),(5,.q nb),(9,.q pb),(10,.i 0),(11,.i u),(12,y12),(13,.map kb),(14,y14),(15,y15),(16,.q xb),(17,y17),(18,.func 86 [] [.q zb,.q xb,.q pb]),(20,y20),(21,y21),(22,y22),(23,y23),(25,.i n),(26,.n top),(31,y31),(32,y32),(60,y60),(61,y61),(72,.g ls),(73,.n m),(74,.n k),(75,.bool true)] H :=
 hx N 60 [jT 22 0 H g0]
theorem Qnw (u:Int) (top:Nat) (kb:Nat) (zb:Nat) (xb:Nat) (m k:Nat) (g0:¬((k:Int)<(m:Int))) (y12 y14 y15 y17 y20 y21 y22 y23 y31 y32 y60 y61:HV:=Ud): RunsTo Tp (plF F) 65 (sn 15310824 B65) (e65 n ls bb ab w p nb pb u top y12 (.map kb) y14 y15 (.q xb) y17 (.func 86 [] [.q zb,.q xb,.q pb]) y20 y21 y22 y23 y31 y32 y60 y61 (.g ls) (.n m) (.n k)) H .normal [0,1,2,3,4,5,9,10,11,12,13,14,15,16,17,18,20,21,22,23,25,26,31,32,60,61,72,73,74,75] [(0,.N n ls),(1,.q bb),(2,.q ab),(3,.i w),(4,.i p),(5,.q nb),(9,.q pb),(10,.i 0),(11,.i u),(12,y12),(13,.map kb),(14,y14),(15,y15),(16,.q xb),(17,y17),(18,.func 86 [] [.q zb,.q xb,.q pb]),(20,y20),(21,y21),(22,y22),(23,y23),(25,.i n),(26,.n top),(31,y31),(32,y32),(60,y60),(61,y61),(72,.g ls),(73,.n m),(74,.n k),(75,.bool false)] H :=
 hx N 60 [jF 22 0 H g0]
theorem Qg4 (u:Int) (top:Nat) (kb:Nat) (zb:Nat) (xb:Nat) (m k:Nat) (y12 y14 y15 y17 y20 y21 y22 y23 y31 y32 y60 y61:HV:=Ud): RU F 65 30621650 B65 [(0,.N n ls),(1,.q bb),(2,.q ab),(3,.i w),(4,.i p),(5,.q nb),(9,.q pb),(10,.i 0),(11,.i u),(12,y12),(13,.map kb),(14,y14),(15,y15),(16,.q xb),(17,y17),(18,.func 86 [] [.q zb,.q xb,.q pb]),(20,y20),(21,y21),(22,y22),(23,y23),(25,.i n),(26,.n top),(31,y31),(32,y32),(60,y60),(61,y61),(72,.g ls),(73,.n m),(74,.n k),(75,.bool true)] H .normal (e65 n ls bb ab w p nb pb u top y12 (.map kb) y14 y15 (.q xb) y17 (.func 86 [] [.q zb,.q xb,.q pb]) y20 y21 y22 y23 y31 y32 y60 y61 (.g ls) (.n m) (.n k)) H :=
 hx N 60 []
theorem Qg5 (u:Int) (top:Nat) (kb:Nat) (zb:Nat) (xb:Nat) (m k:Nat) (y12 y14 y15 y17 y20 y21 y22 y23 y31 y32 y60 y61:HV:=Ud): RU F 65 30621650 B65 [(0,.N n ls),(1,.q bb),(2,.q ab),(3,.i w),(4,.i p),(5,.q nb),(9,.q pb),(10,.i 0),(11,.i u),(12,y12),(13,.map kb),(14,y14),(15,y15),(16,.q xb),(17,y17),(18,.func 86 [] [.q zb,.q xb,.q pb]),(20,y20),(21,y21),(22,y22),(23,y23),(25,.i n),(26,.n top),(31,y31),(32,y32),(60,y60),(61,y61),(72,.g ls),(73,.n m),(74,.n k),(75,.bool false)] H (.exit 6) (e65 n ls bb ab w p nb pb u top y12 (.map kb) y14 y15 (.q xb) y17 (.func 86 [] [.q zb,.q xb,.q pb]) y20 y21 y22 y23 y31 y32 y60 y61 (.g ls) (.n m) (.n k)) H :=
 hx N 60 []
theorem Qnx (u:Int) (top:Nat) (kb:Nat) (zb:Nat) (xb:Nat) (m k:Nat) (a2 b2 w2:Int) {a0:HV} {H0:Heap} {H1:Heap} {a1:HV} {e0:Int} {H2:Heap} {t0:Int} {a3:HV} {e1:Int} {H3:Heap} {t1:Int} {a4:HV} (g0:IX 22 (.g ls) (.n k) (.vptr (.agg [.i a2,.i b2,.i w2]))) (g1:some (Wt (.agg [.i 0,.i 0,.i 0]) H)=some (a0,H0)) (g2:ST H0 42 (a0) (.agg [.i a2,.i b2,.i w2]) H1) (g3:Qq Tp 42 a0 0=some (a1)) (g4:LD H1 3 (a1) (.i a2)) (g5:CN F N 55 [.q bb,.i a2] H1 (.i e0) H2) (g6:lkG Tp 117 H2 kb (.i e0) true=some (.tuple [.i t0,.bool true],H2)) (g7:Qq Tp 42 a0 1=some (a3)) (g8:LD H2 3 (a3) (.i b2)) (g9:CN F N 55 [.q bb,.i b2] H2 (.i e1) H3) (g10:lkG Tp 117 H3 kb (.i e1) false=some (.i t1,H3)) (g11:Qq Tp 42 a0 2=some (a4)) (g12:LD H3 3 (a4) (.i w2)) (g13:w2=w) (g14:t0=t1) (y12 y14 y15 y17 y20 y21 y22 y23 y31 y32 y60 y61:HV:=Ud): RU F 65 61243302 B65 (e65 n ls bb ab w p nb pb u top y12 (.map kb) y14 y15 (.q xb) y17 (.func 86 [] [.q zb,.q xb,.q pb]) y20 y21 y22 y23 y31 y32 y60 y61 (.g ls) (.n m) (.n k)) H .normal (e65 n ls bb ab w p nb pb u top y12 (.map kb) y14 y15 (.q xb) y17 (.func 86 [] [.q zb,.q xb,.q pb]) a0 (.i t0) (.bool true) (.i t1) y31 y32 y60 y61 (.g ls) (.n m) (.n k)) H3 :=
 hx N 60 [jO 23 0 H g0,jR 23 2 g1,jS 23 3 g2,jO 24 2 H1 g3,jO 24 3 H1 g4,jC 24 4 g5,jR 24 5 g6,jO 25 2 H2 g7,jO 25 3 H2 g8,jC 25 4 g9,jR 25 5 g10,jO 26 2 H3 g11,jO 26 3 H3 g12,jT 26 5 H3 g13,jB 26 10 H3 (congrArg not (decide_eq_true g14))]
theorem Qny (u:Int) (top:Nat) (kb:Nat) (zb:Nat) (xb:Nat) (m k:Nat) (a2 b2 w2:Int) {a0:HV} {H0:Heap} {H1:Heap} {a1:HV} {e0:Int} {H2:Heap} {t0:Int} {a3:HV} {e1:Int} {H3:Heap} {t1:Int} {a4:HV} {H4:Heap} {H5:Heap} {H6:Heap} {H7:Heap} (g0:IX 22 (.g ls) (.n k) (.vptr (.agg [.i a2,.i b2,.i w2]))) (g1:some (Wt (.agg [.i 0,.i 0,.i 0]) H)=some (a0,H0)) (g2:ST H0 42 (a0) (.agg [.i a2,.i b2,.i w2]) H1) (g3:Qq Tp 42 a0 0=some (a1)) (g4:LD H1 3 (a1) (.i a2)) (g5:CN F N 55 [.q bb,.i a2] H1 (.i e0) H2) (g6:lkG Tp 117 H2 kb (.i e0) true=some (.tuple [.i t0,.bool true],H2)) (g7:Qq Tp 42 a0 1=some (a3)) (g8:LD H2 3 (a3) (.i b2)) (g9:CN F N 55 [.q bb,.i b2] H2 (.i e1) H3) (g10:lkG Tp 117 H3 kb (.i e1) false=some (.i t1,H3)) (g11:Qq Tp 42 a0 2=some (a4)) (g12:LD H3 3 (a4) (.i w2)) (g13:w2=w) (g14:¬(t0=t1)) (g15:CN F N 86 [.i t0,.i t0,.i 1,.q zb,.q xb,.q pb] H3 (.tuple []) H4) (g16:CN F N 86 [.i t1,.i t1,.i 1,.q zb,.q xb,.q pb] H4 (.tuple []) H5) (g17:CN F N 86 [.i t0,.i t1,.i (-1),.q zb,.q xb,.q pb] H5 (.tuple []) H6) (g18:CN F N 86 [.i t1,.i t0,.i (-1),.q zb,.q xb,.q pb] H6 (.tuple []) H7) (y12 y14 y15 y17 y20 y21 y22 y23 y31 y32 y60 y61:HV:=Ud): RU F 65 61243302 B65 (e65 n ls bb ab w p nb pb u top y12 (.map kb) y14 y15 (.q xb) y17 (.func 86 [] [.q zb,.q xb,.q pb]) y20 y21 y22 y23 y31 y32 y60 y61 (.g ls) (.n m) (.n k)) H .normal (e65 n ls bb ab w p nb pb u top y12 (.map kb) y14 y15 (.q xb) y17 (.func 86 [] [.q zb,.q xb,.q pb]) a0 (.i t0) (.bool true) (.i t1) y31 y32 y60 y61 (.g ls) (.n m) (.n k)) H7 :=
 hx N 60 [jO 23 0 H g0,jR 23 2 g1,jS 23 3 g2,jO 24 2 H1 g3,jO 24 3 H1 g4,jC 24 4 g5,jR 24 5 g6,jO 25 2 H2 g7,jO 25 3 H2 g8,jC 25 4 g9,jR 25 5 g10,jO 26 2 H3 g11,jO 26 3 H3 g12,jT 26 5 H3 g13,jB 26 10 H3 (congrArg not (decide_eq_false g14)),jC 27 3 g15,jC 28 3 g16,jC 29 3 g17,jC 30 3 g18]
theorem Qnz (u:Int) (top:Nat) (kb:Nat) (zb:Nat) (xb:Nat) (m k:Nat) (a2 b2 w2:Int) {a0:HV} {H0:Heap} {H1:Heap} {a1:HV} {e0:Int} {H2:Heap} {t0:Int} {a3:HV} {e1:Int} {H3:Heap} {t1:Int} {a4:HV} (g0:IX 22 (.g ls) (.n k) (.vptr (.agg [.i a2,.i b2,.i w2]))) (g1:some (Wt (.agg [.i 0,.i 0,.i 0]) H)=some (a0,H0)) (g2:ST H0 42 (a0) (.agg [.i a2,.i b2,.i w2]) H1) (g3:Qq Tp 42 a0 0=some (a1)) (g4:LD H1 3 (a1) (.i a2)) (g5:CN F N 55 [.q bb,.i a2] H1 (.i e0) H2) (g6:lkG Tp 117 H2 kb (.i e0) true=some (.tuple [.i t0,.bool true],H2)) (g7:Qq Tp 42 a0 1=some (a3)) (g8:LD H2 3 (a3) (.i b2)) (g9:CN F N 55 [.q bb,.i b2] H2 (.i e1) H3) (g10:lkG Tp 117 H3 kb (.i e1) false=some (.i t1,H3)) (g11:Qq Tp 42 a0 2=some (a4)) (g12:LD H3 3 (a4) (.i w2)) (g13:¬(w2=w)) (y12 y14 y15 y17 y20 y21 y22 y23 y31 y32 y60 y61:HV:=Ud): RU F 65 61243302 B65 (e65 n ls bb ab w p nb pb u top y12 (.map kb) y14 y15 (.q xb) y17 (.func 86 [] [.q zb,.q xb,.q pb]) y20 y21 y22 y23 y31 y32 y60 y61 (.g ls) (.n m) (.n k)) H .normal (e65 n ls bb ab w p nb pb u top y12 (.map kb) y14 y15 (.q xb) y17 (.func 86 [] [.q zb,.q xb,.q pb]) a0 (.i t0) (.bool true) (.i t1) y31 y32 y60 y61 (.g ls) (.n m) (.n k)) H3 :=
 hx N 60 [jO 23 0 H g0,jR 23 2 g1,jS 23 3 g2,jO 24 2 H1 g3,jO 24 3 H1 g4,jC 24 4 g5,jR 24 5 g6,jO 25 2 H2 g7,jO 25 3 H2 g8,jC 25 4 g9,jR 25 5 g10,jO 26 2 H3 g11,jO 26 3 H3 g12,jF 26 5 H3 g13]
theorem QnA (u:Int) (top:Nat) (kb:Nat) (zb:Nat) (xb:Nat) (m k:Nat) (a2 b2 w2:Int) {a0:HV} {H0:Heap} {H1:Heap} {a1:HV} {e0:Int} {H2:Heap} {a3:HV} {e1:Int} {H3:Heap} {t0:Int} (g0:IX 22 (.g ls) (.n k) (.vptr (.agg [.i a2,.i b2,.i w2]))) (g1:some (Wt (.agg [.i 0,.i 0,.i 0]) H)=some (a0,H0)) (g2:ST H0 42 (a0) (.agg [.i a2,.i b2,.i w2]) H1) (g3:Qq Tp 42 a0 0=some (a1)) (g4:LD H1 3 (a1) (.i a2)) (g5:CN F N 55 [.q bb,.i a2] H1 (.i e0) H2) (g6:lkG Tp 117 H2 kb (.i e0) true=some (.tuple [.i 0,.bool false],H2)) (g7:Qq Tp 42 a0 1=some (a3)) (g8:LD H2 3 (a3) (.i b2)) (g9:CN F N 55 [.q bb,.i b2] H2 (.i e1) H3) (g10:lkG Tp 117 H3 kb (.i e1) false=some (.i t0,H3)) (y12 y14 y15 y17 y20 y21 y22 y23 y31 y32 y60 y61:HV:=Ud): RU F 65 61243302 B65 (e65 n ls bb ab w p nb pb u top y12 (.map kb) y14 y15 (.q xb) y17 (.func 86 [] [.q zb,.q xb,.q pb]) y20 y21 y22 y23 y31 y32 y60 y61 (.g ls) (.n m) (.n k)) H .normal (e65 n ls bb ab w p nb pb u top y12 (.map kb) y14 y15 (.q xb) y17 (.func 86 [] [.q zb,.q xb,.q pb]) a0 (.i 0) (.bool false) (.i t0) y31 y32 y60 y61 (.g ls) (.n m) (.n k)) H3 :=
 hx N 60 [jO 23 0 H g0,jR 23 2 g1,jS 23 3 g2,jO 24 2 H1 g3,jO 24 3 H1 g4,jC 24 4 g5,jR 24 5 g6,jO 25 2 H2 g7,jO 25 3 H2 g8,jC 25 4 g9,jR 25 5 g10]
theorem QnB (u:Int) (top:Nat) (kb:Nat) (zb:Nat) (xb:Nat) (m k:Nat) (y12 y14 y15 y17 y20 y21 y22 y23 y31 y32 y60 y61:HV:=Ud): RU F 65 61243303 B65 (e65 n ls bb ab w p nb pb u top y12 (.map kb) y14 y15 (.q xb) y17 (.func 86 [] [.q zb,.q xb,.q pb]) y20 y21 y22 y23 y31 y32 y60 y61 (.g ls) (.n m) (.n k)) H .normal (e65 n ls bb ab w p nb pb u top y12 (.map kb) y14 y15 (.q xb) y17 (.func 86 [] [.q zb,.q xb,.q pb]) y20 y21 y22 y23 y31 y32 y60 y61 (.g ls) (.n m) (.i (qA.wrap ((k:Int)+1)))) H :=
 hx N 60 []
theorem QnC (u:Int) (top:Nat) (kb:Nat) (zb:Nat) (xb:Nat) (mb q:Nat) {e0:Int} {H0:Heap} (g0:LD H 57 (.q xb) (.o mb q)) (g1:LD H 3 (.q pb) (.i p)) (g2:CN F N 87 [.o mb q,.i p] H (.i e0) H0) (g3:LD H0 3 (.q pb) (.i p)) (g4:BV .rem 3 (.i (qA.wrap (u*e0))) (.i p) (.i ((qA.wrap (u*e0):Int).tmod p))) (gS32:(YT ((QK Tp H0 3 (.q pb)).map (fun v=>(v,(H0:Heap)))) ((QK Tp H 3 (.q pb)).map (fun v=>(v,(H:Heap)))) H0 H&&true)=true) (y12 y14 y15 y17 y20 y21 y22 y23 y31 y32 y60 y61 y72 y73 y74:HV:=Ud): RU F 65 956927 B65 (e65 n ls bb ab w p nb pb u top y12 (.map kb) y14 y15 (.q xb) y17 (.func 86 [] [.q zb,.q xb,.q pb]) y20 y21 y22 y23 y31 y32 y60 y61 y72 y73 y74) H .normal (QW (.N n ls) (.q bb) (.q ab) (.i w) (.i p) (.q nb) (.q pb) (.i 0) (.i ((qA.wrap (u*e0):Int).tmod p)) y12 (.map kb) y14 y15 (.q xb) y17 (.func 86 [] [.q zb,.q xb,.q pb]) y20 y21 y22 y23 (.i n) (.n top) y31 y32 y60 y61 y72 y73 y74) H0 :=
 hx N 60 [jK gS32,jO 32 1 H g0,jO 32 2 H g1,jC 32 3 g2,jO 32 5 H0 g3,jO 32 6 H0 g4]
theorem QeY (u:Int) (top:Nat) (y12 y13 y14 y15 y16 y17 y18 y20 y21 y22 y23 y31 y32 y60 y61 y72 y73 y74:HV:=Ud): RU F 65 935 B65 (e65 n ls bb ab w p nb pb u top y12 y13 y14 y15 y16 y17 y18 y20 y21 y22 y23 y31 y32 y60 y61 y72 y73 y74) H .normal (QW (.N n ls) (.q bb) (.q ab) (.i w) (.i p) (.q nb) (.q pb) (.i 0) (.i u) y12 y13 y14 y15 y16 y17 y18 y20 y21 y22 y23 (.i n) (.i (qA.wrap ((top:Int)+1))) y31 y32 y60 y61 y72 y73 y74) H :=
 hx N 60 []
theorem QnD (u:Int) (y12 y13 y14 y15 y16 y17 y18 y20 y21 y22 y23 y25 y26 y31 y32 y60 y61 y72 y73 y74:HV:=Ud): RU F 65 15 B65 (QW (.N n ls) (.q bb) (.q ab) (.i w) (.i p) (.q nb) (.q pb) (.i 0) (.i u) y12 y13 y14 y15 y16 y17 y18 y20 y21 y22 y23 y25 y26 y31 y32 y60 y61 y72 y73 y74) H .ret (QW (.N n ls) (.q bb) (.q ab) (.i w) (.i p) (.q nb) (.q pb) (.i u) (.i u) y12 y13 y14 y15 y16 y17 y18 y20 y21 y22 y23 y25 y26 y31 y32 y60 y61 y72 y73 y74) H :=
 hx N 60 []
end
section
variable {F:FuncId→Option (List HV→Option HV)}
noncomputable def B87:Code:=Try.f87.body.getD .skip
abbrev QZ (v0 v1 v4 v5 v6 v7 v8 v9 v10 v11 v13 v14:HV):Env:=[(0,v0),(1,v1),(4,v4),(5,v5),(6,v6),(7,v7),(8,v8),(9,v9),(10,v10),(11,v11),(13,v13),(14,v14)]
end
abbrev e87 (mb:Nat) (q:Nat) (p:Int) (u:Int) (c:Nat) (u5 u6 u7 u8 u9:HV):Env:=QZ (.o mb q) (.i p) (.i 0) (.i u) (.n c) u5 u6 u7 u8 u9 (.n q) (.n c)
section
variable {F:FuncId→Option (List HV→Option HV)}
variable (N:Nat) (mb q:Nat) (p:Int) (H:Heap)
include N mb q p H
theorem QnE:RU F 87 2 B87 [(0,.o mb q),(1,.i p)] H .normal (QZ (.o mb q) (.i p) (.i 0) Ud Ud Ud Ud Ud Ud Ud Ud Ud) H :=
 hx N 60 []
end
section
variable {F:FuncId→Option (List HV→Option HV)}
variable (N:Nat) (mb q:Nat) (p:Int) (H:Heap)
include N mb q p H
theorem QnF (y5 y6 y7 y8 y9 y10 y11 y13 y14:HV:=Ud): RU F 87 6 B87 (QZ (.o mb q) (.i p) (.i 0) y5 y6 y7 y8 y9 y10 y11 y13 y14) H .normal (QZ (.o mb q) (.i p) (.i 0) (.i 1) y6 y7 y8 y9 y10 y11 y13 y14) H :=
 hx N 60 []
theorem QnG (u:Int) (y6 y7 y8 y9 y10 y11 y13 y14:HV:=Ud): RU F 87 28 B87 (QZ (.o mb q) (.i p) (.i 0) (.i u) y6 y7 y8 y9 y10 y11 y13 y14) H .normal (QZ (.o mb q) (.i p) (.i 0) (.i u) y6 y7 y8 y9 y10 y11 (.n q) (.i 0)) H :=
 hx N 60 []
theorem QnH (c:Nat) (u:Int) (g0:(c:Int)<(q:Int)) (y6 y7 y8 y9 y10 y11:HV:=Ud): RunsTo Tp (plF F) 87 (sn 232 B87) (QZ (.o mb q) (.i p) (.i 0) (.i u) y6 y7 y8 y9 y10 y11 (.n q) (.n c)) H .normal [0,1,4,5,6,7,8,9,10,11,13,14,15] [(0,.o mb q),(1,.i p),(4,.i 0),(5,.i u),(6,y6),(7,y7),(8,y8),(9,y9),(10,y10),(11,y11),(13,.n q),(14,.n c),(15,.bool true)] H :=
 hx N 60 [jT 3 0 H g0]
theorem QnI (c:Nat) (u:Int) (g0:¬((c:Int)<(q:Int))) (y6 y7 y8 y9 y10 y11:HV:=Ud): RunsTo Tp (plF F) 87 (sn 232 B87) (QZ (.o mb q) (.i p) (.i 0) (.i u) y6 y7 y8 y9 y10 y11 (.n q) (.n c)) H .normal [0,1,4,5,6,7,8,9,10,11,13,14,15] [(0,.o mb q),(1,.i p),(4,.i 0),(5,.i u),(6,y6),(7,y7),(8,y8),(9,y9),(10,y10),(11,y11),(13,.n q),(14,.n c),(15,.bool false)] H :=
 hx N 60 [jF 3 0 H g0]
theorem Qg6 (c:Nat) (u:Int) (y6 y7 y8 y9 y10 y11:HV:=Ud): RU F 87 466 B87 [(0,.o mb q),(1,.i p),(4,.i 0),(5,.i u),(6,y6),(7,y7),(8,y8),(9,y9),(10,y10),(11,y11),(13,.n q),(14,.n c),(15,.bool true)] H .normal (QZ (.o mb q) (.i p) (.i 0) (.i u) y6 y7 y8 y9 y10 y11 (.n q) (.n c)) H :=
 hx N 60 []
theorem Qg7 (c:Nat) (u:Int) (y6 y7 y8 y9 y10 y11:HV:=Ud): RU F 87 466 B87 [(0,.o mb q),(1,.i p),(4,.i 0),(5,.i u),(6,y6),(7,y7),(8,y8),(9,y9),(10,y10),(11,y11),(13,.n q),(14,.n c),(15,.bool false)] H (.exit 0) (QZ (.o mb q) (.i p) (.i 0) (.i u) y6 y7 y8 y9 y10 y11 (.n q) (.n c)) H :=
 hx N 60 []
theorem QnJ (c:Nat) (u:Int) (y6 y7 y8 y9 y10 y11:HV:=Ud): RU F 87 3736 B87 (QZ (.o mb q) (.i p) (.i 0) (.i u) y6 y7 y8 y9 y10 y11 (.n q) (.n c)) H .normal (e87 mb q p u c y7 y8 y9 y10 y11) H :=
 hx N 60 []
theorem QnK (c:Nat) (u:Int) (y7 y8 y9 y10 y11:HV:=Ud): RU F 87 7474 B87 (e87 mb q p u c y7 y8 y9 y10 y11) H .normal (e87 mb q p u c (.n c) y8 y9 y10 y11) H :=
 hx N 60 []
theorem QnL (c r:Nat) (u:Int) (rb:Nat) (x:Int) (g0:(r:Int)<(q:Int)) (g1:IO 57 mb q r) (g2:LD H 24 (.ptr mb r 0 q) (.o rb q)) (g3:IO 24 rb q c) (g4:LD H 3 (.ptr rb c 0 q) (.i x)) (g5:x=0) (y8 y9 y10 y11:HV:=Ud): RU F 87 59800 B87 (e87 mb q p u c (.n r) y8 y9 y10 y11) H .normal (e87 mb q p u c (.i (qA.wrap ((r:Int)+1))) y8 y9 y10 y11) H :=
 hx N 60 [jT 6 3 H g0,jO 6 7 H g1,jO 6 8 H g2,jO 6 10 H g3,jO 6 11 H g4,jT 6 12 H g5]
theorem QnM (c r:Nat) (u:Int) (rb:Nat) (x:Int) (g0:(r:Int)<(q:Int)) (g1:IO 57 mb q r) (g2:LD H 24 (.ptr mb r 0 q) (.o rb q)) (g3:IO 24 rb q c) (g4:LD H 3 (.ptr rb c 0 q) (.i x)) (g5:¬(x=0)) (y8 y9 y10 y11:HV:=Ud): RU F 87 59800 B87 (e87 mb q p u c (.n r) y8 y9 y10 y11) H (.exit 2) (e87 mb q p u c (.n r) y8 y9 y10 y11) H :=
 hx N 60 [jT 6 3 H g0,jO 6 7 H g1,jO 6 8 H g2,jO 6 10 H g3,jO 6 11 H g4,jF 6 12 H g5]
theorem QnN (c r:Nat) (u:Int) (rb:Nat) (x:Int) (g0:¬((r:Int)<(q:Int))) (y8 y9 y10 y11:HV:=Ud): RU F 87 59800 B87 (e87 mb q p u c (.n r) y8 y9 y10 y11) H (.exit 2) (e87 mb q p u c (.n r) y8 y9 y10 y11) H :=
 hx N 60 [jF 6 3 H g0]
theorem QnO (c r:Nat) (u:Int) (g0:(r:Int)=(q:Int)) (y8 y9 y10 y11:HV:=Ud): RU F 87 29902 B87 (e87 mb q p u c (.n r) y8 y9 y10 y11) H .ret (e87 mb q p u c (.n r) y8 y9 y10 y11) H :=
 hx N 60 [jT 8 3 H g0]
theorem QnP (c r:Nat) (u:Int) (g0:¬((r:Int)=(q:Int))) (y8 y9 y10 y11:HV:=Ud): RU F 87 29902 B87 (e87 mb q p u c (.n r) y8 y9 y10 y11) H .normal (e87 mb q p u c (.n r) y8 y9 y10 y11) H :=
 hx N 60 [jF 8 3 H g0]
theorem QnQ (c r:Nat) (u:Int) (ra rb:Nat) (g0:(r:Int)=(c:Int)) (y8 y9 y10 y11:HV:=Ud): RU F 87 59806 B87 (e87 mb q p u c (.n r) y8 y9 y10 y11) H .normal (e87 mb q p u c (.n r) y8 y9 y10 y11) H :=
 hx N 60 [jB 10 2 H (congrArg not (decide_eq_true g0))]
theorem QnR (c r:Nat) (u:Int) (ra rb:Nat) {H0:Heap} {H1:Heap} (g0:¬((r:Int)=(c:Int))) (g1:IO 57 mb q c) (g2:LD H 24 (.ptr mb c 0 q) (.o rb q)) (g3:IO 57 mb q r) (g4:LD H 24 (.ptr mb r 0 q) (.o ra q)) (g5:IO 57 mb q r) (g6:ST H 24 (.ptr mb r 0 q) (.o rb q) H0) (g7:IO 57 mb q c) (g8:ST H0 24 (.ptr mb c 0 q) (.o ra q) H1) (y8 y9 y10 y11:HV:=Ud): RU F 87 59806 B87 (e87 mb q p u c (.n r) y8 y9 y10 y11) H .normal (QZ (.o mb q) (.i p) (.i 0) (.i (qA.wrap (p-u))) (.n c) (.n r) y8 y9 y10 y11 (.n q) (.n c)) H1 :=
 hx N 60 [jB 10 2 H (congrArg not (decide_eq_false g0)),jO 11 6 H g1,jO 11 7 H g2,jO 11 10 H g3,jO 11 11 H g4,jO 11 12 H g5,jS 11 13 g6,jO 11 14 H0 g7,jS 11 15 g8]
theorem QnS (c r:Nat) (u:Int) (rb:Nat) (x:Int) (g0:IO 57 mb q c) (g1:LD H 24 (.ptr mb c 0 q) (.o rb q)) (g2:IO 24 rb q c) (g3:LD H 3 (.ptr rb c 0 q) (.i x)) (g4:BV .rem 3 (.i (qA.wrap (u*x))) (.i p) (.i ((qA.wrap (u*x):Int).tmod p))) (y8 y9 y10 y11:HV:=Ud): RU F 87 119614 B87 (e87 mb q p u c (.n r) y8 y9 y10 y11) H .normal (QZ (.o mb q) (.i p) (.i 0) (.i ((qA.wrap (u*x):Int).tmod p)) (.n c) (.n r) y8 y9 y10 y11 (.n q) (.n c)) H :=
 hx N 60 [jO 13 3 H g0,jO 13 4 H g1,jO 13 6 H g2,jO 13 7 H g3,jO 13 10 H g4]
theorem QnT (c r:Nat) (u:Int) (rb:Nat) (x v:Int) {H0:Heap} (g0:IO 57 mb q c) (g1:LD H 24 (.ptr mb c 0 q) (.o rb q)) (g2:IO 24 rb q c) (g3:LD H 3 (.ptr rb c 0 q) (.i x)) (g4:CM F 45 [.i x,.i (qA.wrap (p-2)),.i p] H (.i v) H0) (y8 y9 y10 y11:HV:=Ud): RU F 87 239230 B87 (e87 mb q p u c (.n r) y8 y9 y10 y11) H .normal (e87 mb q p u c (.n r) (.i v) y9 y10 y11) H0 :=
 hx N 60 [jO 14 2 H g0,jO 14 3 H g1,jO 14 5 H g2,jO 14 6 H g3,jD 14 10 g4]
theorem QnU (c r:Nat) (u:Int) (v:Int) (y9 y10 y11:HV:=Ud): RU F 87 478462 B87 (e87 mb q p u c (.n r) (.i v) y9 y10 y11) H .normal (e87 mb q p u c (.n r) (.i v) (.i (qA.wrap ((c:Int)+1))) y10 y11) H :=
 hx N 60 []
theorem QnV (c:Nat) (u:Int) (v:Int) (i:Nat) (g0:(i:Int)<(q:Int)) (y7 y10 y11:HV:=Ud): RU F 87 3827704 B87 (e87 mb q p u c y7 (.i v) (.n i) y10 y11) H .normal (e87 mb q p u c y7 (.i v) (.n i) y10 y11) H :=
 hx N 60 [jT 16 3 H g0]
theorem QnW (c:Nat) (u:Int) (v:Int) (i:Nat) (g0:¬((i:Int)<(q:Int))) (y7 y10 y11:HV:=Ud): RU F 87 3827704 B87 (e87 mb q p u c y7 (.i v) (.n i) y10 y11) H (.exit 4) (e87 mb q p u c y7 (.i v) (.n i) y10 y11) H :=
 hx N 60 [jF 16 3 H g0]
theorem QnX (c:Nat) (u:Int) (v:Int) (i ra:Nat) (y:Int) (g0:IO 57 mb q i) (g1:LD H 24 (.ptr mb i 0 q) (.o ra q)) (g2:IO 24 ra q c) (g3:LD H 3 (.ptr ra c 0 q) (.i y)) (g4:BV .rem 3 (.i (qA.wrap (y*v))) (.i p) (.i ((qA.wrap (y*v):Int).tmod p))) (y7 y10 y11:HV:=Ud): RU F 87 30621640 B87 (e87 mb q p u c y7 (.i v) (.n i) y10 y11) H .normal (e87 mb q p u c y7 (.i v) (.n i) (.i ((qA.wrap (y*v):Int).tmod p)) y11) H :=
 hx N 60 [jO 18 2 H g0,jO 18 3 H g1,jO 18 5 H g2,jO 18 6 H g3,jO 18 10 H g4]
theorem QnY (c:Nat) (u:Int) (v:Int) (i:Nat) (f:Int) (y7 y11:HV:=Ud): RU F 87 61243282 B87 (e87 mb q p u c y7 (.i v) (.n i) (.i f) y11) H .normal (e87 mb q p u c y7 (.i v) (.n i) (.i f) (.n c)) H :=
 hx N 60 []
theorem QnZ (c:Nat) (u:Int) (v:Int) (i:Nat) (f:Int) (j ra rb:Nat) (x y:Int) {H0:Heap} (g0:(j:Int)<(q:Int)) (g1:IO 57 mb q i) (g2:LD H 24 (.ptr mb i 0 q) (.o ra q)) (g3:IO 57 mb q i) (g4:LD H 24 (.ptr mb i 0 q) (.o ra q)) (g5:IO 24 ra q j) (g6:LD H 3 (.ptr ra j 0 q) (.i y)) (g7:IO 57 mb q c) (g8:LD H 24 (.ptr mb c 0 q) (.o rb q)) (g9:IO 24 rb q j) (g10:LD H 3 (.ptr rb j 0 q) (.i x)) (g11:BV .rem 3 (.i (qA.wrap (y+qA.wrap (qA.wrap (p-f)*x)))) (.i p) (.i ((qA.wrap (y+qA.wrap (qA.wrap (p-f)*x)):Int).tmod p))) (g12:IO 24 ra q j) (g13:ST H 3 (.ptr ra j 0 q) (.i ((qA.wrap (y+qA.wrap (qA.wrap (p-f)*x)):Int).tmod p)) H0) (y7:HV:=Ud): RU F 87 244973132 B87 (e87 mb q p u c y7 (.i v) (.n i) (.i f) (.n j)) H .normal (e87 mb q p u c y7 (.i v) (.n i) (.i f) (.i (qA.wrap ((j:Int)+1)))) H0 :=
 hx N 60 [jT 20 3 H g0,jO 22 2 H g1,jO 22 3 H g2,jO 22 7 H g3,jO 22 8 H g4,jO 22 10 H g5,jO 22 11 H g6,jO 22 17 H g7,jO 22 18 H g8,jO 22 20 H g9,jO 22 21 H g10,jO 22 25 H g11,jO 22 26 H g12,jS 22 27 g13]
theorem Qn0 (c:Nat) (u:Int) (v:Int) (i:Nat) (f:Int) (j ra rb:Nat) (x y:Int) (g0:¬((j:Int)<(q:Int))) (y7:HV:=Ud): RU F 87 244973132 B87 (e87 mb q p u c y7 (.i v) (.n i) (.i f) (.n j)) H (.exit 6) (e87 mb q p u c y7 (.i v) (.n i) (.i f) (.n j)) H :=
 hx N 60 [jF 20 3 H g0]
theorem Qn1 (c:Nat) (u:Int) (v:Int) (i:Nat) (y7 y10 y11:HV:=Ud): RU F 87 7655411 B87 (e87 mb q p u c y7 (.i v) (.n i) y10 y11) H .normal (e87 mb q p u c y7 (.i v) (.i (qA.wrap ((i:Int)+1))) y10 y11) H :=
 hx N 60 []
theorem Qn2 (c:Nat) (u:Int) (y6 y7 y8 y9 y10 y11:HV:=Ud): RU F 87 935 B87 (QZ (.o mb q) (.i p) (.i 0) (.i u) y6 y7 y8 y9 y10 y11 (.n q) (.n c)) H .normal (QZ (.o mb q) (.i p) (.i 0) (.i u) y6 y7 y8 y9 y10 y11 (.n q) (.i (qA.wrap ((c:Int)+1)))) H :=
 hx N 60 []
theorem Qn3 (u:Int) (y6 y7 y8 y9 y10 y11 y13 y14:HV:=Ud): RU F 87 15 B87 (QZ (.o mb q) (.i p) (.i 0) (.i u) y6 y7 y8 y9 y10 y11 y13 y14) H .ret (QZ (.o mb q) (.i p) (.i u) (.i u) y6 y7 y8 y9 y10 y11 y13 y14) H :=
 hx N 60 []
end
section
variable {F:FuncId→Option (List HV→Option HV)}
noncomputable def B45:Code:=Try.f45.body.getD .skip
abbrev Gx (v0 v1 v2 v6 v7:HV):Env:=[(0,v0),(1,v1),(2,v2),(6,v6),(7,v7)]
end
abbrev e45 (a:Int) (n:Int) (p:Int) (u4:HV):Env:=Gx (.i a) (.i n) (.i p) (.i 0) u4
section
variable {F:FuncId→Option (List HV→Option HV)}
variable (a n p:Int) (H:Heap)
include a n p H
theorem Qn4:RU F 45 2 B45 [(0,.i a),(1,.i n),(2,.i p)] H .normal (e45 a n p Ud) H :=
 hx 0 60 []
end
section
variable {F:FuncId→Option (List HV→Option HV)}
variable (a n p:Int) (H:Heap)
include a n p H
theorem Qn5 (y7:HV:=Ud): RU F 45 6 B45 (e45 a n p y7) H .normal (e45 a n p (.i 1)) H :=
 hx 0 60 []
theorem Qn6 (u:Int) (g0:0<n) (g1:(n:Int).tmod 2=1) (g2:BV .rem 3 (.i (qA.wrap (u*a))) (.i p) (.i ((qA.wrap (u*a):Int).tmod p))) (g3:BV .rem 3 (.i (qA.wrap (a*a))) (.i p) (.i ((qA.wrap (a*a):Int).tmod p))): RU F 45 56 B45 (e45 a n p (.i u)) H .normal (Gx (.i ((qA.wrap (a*a):Int).tmod p)) (.i (qA.wrap ((n:Int).tdiv 2))) (.i p) (.i 0) (.i ((qA.wrap (u*a):Int).tmod p))) H :=
 hx 0 60 [jT 2 1 H g0,jT 4 2 H g1,jO 5 4 H g2,jO 6 4 H g3]
theorem Qn7 (u:Int) (g0:0<n) (g1:¬((n:Int).tmod 2=1)) (g2:BV .rem 3 (.i (qA.wrap (a*a))) (.i p) (.i ((qA.wrap (a*a):Int).tmod p))): RU F 45 56 B45 (e45 a n p (.i u)) H .normal (Gx (.i ((qA.wrap (a*a):Int).tmod p)) (.i (qA.wrap ((n:Int).tdiv 2))) (.i p) (.i 0) (.i u)) H :=
 hx 0 60 [jT 2 1 H g0,jF 4 2 H g1,jO 6 4 H g2]
theorem QeZ (u:Int) (g0:¬(0<n)): RU F 45 56 B45 (e45 a n p (.i u)) H (.exit 0) (e45 a n p (.i u)) H :=
 hx 0 60 [jF 2 1 H g0]
theorem Qn8 (u:Int): RU F 45 15 B45 (e45 a n p (.i u)) H .ret (Gx (.i a) (.i n) (.i p) (.i u) (.i u)) H :=
 hx 0 60 []
end
section
variable {F:FuncId→Option (List HV→Option HV)}
noncomputable def B67:Code:=Try.f67.body.getD .skip
abbrev Gy (v0 v1 v2 v6 v7:HV):Env:=[(0,v0),(1,v1),(2,v2),(6,v6),(7,v7)]
end
abbrev e67 (a:Int) (n:Int) (p:Int) (u4:HV):Env:=Gy (.i a) (.i n) (.i p) (.i 0) u4
section
variable {F:FuncId→Option (List HV→Option HV)}
variable (a n p:Int) (H:Heap)
include a n p H
theorem Qn9:RU F 67 2 B67 [(0,.i a),(1,.i n),(2,.i p)] H .normal (e67 a n p Ud) H :=
 hx 0 60 []
end
section
variable {F:FuncId→Option (List HV→Option HV)}
variable (a n p:Int) (H:Heap)
include a n p H
theorem Qoa (y7:HV:=Ud): RU F 67 6 B67 (e67 a n p y7) H .normal (e67 a n p (.i 1)) H :=
 hx 0 60 []
theorem Qob (u:Int) (g0:0<n) (g1:(n:Int).tmod 2=1) (g2:BV .rem 3 (.i (qA.wrap (u*a))) (.i p) (.i ((qA.wrap (u*a):Int).tmod p))) (g3:BV .rem 3 (.i (qA.wrap (a*a))) (.i p) (.i ((qA.wrap (a*a):Int).tmod p))): RU F 67 56 B67 (e67 a n p (.i u)) H .normal (Gy (.i ((qA.wrap (a*a):Int).tmod p)) (.i (qA.wrap ((n:Int).tdiv 2))) (.i p) (.i 0) (.i ((qA.wrap (u*a):Int).tmod p))) H :=
 hx 0 60 [jT 2 1 H g0,jT 4 2 H g1,jO 5 4 H g2,jO 6 4 H g3]
theorem Qoc (u:Int) (g0:0<n) (g1:¬((n:Int).tmod 2=1)) (g2:BV .rem 3 (.i (qA.wrap (a*a))) (.i p) (.i ((qA.wrap (a*a):Int).tmod p))): RU F 67 56 B67 (e67 a n p (.i u)) H .normal (Gy (.i ((qA.wrap (a*a):Int).tmod p)) (.i (qA.wrap ((n:Int).tdiv 2))) (.i p) (.i 0) (.i u)) H :=
 hx 0 60 [jT 2 1 H g0,jF 4 2 H g1,jO 6 4 H g2]
theorem Qe0 (u:Int) (g0:¬(0<n)): RU F 67 56 B67 (e67 a n p (.i u)) H (.exit 0) (e67 a n p (.i u)) H :=
 hx 0 60 [jF 2 1 H g0]
theorem Qod (u:Int): RU F 67 15 B67 (e67 a n p (.i u)) H .ret (Gy (.i a) (.i n) (.i p) (.i u) (.i u)) H :=
 hx 0 60 []
end
section
variable {F:FuncId→Option (List HV→Option HV)}
noncomputable def B14:Code:=Try.f14.body.getD .skip
abbrev Qb4 (v0 v1 v4 v5 v6 v7 v8 v9:HV):Env:=[(0,v0),(1,v1),(4,v4),(5,v5),(6,v6),(7,v7),(8,v8),(9,v9)]
end
abbrev e14 (n:Int) (ls:List HV) (u5 u6 u7:HV):Env:=Qb4 (.i n) (.g ls) (.imm .lit 1 []) (.i 0) (.i 0) u5 u6 u7
section
variable {F:FuncId→Option (List HV→Option HV)}
variable (N:Nat) (n:Int) (ls:List HV)
include N n ls
theorem Qoe:RU F 14 2 B14 [(0,.i n),(1,.g ls)] [] .normal (e14 n ls Ud Ud Ud) [] :=
 hx N 60 []
end
section
variable {F:FuncId→Option (List HV→Option HV)}
variable (N:Nat) (n:Int) (ls:List HV)
include N n ls
theorem Qof {H0:Heap} {a0:HV} {H1:Heap} {H2:Heap} (g0:CN F N 39 [.i n,.g ls] [] (.tuple [.N n ls,.bool true]) H0) (g1:some (Wt (.agg [.i 0,.imm .lit 0 []]) H0)=some (a0,H1)) (g2:ST H1 66 (a0) (.N n ls) H2) (y7 y8 y9:HV:=Ud): RU F 14 6 B14 (e14 n ls y7 y8 y9) [] .normal (e14 n ls a0 (.bool true) y9) H2 :=
 hx N 60 [jC 1 2 g0,jR 1 6 g1,jS 1 7 g2]
theorem Qog {H0:Heap} {a0:HV} {H1:Heap} {H2:Heap} (g0:CN F N 39 [.i n,.g ls] [] (.tuple [.N n ls,.bool false]) H0) (g1:some (Wt (.agg [.i 0,.imm .lit 0 []]) H0)=some (a0,H1)) (g2:ST H1 66 (a0) (.N n ls) H2) (y7 y8 y9:HV:=Ud): RU F 14 6 B14 (e14 n ls y7 y8 y9) [] .normal (e14 n ls a0 (.bool false) y9) H2 :=
 hx N 60 [jC 1 2 g0,jR 1 6 g1,jS 1 7 g2]
theorem Qg8 (H:Heap) (y9:HV:=Ud): RU F 14 14 B14 (e14 n ls (.q 0) (.bool true) y9) H .normal (e14 n ls (.q 0) (.bool true) y9) H :=
 hx N 60 []
theorem Qg9 (H:Heap) (y9:HV:=Ud): RU F 14 14 B14 (e14 n ls (.q 0) (.bool false) y9) H .ret (Qb4 (.i n) (.g ls) (.imm .lit 1 []) (.i 0) (.i 2) (.q 0) (.bool false) y9) H :=
 hx N 60 []
theorem Qoh (H:Heap) (tb m:Nat) {H0:Heap} (g0:LD H 66 (.q 0) (.N n ls)) (g1:CM F 40 [.N n ls] H (.tuple [.s tb m,.bool true]) H0) (y9:HV:=Ud): RU F 14 30 B14 (e14 n ls (.q 0) (.bool true) y9) H .normal (e14 n ls (.q 0) (.bool true) (.s tb m)) H0 :=
 hx N 60 [jO 4 0 H g0,jD 4 1 g1]
theorem Qoi (H:Heap) (tb m:Nat) {H0:Heap} (g0:LD H 66 (.q 0) (.N n ls)) (g1:CM F 40 [.N n ls] H (.tuple [.s tb m,.bool false]) H0) (y9:HV:=Ud): RU F 14 30 B14 (e14 n ls (.q 0) (.bool true) y9) H .normal (e14 n ls (.q 0) (.bool false) (.s tb m)) H0 :=
 hx N 60 [jO 4 0 H g0,jD 4 1 g1]
theorem Qha (H:Heap) (tb m:Nat): RU F 14 62 B14 (e14 n ls (.q 0) (.bool true) (.s tb m)) H .normal (e14 n ls (.q 0) (.bool true) (.s tb m)) H :=
 hx N 60 []
theorem Qhb (H:Heap) (tb m:Nat): RU F 14 62 B14 (e14 n ls (.q 0) (.bool false) (.s tb m)) H .ret (Qb4 (.i n) (.g ls) (.imm .lit 1 []) (.i 0) (.i 6) (.q 0) (.bool false) (.s tb m)) H :=
 hx N 60 []
theorem Qoj (H:Heap) (tb m:Nat) (w:Int) {H0:Heap} {H1:Heap} (g0:CN F N 41 [.s tb m] H (.tuple []) H0) (g1:LD H0 66 (.q 0) (.N n ls)) (g2:CM F 42 [.N n ls,.s tb m] H0 (.i w) H1): RU F 14 63 B14 (e14 n ls (.q 0) (.bool true) (.s tb m)) H .ret (Qb4 (.i n) (.g ls) (.s tb m) (.i w) (.i 0) (.q 0) (.bool true) (.s tb m)) H1 :=
 hx N 60 [jC 7 1 g0,jO 8 1 H0 g1,jD 8 3 g2]
end
end Go.Proofs.Ytiejmoglooaalaa
end
section
open Go Go.HL Go.HL.Dt
namespace Go.Proofs.Ytiejmoglooaalaa
set_option linter.unusedSectionVars false
open Go.Proofs.Try renaming prog → Tp
open Go.HL.HV renaming undef → Ud
theorem KZ {x p:Int} (h:p≠0):Um Tp .rem 3 (.int .i64 x) (.int .i64 p)=some (.int .i64 (x.tmod p)):=by
 simp only [BV,Um,K6,if_neg h,if_true]
theorem QI {x:Int} (h0:0≤x) (h:x<4611686018427387904):qA.wrap x=x:=WN (by omega) h
theorem Qhc {a b p:Int} (ha:0≤a) (ha':a<p) (hb:0≤b) (hb':b<p) (hp:p≤2147483647):0≤a*b∧a*b<4611686018427387904:=by
 refine ⟨Int.mul_nonneg ha hb,?_⟩
 have h1:a*b≤2147483647*2147483647:=zL (by omega) (by omega) hb (by omega)
 omega
theorem DP {a b p:Int} (hp0:0<p) (ha:0≤a) (ha':a<p) (hb:0≤b) (hb':b<p) (hp:p≤2147483647):(qA.wrap (a*b)).tmod p=a*b%p:=by
 obtain ⟨h1,h2⟩:=Qhc ha ha' hb hb' hp
 rw [QI h1 h2,qT h1]
def S3:Int→Int→Int→Prop:=fun a n p=>(1<p∧p≤2147483647)∧(0≤a∧a<p)∧0≤n∧n<2147483648
instance (a n p:Int):Decidable (S3 a n p):=by unfold S3;infer_instance
def Xw:List HV→Option HV:=f3 kI kI kI fun a n p=>if S3 a n p then some (.int .i64 (pw a n.toNat p)) else none
def J8:FuncId→Option (List HV→Option HV):=fun _=>none
theorem Qb5 (n:Nat):Ql Tp (Qs Tp (plF J8) n):=Qz _ (fun g f h=>by cases h) n
theorem Qrt:Try.f45.results.toList=[.tmp 6]:=by kernel_rfl
theorem Ct {p:Int} (hp:1<p∧p≤2147483647) {H:Heap}:∀(k:Nat) (u a:Int) (n:Nat),n<2 ^ k→(0≤u∧u<p)→(0≤a∧a<p)→n<2147483648→∃a' n':Int,
  RT (plF J8) 45 (sn 28 B45) (Gx (.i a) (.i (n:Int)) (.i p) (.i 0) (.i u)) H (.exit 0) (Gx (.i a') (.i n') (.i p) (.i 0) (.i (pwL p k u a n))) H
 | 0,u,a,n,hn,_,_,_=>by
  have:n=0:=by omega
  subst this
  refine ⟨a,0,?_⟩
  have s:=QeZ (F:=J8) a ((0:Nat):Int) p H u (by omega)
  rw [pwL]
  exact lpo s
 | k+1,u,a,n,hn,hu,ha,hm=>by
  by_cases c0:n=0
  ·subst c0
   refine ⟨a,0,?_⟩
   have s:=QeZ (F:=J8) a ((0:Nat):Int) p H u (by omega)
   rw [pwL,if_pos rfl]
   exact lpo s
  have e2:qA.wrap (((n:Int)).tdiv 2)=((n/2:Nat):Int):=by
   rw [wD (by omega),QI (by omega) (by omega)];omega
  have e3:((n:Int)).tmod 2=((n%2:Nat):Int):=by rw [qT (by omega)];omega
  have e4:=DP (by omega) ha.1 ha.2 ha.1 ha.2 hp.2
  have e5:=DP (by omega) hu.1 hu.2 ha.1 ha.2 hp.2
  have ha2:0≤a*a%p∧a*a%p<p:=⟨qF _ (by omega),qG _ (by omega)⟩
  have hu2:0≤u*a%p∧u*a%p<p:=⟨qF _ (by omega),qG _ (by omega)⟩
  rw [qN] at hn
  by_cases c1:n%2=1
  ·obtain ⟨a',n',ih⟩:=Ct hp (H:=H) k (u*a%p) (a*a%p) (n/2) (by omega) hu2 ha2 (by omega)
   have s:=Qn6 (F:=J8) a (n:Int) p H u (by omega) (by rw [e3,c1];rfl) (KZ (by omega)) (KZ (by omega))
   rw [e2,e4,e5] at s
   refine ⟨a',n',?_⟩
   rw [pwL,if_neg c0,if_pos c1]
   exact lop s (QC _ rfl) ih
  ·obtain ⟨a',n',ih⟩:=Ct hp (H:=H) k u (a*a%p) (n/2) (by omega) hu ha2 (by omega)
   have s:=Qn7 (F:=J8) a (n:Int) p H u (by omega) (by rw [e3];omega) (KZ (by omega))
   rw [e2,e4] at s
   refine ⟨a',n',?_⟩
   rw [pwL,if_neg c0,if_neg c1]
   exact lop s (QC _ rfl) ih
theorem QiJ:QP Tp 45 Xw:=by
 refine Qn (pol:=plF J8) (fn:=Try.f45) (cd:=B45) Qh Qb5 (by kernel_rfl) (by kernel_rfl) (Zh J8 _ _ (by kernel_rfl)) (by kernel_rfl) ?_
 intro args res h
 obtain ⟨a,n,p,rfl,hq⟩:=Vu h
 split at hq
 case isFalse=>cases hq
 rename_i hl
 obtain ⟨hp,ha,hn⟩:=hl
 cases hq
 obtain ⟨m,rfl⟩:=zI hn.1
 have s1:=Qn4 (F:=J8) a (m:Int) p []
 have s2:=Qn5 (F:=J8) a (m:Int) p []
 obtain ⟨a',n',s3⟩:=Ct hp (H:=[]) 31 1 a m (by omega) (by omega) ha (by omega)
 have s4:=Qn8 (F:=J8) a' n' p [] (pwL p 31 1 a m)
 refine ⟨_,_,_,.int .i64 (pwL p 31 1 a m),sq (s1) (sq (s2) (sq (bke (c:=sn 14 B45) (s3)) (s4) (c:=sn 7 B45)) (c:=sn 3 B45)) (c:=B45),by simp,by simp only [Qc,Qrt];rfl,?_⟩
 rw [Qb3 hp.1 (by omega)];rfl
theorem Qru:Try.f67.results.toList=[.tmp 6]:=by kernel_rfl
theorem Cu {p:Int} (hp:1<p∧p≤2147483647) {H:Heap}:∀(k:Nat) (u a:Int) (n:Nat),n<2 ^ k→(0≤u∧u<p)→(0≤a∧a<p)→n<2147483648→∃a' n':Int,
  RT (plF J8) 67 (sn 28 B67) (Gy (.i a) (.i (n:Int)) (.i p) (.i 0) (.i u)) H (.exit 0) (Gy (.i a') (.i n') (.i p) (.i 0) (.i (pwL p k u a n))) H
 | 0,u,a,n,hn,_,_,_=>by
  have:n=0:=by omega
  subst this
  refine ⟨a,0,?_⟩
  have s:=Qe0 (F:=J8) a ((0:Nat):Int) p H u (by omega)
  rw [pwL]
  exact lpo s
 | k+1,u,a,n,hn,hu,ha,hm=>by
  by_cases c0:n=0
  ·subst c0
   refine ⟨a,0,?_⟩
   have s:=Qe0 (F:=J8) a ((0:Nat):Int) p H u (by omega)
   rw [pwL,if_pos rfl]
   exact lpo s
  have e2:qA.wrap (((n:Int)).tdiv 2)=((n/2:Nat):Int):=by
   rw [wD (by omega),QI (by omega) (by omega)];omega
  have e3:((n:Int)).tmod 2=((n%2:Nat):Int):=by rw [qT (by omega)];omega
  have e4:=DP (by omega) ha.1 ha.2 ha.1 ha.2 hp.2
  have e5:=DP (by omega) hu.1 hu.2 ha.1 ha.2 hp.2
  have ha2:0≤a*a%p∧a*a%p<p:=⟨qF _ (by omega),qG _ (by omega)⟩
  have hu2:0≤u*a%p∧u*a%p<p:=⟨qF _ (by omega),qG _ (by omega)⟩
  rw [qN] at hn
  by_cases c1:n%2=1
  ·obtain ⟨a',n',ih⟩:=Cu hp (H:=H) k (u*a%p) (a*a%p) (n/2) (by omega) hu2 ha2 (by omega)
   have s:=Qob (F:=J8) a (n:Int) p H u (by omega) (by rw [e3,c1];rfl) (KZ (by omega)) (KZ (by omega))
   rw [e2,e4,e5] at s
   refine ⟨a',n',?_⟩
   rw [pwL,if_neg c0,if_pos c1]
   exact lop s (QC _ rfl) ih
  ·obtain ⟨a',n',ih⟩:=Cu hp (H:=H) k u (a*a%p) (n/2) (by omega) hu ha2 (by omega)
   have s:=Qoc (F:=J8) a (n:Int) p H u (by omega) (by rw [e3];omega) (KZ (by omega))
   rw [e2,e4] at s
   refine ⟨a',n',?_⟩
   rw [pwL,if_neg c0,if_neg c1]
   exact lop s (QC _ rfl) ih
theorem QiK:QP Tp 67 Xw:=by
 refine Qn (pol:=plF J8) (fn:=Try.f67) (cd:=B67) Qh Qb5 (by kernel_rfl) (by kernel_rfl) (Zh J8 _ _ (by kernel_rfl)) (by kernel_rfl) ?_
 intro args res h
 obtain ⟨a,n,p,rfl,hq⟩:=Vu h
 split at hq
 case isFalse=>cases hq
 rename_i hl
 obtain ⟨hp,ha,hn⟩:=hl
 cases hq
 obtain ⟨m,rfl⟩:=zI hn.1
 have s1:=Qn9 (F:=J8) a (m:Int) p []
 have s2:=Qoa (F:=J8) a (m:Int) p []
 obtain ⟨a',n',s3⟩:=Cu hp (H:=[]) 31 1 a m (by omega) (by omega) ha (by omega)
 have s4:=Qod (F:=J8) a' n' p [] (pwL p 31 1 a m)
 refine ⟨_,_,_,.int .i64 (pwL p 31 1 a m),sq (s1) (sq (s2) (sq (bke (c:=sn 14 B67) (s3)) (s4) (c:=sn 7 B67)) (c:=sn 3 B67)) (c:=B67),by simp,by simp only [Qc,Qru];rfl,?_⟩
 rw [Qb3 hp.1 (by omega)];rfl
end Go.Proofs.Ytiejmoglooaalaa
end
section
namespace Go.HL.Dt
set_option linter.unusedSectionVars false
open Go.Proofs.Try renaming prog → Tp
open Go.HL.HV renaming undef → Ud
def rw (r:List Int):Row:=fun z=>r.getD z.toNat 0
def ZQ:Nat→Nat→List Int
 | _,0=>[]
 | c,k+1=>(c:Int)::ZQ (c+1) k
theorem cols_mem:∀{k c:Nat} {z:Int},z∈ZQ c k↔(c:Int)≤z∧z<((c+k:Nat):Int)
 | 0,c,z=>by simp [ZQ]
 | k+1,c,z=>by
  rw [ZQ,List.mem_cons,cols_mem]
  omega
def Xx (p:Int) (c:Nat) (f:Int) (x r:List Int):List Int:=(qH r.length).map fun j=>if c≤j then (r.getD j 0+(p-f)*x.getD j 0)%p else r.getD j 0
def VE (p:Int) (c:Nat) (v:Int) (r:List Int):Int:=r.getD c 0*v%p
def Jo (p:Int) (c:Nat) (v:Int) (m:List (List Int)):List (List Int):=m.take (c+1)++(m.drop (c+1)).map fun r=>Xx p c (VE p c v r) (m.getD c []) r
def ZF (m:List (List Int)) (c:Nat):Nat→Nat→Nat
 | 0,r=>r
 | k+1,r=>if (m.getD r []).getD c 0=0 then ZF m c k (r+1) else r
def swpR (m:List (List Int)) (i j:Nat):List (List Int):=(m.set i (m.getD j [])).set j (m.getD i [])
def gz (p:Int) (inv:Int→Int) (N:Nat):Nat→Nat→Int→List (List Int)→Int
 | 0,_,out,_=>out
 | k+1,c,out,m =>
  if ZF m c (N-c) c=N then 0 else
   gz p inv N k (c+1) ((if ZF m c (N-c) c=c then out else p-out)*((swpR m (ZF m c (N-c) c) c).getD c []).getD c 0%p)
    (Jo p c (inv (((swpR m (ZF m c (N-c) c) c).getD c []).getD c 0)) (swpR m (ZF m c (N-c) c) c))
def RowOk (p:Int) (N:Nat) (r:List Int):Prop:=r.length=N∧∀j,j<N→0≤r.getD j 0∧r.getD j 0<p
def Ws (p:Int) (N:Nat) (m:List (List Int)):Prop:=m.length=N∧∀r∈m,RowOk p N r
theorem Kw (m:List (List Int)) (c:Nat):∀(k r:Nat),r≤ZF m c k r∧ZF m c k r≤r+k∧(∀i,r≤i→i<ZF m c k r→(m.getD i []).getD c 0=0)∧(ZF m c k r<r+k→(m.getD (ZF m c k r) []).getD c 0≠0)
 | 0,r=>⟨qE _,qE _,fun i h1 h2=>by simp only [ZF] at h2;omega,fun h=>by simp only [ZF] at h;omega⟩
 | k+1,r=>by
  obtain ⟨h1,h2,h3,h4⟩:=Kw m c k (r+1)
  rw [ZF]
  split
  ·rename_i e
   refine ⟨by omega,by omega,fun i i1 i2=>?_,fun h=>h4 (by omega)⟩
   by_cases q:i=r
   ·subst q;exact e
   ·exact h3 i (by omega) i2
  ·rename_i e
   exact ⟨qE _,by omega,fun i i1 i2=>by omega,fun _=>e⟩
theorem ZR {m:List (List Int)} {i:Nat} (hi:i<m.length):m.getD i []=m[i]:=by simp [qI,hi]
theorem Yq {m:List (List Int)} {c:Nat} (hc:c<m.length):m.drop c=m.getD c []::m.drop (c+1):=by rw [List.drop_eq_getElem_cons hc,ZR hc]
theorem swp_len (m:List (List Int)) (i j:Nat):(swpR m i j).length=m.length:=by simp [swpR]
theorem Dz {m:List (List Int)} {c:Nat} (hc:c<m.length):swpR m c c=m:=by
 rw [swpR,zN,ZR hc,wE]
theorem Qe1 {m:List (List Int)} {c r:Nat} (hc:c<r) (hr:r<m.length):∃M B,m.drop c=m.getD c []::(M++m.getD r []::B)∧(swpR m r c).drop c=m.getD r []::(M++m.getD c []::B):=by
 refine ⟨(m.drop (c+1)).take (r-(c+1)),m.drop (r+1),?_,?_⟩
 ·rw [Yq (by omega)]
  congr 1
  have h1:(m.drop (c+1)).drop (r-(c+1))=m.getD r []::m.drop (r+1):=by rw [List.drop_drop,show c+1+(r-(c+1))=r by omega,Yq hr]
  rw [← h1,List.take_append_drop]
 ·apply zO
  intro i
  rw [jX,swpR]
  rcases zH i with e | e
  ·subst e
   rw [Nat.add_zero,jE (by simp;omega),wF]
  ·obtain ⟨i,rfl⟩:∃k,i=k+1:=⟨i-1,by omega⟩
   rw [wG,qL (by omega)]
   have hl:((m.drop (c+1)).take (r-(c+1))).length=r-(c+1):=by rw [qQ,jY];omega
   rcases Nat.lt_trichotomy i (r-(c+1)) with q | q | q
   ·rw [qL (by omega),jG (by omega),zP q,jX]
    congr 1;omega
   ·subst q
    rw [show c+(r-(c+1)+1)=r by omega,jE hr,qR (by omega),hl,jZ,wF]
   ·rw [qL (by omega),qR (by omega),hl]
    obtain ⟨d,hd⟩:∃d,i-(r-(c+1))=d+1:=⟨i-(r-(c+1))-1,by omega⟩
    rw [hd,wG,jX]
    congr 1;omega
theorem Qe2 {p:Int} {N:Nat} {m:List (List Int)} (h:Ws p N m) {i j:Nat} (hi:i<N) (hj:j<N):Ws p N (swpR m i j):=by
 refine ⟨by rw [swp_len];exact h.1,fun r hr=>?_⟩
 have hg:∀k,k<N→m.getD k []∈m:=fun k hk=>by rw [ZR (by rw [h.1];exact hk)];exact jH _
 rcases zA hr with q | q
 ·rcases zA q with q | q
  ·exact h.2 r q
  ·subst q;exact h.2 _ (hg j hj)
 ·subst q;exact h.2 _ (hg i hi)
theorem X4 {p:Int} {c:Nat} {f:Int} {x r:List Int} {j:Nat} (hj:j<r.length):(Xx p c f x r).getD j 0=if c≤j then (r.getD j 0+(p-f)*x.getD j 0)%p else r.getD j 0:=by
 simp [Xx,qI,hj]
theorem Qb6 {p:Int} (hp:0<p) {N c:Nat} {f:Int} {x r:List Int} (hr:RowOk p N r):RowOk p N (Xx p c f x r):=by
 refine ⟨by rw [Xx,qP,List.length_range];exact hr.1,fun j hj=>?_⟩
 rw [X4 (by rw [hr.1];exact hj)]
 split
 ·exact ⟨qF _ (by omega),qG _ hp⟩
 ·exact hr.2 j hj
theorem Cv {p:Int} (hp:0<p) {N c:Nat} {v:Int} {m:List (List Int)} (h:Ws p N m):Ws p N (Jo p c v m):=by
 refine ⟨?_,fun r hr=>?_⟩
 ·rw [Jo,qJ,qP,qQ,jY,← h.1];omega
 ·rcases List.mem_append.1 hr with q | q
  ·exact h.2 r (List.mem_of_mem_take q)
  ·obtain ⟨y,hy,rfl⟩:=List.mem_map.1 q
   exact Qb6 hp (h.2 y (zQ hy))
theorem Gz {p:Int} {c:Nat} {v:Int} {m:List (List Int)} (hc:c<m.length):(Jo p c v m).drop (c+1)=(m.drop (c+1)).map fun r=>Xx p c (VE p c v r) (m.getD c []) r:=by
 have hl:(m.take (c+1)).length=c+1:=by rw [qQ];omega
 rw [Jo,List.drop_append_of_le_length (by omega),List.drop_of_length_le (by omega),List.nil_append]
theorem Cg.map2 {p:Int} {cs:List Int} {α:Type} {f g:α→Row}:∀{R:List α},(∀r∈R,∀z∈cs,p∣f r z-g r z)→Cg p cs (R.map f) (R.map g)
 | [],_=>trivial
 | r::R,h=>⟨h r (zS ..),Cg.map2 fun q hq=>h q (zT _ hq)⟩
theorem QU (a p:Int):p∣a%p-a:=by
 refine ⟨-(a/p),?_⟩
 have:=Int.emod_add_mul_ediv a p
 rw [Int.mul_neg];omega
theorem Qa4 {p:Int} (hp:1<p) {inv:Int→Int} (hinv:∀a,0<a→a<p→(a*inv a)%p=1) {N:Nat}:∀(k c:Nat) (out:Int) (m:List (List Int)),c+k=N→Ws p N m→p∣gz p inv N k c out m-out*det (ZQ c k) ((m.drop c).map rw)
 | 0,c,out,m,hk,h=>by
  have:m.drop c=[]:=List.drop_eq_nil_of_le (by rw [h.1];omega)
  rw [gz,this]
  simp [ZQ,det]
 | k+1,c,out,m,hk,h=>by
  have hlen:=h.1
  obtain ⟨f1,f2,f3,f4⟩:=Kw m c (N-c) c
  rw [gz]
  generalize ZF m c (N-c) c=r at *
  by_cases e:r=N
  ·rw [if_pos e]
   have hz:det (ZQ c (k+1)) ((m.drop c).map rw)=0:=QeN fun q hq=>by
    obtain ⟨y,hy,rfl⟩:=List.mem_map.1 hq
    obtain ⟨i,hi,rfl⟩:=List.getElem_of_mem hy
    rw [jY] at hi
    rw [List.getElem_drop]
    have:=f3 (c+i) (by omega) (by omega)
    rw [ZR (by omega)] at this
    simpa [rw] using this
   rw [hz];simp
  ·rw [if_neg e]
   have hrN:r<N:=by omega
   have hok:=Qe2 h hrN (show c<N by omega)
   have hnz:((swpR m r c).getD c []).getD c 0≠0:=by
    have h1:(swpR m r c).getD c []=m.getD r []:=by
     rw [ZR (by rw [swp_len];omega)]
     simp [swpR]
    rw [h1]
    exact f4 (by omega)
   have hdet:det (ZQ c (k+1)) ((m.drop c).map rw)=(if r=c then 1 else -1)*det (ZQ c (k+1)) (((swpR m r c).drop c).map rw):=by
    by_cases q:r=c
    ·subst q
     rw [if_pos rfl,Dz (by omega),jA]
    ·rw [if_neg q]
     obtain ⟨M,B,e1,e2⟩:=Qe1 (m:=m) (c:=c) (r:=r) (by omega) (by omega)
     rw [e1,e2]
     simp only [qM,zC]
     rw [QmB (KR _) (Y5 _)]
     omega
   generalize hm1:swpR m r c=m1 at *
   have hl1:=hok.1
   have hcm:m1.getD c []∈m1:=by rw [ZR (by omega)];exact jH _
   have hpr:=(hok.2 _ hcm).2 c (by omega)
   generalize ha:(m1.getD c []).getD c 0=a at *
   have hia:=hinv a (by omega) hpr.2
   generalize inv a=v at *
   have hE:=elim (KR (ZQ c (k+1))) (Y5 _) (rw (m1.getD c [])) (fun y=>-(y c*v)) ((m1.drop (c+1)).map rw) []
   simp only [List.nil_append,zU] at hE
   have hC:Cg p (ZQ c (k+1)) (rw (m1.getD c [])::((Jo p c v m1).drop (c+1)).map rw) (rw (m1.getD c [])::(m1.drop (c+1)).map ((fun r=>ax r (-(r c*v)) (rw (m1.getD c []))) ∘ rw)):=by
    refine ⟨fun z _=>by rw [Int.sub_self];exact Int.dvd_zero p,?_⟩
    rw [Gz (by omega),zU]
    refine Cg.map2 fun y hy z hz=>?_
    obtain ⟨z1,z2⟩:=cols_mem.1 hz
    have hyl:=(hok.2 y (zQ hy)).1
    have hg:=X4 (p:=p) (c:=c) (f:=VE p c v y) (x:=m1.getD c []) (r:=y) (j:=z.toNat) (by omega)
    simp only [Function.comp,rw,ax]
    rw [hg,if_pos (by omega),VE,qS]
    generalize y.getD z.toNat 0=A
    generalize (m1.getD c []).getD z.toNat 0=B
    generalize y.getD c 0*v=W
    have d1:=QU (A+(p-W%p)*B) p
    have d2:=QU W p
    have e:(A+(p-W%p)*B)%p-(A+-W*B)=((A+(p-W%p)*B)%p-(A+(p-W%p)*B))+(p*B-(W%p-W)*B):=by
     simp only [zD,Int.neg_mul];omega
    rw [e]
    exact jI d1 (zE (zV p B) (zW d2))
   have hD:=Dp _ _ _ hC
   rw [hE] at hD
   have hp0:∀q∈((Jo p c v m1).drop (c+1)).map rw,q c=0:=fun q hq=>by
    rw [Gz (by omega),zU] at hq
    obtain ⟨y,hy,rfl⟩:=List.mem_map.1 hq
    have hyl:=(hok.2 y (zQ hy)).1
    have hg:=X4 (p:=p) (c:=c) (f:=VE p c v y) (x:=m1.getD c []) (r:=y) (j:=c) (by omega)
    simp only [Function.comp,rw,qS]
    rw [hg,if_pos (qE _),VE,ha]
    generalize y.getD c 0=A at *
    have d2:=QU (A*v) p
    have d3:p∣a*v-1:=by
     have:=QU (a*v) p;rw [hia] at this;have e:a*v-1=-(1-a*v):=by omega
     rw [e];exact Int.dvd_neg.2 this
    have e:A+(p-A*v%p)*a=p*a-(A*v%p-A*v)*a-A*(a*v-1):=by
     simp only [zD,Int.mul_sub,Int.mul_one]
     have:A*v*a=A*(a*v):=by rw [jW,Int.mul_comm v a]
     omega
    have:p∣A+(p-A*v%p)*a:=by
     rw [e]
     exact zE (zE (zV p a) (zW d2)) (zX d3)
    exact Int.emod_eq_zero_of_dvd this
   have hP:=QgN (c:=(c:Int)) (cs:=ZQ (c+1) k) (x:=rw (m1.getD c [])) hp0
   have hx:rw (m1.getD c []) c=a:=by show (m1.getD c []).getD (c:Int).toNat 0=a;rw [qS,ha]
   rw [hx] at hP
   have ih:=Qa4 hp hinv k (c+1) ((if r=c then out else p-out)*a%p) (Jo p c v m1) (by omega) (Cv (by omega) hok)
   have hd:(m1.drop c).map rw=rw (m1.getD c [])::(m1.drop (c+1)).map rw:=by rw [Yq (by omega),qM]
   rw [hdet,hd]
   rw [show ZQ c (k+1)=(c:Int)::ZQ (c+1) k from rfl] at hD ⊢
   rw [hP] at hD
   generalize det ((c:Int)::ZQ (c+1) k) (rw (m1.getD c [])::(m1.drop (c+1)).map rw)=D at *
   generalize det (ZQ (c+1) k) (((Jo p c v m1).drop (c+1)).map rw)=D' at *
   generalize gz p inv N k (c+1) ((if r=c then out else p-out)*a%p) (Jo p c v m1)=G at *
   have d1:=QU ((if r=c then out else p-out)*a) p
   have d2:=zW (c:=D') d1
   by_cases q:r=c
   ·simp only [if_pos q] at *
    have e1:G-out*(1*D)=(G-out*a%p*D')+(out*a%p-out*a)*D'+out*(a*D'-D):=by
     simp only [zD,Int.mul_sub,jA,jW];omega
    rw [e1]
    exact jI (jI ih d2) (zX hD)
   ·simp only [if_neg q] at *
    have e1:G-out*(-1*D)=(G-(p-out)*a%p*D')+((p-out)*a%p-(p-out)*a)*D'+(p*(a*D')-out*(a*D'-D)):=by
     simp only [zD,Int.mul_sub,Int.neg_mul,jA,Int.mul_neg,jW];omega
    rw [e1]
    exact jI (jI ih d2) (zE (zV p _) (zX hD))
theorem Qa5 {p:Int} (hp:1<p) {inv:Int→Int} {N:Nat}:∀(k c:Nat) (out:Int) (m:List (List Int)),0≤out→out<p→0≤gz p inv N k c out m∧gz p inv N k c out m<p
 | 0,_,_,_,h1,h2=>⟨h1,h2⟩
 | k+1,c,out,m,h1,h2=>by
  rw [gz]
  split
  ·omega
  ·exact Qa5 hp k (c+1) _ _ (qF _ (by omega)) (qG _ (by omega))
end Go.HL.Dt
end
section
open Go Go.HL
namespace Go.Proofs.Ytiejmoglooaalaa
set_option linter.unusedSectionVars false
open Go.Proofs.Try renaming prog → Tp
open Go.HL.HV renaming undef → Ud
theorem mxs_all {n:Nat}:∀{H:Heap},mxs H≤n↔∀B∈H,B.mx≤n
 | []=>by simp [mxs]
 | b::H=>by
  rw [mxs,List.forall_mem_cons,← mxs_all (H:=H)];omega
theorem Qhd {H:Heap} {n b:Nat} {B:Blk} (h:mxs H≤n) (hB:B.mx≤n):mxs (H.set b B)≤n:=mxs_all.2 fun C hC=>by
 rcases zA hC with c | c
 ·exact mxs_all.1 h C c
 ·exact c▸hB
abbrev slR (b N:Nat) (cp:Option Nat:=some N):HV:=.sl b 0 N cp N 1
def Xd (R:Nat→Nat) (N:Nat) (cp:Option Nat:=some N):List HV:=(qH N).map fun i=>slR (R i) N cp
theorem Z5 (R:Nat→Nat) (N:Nat) {cp:Option Nat}:(Xd R N cp).length=N:=by simp [Xd]
theorem Kx {R:Nat→Nat} {N i:Nat} {cp:Option Nat} (h:i<N):(Xd R N cp)[i]?=some (slR (R i) N cp):=by simp [Xd,h]
theorem GA (R:Nat→Nat) (N i b:Nat) {cp:Option Nat}:(Xd R N cp).set i (slR b N cp)=Xd (fun k=>if k=i then b else R k) N cp:=by
 refine zO fun j=>?_
 rcases qK j N with h | h
 ·rw [Kx h,zF]
  by_cases c:i=j
  ·subst c;rw [if_pos rfl,if_pos (by rw [Z5];exact h),if_pos rfl]
  ·rw [if_neg c,Kx h,if_neg fun e=>c e.symm]
 ·rw [qU (by rw [qC,Z5];exact h),qU (by rw [Z5];exact h)]
abbrev bR (R:Nat→Nat) (N mx:Nat) (cp:Option Nat:=some N):Blk:=.arr 1 (Xd R N cp) true mx
theorem Y8 (R:Nat→Nat) (N mx:Nat) {cp:Option Nat}:Qw [bR R N mx cp] [bR R N mx cp]=true:=by
 simp only [Qw,Xd,WW (f:=fun i=>slR (R i) N cp) (fun i=>by simp [same]),beq_self_eq_true,jJ]
theorem Ok.set {H:Heap} (h:Ok H) {b:Nat} {B:Blk} (hm:B.mx≤H.length) (hs:Qw [B] [B]=true):Ok (H.set b B):=⟨by rw [qC];exact Qhd h.mx hm,QcU h.sm hs⟩
theorem Ok.app {A B:Heap} (h:Ok A) (hm:mxs B≤A.length+B.length) (hs:Qw B B=true):Ok (A++B):=⟨by rw [Wn,qJ];have:=h.mx;omega,VU h.sm hs⟩
theorem Ok.gc {H:Heap} (h:Ok H) (base r:Nat):Ok (gc base r H):=by
 refine ⟨?_,QaJ h.sm _⟩
 unfold Go.HL.gc
 have h1:mxs (H.take (max base (max r (mxs H))))≤mxs H:=mxs_all.2 fun B hB=>mxs_all.1 (qE _) B (List.mem_of_mem_take hB)
 rw [qQ]
 have:=h.mx
 omega
structure Pre (H H':Heap):Prop where
 ln:H.length≤H'.length
 eq:∀b,b<H.length→H'[b]?=H[b]?
theorem Pre.refl (H:Heap):Pre H H:=⟨qE _,fun _ _=>rfl⟩
theorem Pre.trans {A B C:Heap} (h:Pre A B) (k:Pre B C):Pre A C:=⟨Nat.le_trans h.ln k.ln,fun b hb=>(k.eq b (Nat.lt_of_lt_of_le hb h.ln)).trans (h.eq b hb)⟩
theorem Pre.app (A B:Heap):Pre A (A++B):=⟨by simp,fun b hb=>jG hb⟩
theorem Pre.gc {A H:Heap} (h:Pre A H) {base:Nat} (hb:A.length≤base) (r:Nat):Pre A (gc base r H):=by
 unfold Go.HL.gc
 refine ⟨by rw [qQ];have:=h.ln;omega,fun b hb'=>?_⟩
 rw [zP (by omega)]
 exact h.eq b hb'
theorem Pre.get {A H:Heap} (h:Pre A H) {b:Nat} {B:Blk} (hb:A[b]?=some B):H[b]?=some B:=by
 have:b<A.length:=by
  rcases qK b A.length with c | c
  ·exact c
  ·rw [qU c] at hb;cases hb
 rw [h.eq b this];exact hb
structure Mat (H:Heap) (mb N:Nat) (R:Nat→Nat) (m:List (List Int)) (cp:Option Nat:=some N):Prop where
 ml:m.length=N
 rl:∀i,i<N→(m.getD i []).length=N
 ne:∀i,i<N→R i≠mb
 inj:∀i j,i<N→j<N→R i=R j→i=j
 blk:∃mx,mx≤H.length∧H[mb]?=some (bR R N mx cp)
 row:∀i,i<N→H[R i]?=some (bI (m.getD i []))
 mm:Ok H
theorem JR {H:Heap} {b:Nat} {B:Blk} (h:H[b]?=some B):b<H.length:=by
 rcases qK b H.length with c | c
 ·exact c
 ·rw [qU c] at h;cases h
section
variable {H:Heap} {mb N:Nat} {R:Nat→Nat} {m:List (List Int)} {cp:Option Nat}
theorem Mat.ld (h:Mat H mb N R m cp) {i:Nat} (hi:i<N):QK Tp H 24 (.ptr mb i 0 N)=some (slR (R i) N cp):=by
 obtain ⟨mx,_,hb⟩:=h.blk
 exact WV (b:=mb) hb (Z5 R N).symm (Kx hi) rfl a24 i24
theorem Mat.get (h:Mat H mb N R m cp) {i j:Nat} (hi:i<N) (hj:j<N):QK Tp H 3 (.ptr (R i) j 0 N)=some (.int .i64 ((m.getD i []).getD j 0)):=by
 have:=QR (h.row i hi) (y:=j) (by rw [h.rl i hi];exact hj)
 rw [h.rl i hi] at this
 exact this
theorem Z6 {mb N i:Nat} {cp:Option Nat} (hi:i<N):ZI Tp 57 (slR mb N cp) (.int .i64 (i:Int))=some (.ptr mb i 0 N):=ZT u57 z24 hi
theorem Z7 {b N j:Nat} {cp:Option Nat} (hj:j<N):ZI Tp 24 (slR b N cp) (.int .i64 (j:Int))=some (.ptr b j 0 N):=ZT u24 z3 hj
structure Fx (H H':Heap) (S:Nat→Prop):Prop where
 ln:H'.length=H.length
 eq:∀b,¬S b→H'[b]?=H[b]?
theorem Fx.refl (H:Heap) (S:Nat→Prop):Fx H H S:=⟨rfl,fun _ _=>rfl⟩
theorem Fx.trans {H H' H'':Heap} {S:Nat→Prop} (a:Fx H H' S) (b:Fx H' H'' S):Fx H H'' S:=⟨by rw [b.ln,a.ln],fun x hx=>(b.eq x hx).trans (a.eq x hx)⟩
theorem Fx.set {H:Heap} {S:Nat→Prop} {b:Nat} (hb:S b) (B:Blk):Fx H (H.set b B) S:=⟨by simp,fun x hx=>qL fun e=>by subst e;exact hx hb⟩
theorem WA {m:List (List Int)} {i k:Nat} (hi:i<m.length) (r:List Int):(m.set i r).getD k []=if i=k then r else m.getD k []:=by
 simp only [qI,zF]
 by_cases c:i=k
 ·subst c;simp [hi]
 ·simp [c]
theorem Mat.put (h:Mat H mb N R m cp) {i j:Nat} (hi:i<N) (hj:j<N) (v:Int) :
  Wf Tp H 3 (.ptr (R i) j 0 N) (.int .i64 v)=some (H.set (R i) (bI ((m.getD i []).set j v)))∧Mat (H.set (R i) (bI ((m.getD i []).set j v))) mb N R (m.set i ((m.getD i []).set j v)) cp:=by
 constructor
 ·have:=Kn (h.row i hi) (y:=j) (by rw [h.rl i hi];exact hj) v
  rw [h.rl i hi] at this
  exact this
 ·have hm:i<m.length:=by rw [h.ml];exact hi
  refine ⟨by rw [qC];exact h.ml,fun k hk=>?_,h.ne,h.inj,?_,fun k hk=>?_,?_⟩
  ·rw [WA hm]
   split
   ·rw [qC];exact h.rl i hi
   ·exact h.rl k hk
  ·obtain ⟨mx,hx,hb⟩:=h.blk
   exact ⟨mx,by rw [qC];exact hx,by rw [qL (h.ne i hi)];exact hb⟩
  ·rw [WA hm]
   by_cases c:i=k
   ·subst c
    rw [if_pos rfl,jE (JR (h.row i hi))]
   ·rw [if_neg c,qL fun e=>c (h.inj i k hi hk e)]
    exact h.row k hk
  ·exact h.mm.set (Nat.zero_le _) (Q3 _)
theorem QrR:Qr Tp 24=some 1:=by kernel_rfl
theorem V1 {els:List HV} {mx tot i b N:Nat} (hb:H[mb]?=some (.arr 1 els true mx)) (ht:tot=els.length) {old:HV} (ho:els[i]?=some old) (hc:cellsOf old=[old]) (hna:∀cs,old≠.agg cs) :
  Wf Tp H 24 (.ptr mb i 0 tot) (slR b N cp)=some (H.set mb (.arr 1 (els.set i (slR b N cp)) true (max mx (b+1)))):=by
 have hz:=QrR
 simp only [ST,Wf,hb,ho,ht,hz,hc]
 rw [if_pos ⟨trivial,rfl⟩,if_pos ⟨by simp [cellsOf],by simp [cellsOf,Qm],by simp [cellsOf]⟩]
 cases old with
 | agg cs=>exact absurd rfl (hna cs)
 | _=>rfl
theorem Mat.swap (h:Mat H mb N R m cp) {r c:Nat} (hr:r<N) (hc:c<N):∃H0 H1,Wf Tp H 24 (.ptr mb r 0 N) (slR (R c) N cp)=some H0∧Wf Tp H0 24 (.ptr mb c 0 N) (slR (R r) N cp)=some H1 ∧
  Mat H1 mb N (fun k=>R (if k=c then r else if k=r then c else k)) (Dt.swpR m r c) cp∧Fx H H1 (fun b=>b=mb):=by
 obtain ⟨mx,hx,hb⟩:=h.blk
 have hml:=JR hb
 have rr:=JR (h.row r hr)
 have rc:=JR (h.row c hc)
 have s1:=V1 (i:=r) (b:=R c) (N:=N) (cp:=cp) hb (Z5 R N).symm (Kx hr) rfl (by intro cs e;cases e)
 rw [GA] at s1
 have hb1:(H.set mb (bR (fun k=>if k=r then R c else R k) N (max mx (R c+1)) cp))[mb]?=some (bR (fun k=>if k=r then R c else R k) N (max mx (R c+1)) cp):=jE hml
 have s2:=V1 (i:=c) (b:=R r) (N:=N) (cp:=cp) hb1 (Z5 _ N).symm (Kx hc) rfl (by intro cs e;cases e)
 have er:(fun k=>if k=c then R r else if k=r then R c else R k)=(fun k=>R (if k=c then r else if k=r then c else k)):=funext fun k=>by
  split
  ·rfl
  ·split <;> rfl
 rw [GA,zN,er] at s2
 refine ⟨_,_,s1,s2,⟨?_,fun k hk=>?_,fun k hk=>?_,fun i j hi hj e=>?_,⟨_,?_,jE hml⟩,fun k hk=>?_,?_⟩,Fx.set (S:=fun b=>b=mb) rfl _⟩
 ·rw [Dt.swpR,qC,qC];exact h.ml
 ·have h1:r<m.length:=by rw [h.ml];exact hr
  rw [Dt.swpR,WA (by rw [qC,h.ml];exact hc),WA h1]
  split
  ·exact h.rl r hr
  ·split
   ·exact h.rl c hc
   ·exact h.rl k hk
 ·show R (if k=c then r else if k=r then c else k)≠mb
  split
  ·exact h.ne r hr
  ·split
   ·exact h.ne c hc
   ·exact h.ne k hk
 ·have hs:∀k,k<N→(if k=c then r else if k=r then c else k)<N:=fun k hk=>by
   split
   ·exact hr
   ·split
    ·exact hc
    ·exact hk
  have e2:=h.inj _ _ (hs i hi) (hs j hj) e
  split at e2
  ·split at e2
   ·omega
   ·split at e2 <;> omega
  ·split at e2
   ·split at e2
    ·omega
    ·split at e2 <;> omega
   ·split at e2
    ·omega
    ·split at e2 <;> omega
 ·rw [qC];omega
 ·have h1:r<m.length:=by rw [h.ml];exact hr
  rw [Dt.swpR,WA (by rw [qC,h.ml];exact hc),WA h1]
  show (H.set mb _)[R (if k=c then r else if k=r then c else k)]?=_
  by_cases a1:k=c
  ·rw [if_pos a1,if_pos (show c=k from a1.symm),qL fun e=>h.ne r hr e.symm];exact h.row r hr
  ·rw [if_neg a1,if_neg (show ¬c=k from fun e=>a1 e.symm)]
   by_cases a2:k=r
   ·rw [if_pos a2,if_pos (show r=k from a2.symm),qL fun e=>h.ne c hc e.symm];exact h.row c hc
   ·rw [if_neg a2,if_neg (show ¬r=k from fun e=>a2 e.symm),qL fun e=>h.ne k hk e.symm];exact h.row k hk
 ·exact h.mm.set (by show max (max mx (R c+1)) (R r+1)≤H.length;omega) (Y8 _ _ _)
end
end Go.Proofs.Ytiejmoglooaalaa
end
section
open Go Go.HL Go.HL.Dt
namespace Go.Proofs.Ytiejmoglooaalaa
set_option linter.unusedSectionVars false
open Go.Proofs.Try renaming prog → Tp
open Go.HL.HV renaming undef → Ud
theorem Qrv {a b p:Int} (hp0:0<p) (ha:0≤a) (ha':a≤p) (hb:0≤b) (hb':b<p) (hp:p≤2147483647):0≤a*b∧a*b≤p*(p-1)∧p*(p-1)<4611686014132420610:=by
 refine ⟨Int.mul_nonneg ha hb,zL ha' (by omega) hb (by omega),?_⟩
 have h1:p*(p-1)≤2147483647*2147483646:=zL hp (by omega) (by omega) (by omega)
 omega
theorem QiL {a b p:Int} (hp0:0<p) (ha:0≤a) (ha':a≤p) (hb:0≤b) (hb':b<p) (hp:p≤2147483647):(qA.wrap (a*b)).tmod p=a*b%p:=by
 obtain ⟨h1,h2,h3⟩:=Qrv hp0 ha ha' hb hb' hp
 rw [QI h1 (by omega),qT h1]
theorem Qrw {y f x p:Int} (hp0:0<p) (hy:0≤y∧y<p) (hf:0≤f∧f<p) (hx:0≤x∧x<p) (hp:p≤2147483647):(qA.wrap (y+qA.wrap (qA.wrap (p-f)*x))).tmod p=(y+(p-f)*x)%p:=by
 obtain ⟨h1,h2,h3⟩:=Qrv (a:=p-f) hp0 (by omega) (by omega) hx.1 hx.2 hp
 rw [QI (x:=p-f) (by omega) (by omega),QI h1 (by omega),QI (by omega) (by omega),qT (by omega)]
def ZS (p:Int) (c:Nat) (f:Int) (x r:List Int) (d:Nat):List Int:=(qH r.length).map fun j=>if c≤j∧j<c+d then (r.getD j 0+(p-f)*x.getD j 0)%p else r.getD j 0
theorem ZH (p:Int) (c:Nat) (f:Int) (x r:List Int) (d:Nat):(ZS p c f x r d).length=r.length:=by simp [ZS]
theorem V2 {α:Type} {n j:Nat} {g:Nat→α} {d:α} (h:j<n):((qH n).map g).getD j d=g j:=by simp [qI,h]
theorem Ky {p:Int} {c:Nat} {f:Int} {x r:List Int} {d j:Nat} (h:j<r.length):(ZS p c f x r d).getD j 0=if c≤j∧j<c+d then (r.getD j 0+(p-f)*x.getD j 0)%p else r.getD j 0:=V2 h
theorem Jp {α:Type} {d:α} {a b:List α} (hl:a.length=b.length) (h:∀j,j<a.length→a.getD j d=b.getD j d):a=b:=by
 refine List.ext_getElem hl fun j h1 h2=>?_
 have:=h j h1
 simpa [qI,h1,h2] using this
theorem V3 {r:List Int} {i k:Nat} (hi:i<r.length) (v:Int):(r.set i v).getD k 0=if i=k then v else r.getD k 0:=by
 simp only [qI,zF]
 by_cases c:i=k
 ·subst c;simp [hi]
 ·simp [c]
theorem DA (p:Int) (c:Nat) (f:Int) (x r:List Int):ZS p c f x r 0=r:=Jp (d:=0) (ZH ..) fun j hj=>by
 rw [ZH] at hj
 rw [Ky hj,if_neg (by omega)]
theorem DB {p:Int} {c:Nat} {f:Int} {x r:List Int} {d:Nat} (h:c+d<r.length):(ZS p c f x r d).set (c+d) ((r.getD (c+d) 0+(p-f)*x.getD (c+d) 0)%p)=ZS p c f x r (d+1):=Jp (d:=0) (by rw [qC,ZH,ZH]) fun j hj=>by
 rw [qC,ZH] at hj
 rw [V3 (by rw [ZH];exact h),Ky hj,Ky hj]
 by_cases e:c+d=j
 ·subst e;rw [if_pos rfl,if_pos (by omega)]
 ·rw [if_neg e]
  by_cases e2:c≤j∧j<c+d
  ·rw [if_pos e2,if_pos (by omega)]
  ·rw [if_neg e2,if_neg (by omega)]
theorem GB {p:Int} {c:Nat} {f:Int} {x r:List Int} (h:c≤r.length):ZS p c f x r (r.length-c)=Xx p c f x r:=Jp (d:=0) (by rw [ZH];simp [Xx]) fun j hj=>by
 rw [ZH] at hj
 rw [Ky hj,X4 hj]
 by_cases e:c≤j
 ·rw [if_pos (by omega),if_pos e]
 ·rw [if_neg (by omega),if_neg e]
def Jv (p:Int) (c:Nat) (v:Int) (m:List (List Int)) (k:Nat):List (List Int):=(qH m.length).map fun i=>if c<i∧i<c+1+k then Xx p c (VE p c v (m.getD i [])) (m.getD c []) (m.getD i []) else m.getD i []
theorem Zk (p:Int) (c:Nat) (v:Int) (m:List (List Int)) (k:Nat):(Jv p c v m k).length=m.length:=by simp [Jv]
theorem Jq {p:Int} {c:Nat} {v:Int} {m:List (List Int)} {k i:Nat} (h:i<m.length):(Jv p c v m k).getD i []=if c<i∧i<c+1+k then Xx p c (VE p c v (m.getD i [])) (m.getD c []) (m.getD i []) else m.getD i []:=V2 h
theorem DC (p:Int) (c:Nat) (v:Int) (m:List (List Int)):Jv p c v m 0=m:=Jp (d:=[]) (Zk ..) fun j hj=>by
 rw [Zk] at hj
 rw [Jq hj,if_neg (by omega)]
theorem DD {p:Int} {c:Nat} {v:Int} {m:List (List Int)} {k:Nat} (h:c+1+k<m.length):(Jv p c v m k).set (c+1+k) (Xx p c (VE p c v (m.getD (c+1+k) [])) (m.getD c []) (m.getD (c+1+k) []))=Jv p c v m (k+1):=Jp (d:=[]) (by rw [qC,Zk,Zk]) fun j hj=>by
 rw [qC,Zk] at hj
 rw [WA (by rw [Zk];exact h),Jq hj,Jq hj]
 by_cases e:c+1+k=j
 ·subst e;rw [if_pos rfl,if_pos (by omega)]
 ·rw [if_neg e]
  by_cases e2:c<j∧j<c+1+k
  ·rw [if_pos e2,if_pos (by omega)]
  ·rw [if_neg e2,if_neg (by omega)]
theorem GC {p:Int} {c:Nat} {v:Int} {m:List (List Int)} (h:c<m.length):Jv p c v m (m.length-(c+1))=Jo p c v m:=by
 refine Jp (d:=[]) (by rw [Zk,Jo,qJ,qQ,qP,jY];omega) fun j hj=>?_
 rw [Zk] at hj
 rw [Jq hj,Jo]
 have hl:(m.take (c+1)).length=c+1:=by rw [qQ];omega
 by_cases e:c<j
 ·rw [if_pos (by omega)]
  simp only [qI]
  rw [qR (by omega),hl,List.getElem?_map,jX,show c+1+(j-(c+1))=j by omega,zY hj]
  rfl
 ·rw [if_neg (by omega)]
  simp only [qI]
  rw [jG (by omega),zP (by omega)]
theorem S4 {p:Int} (hp:0<p) {N c:Nat} {v:Int} {m:List (List Int)} (h:Ws p N m) (k:Nat):Ws p N (Jv p c v m k):=by
 refine ⟨by rw [Zk];exact h.1,fun r hr=>?_⟩
 obtain ⟨i,hi,rfl⟩:=List.mem_map.1 hr
 have hi:=List.mem_range.1 hi
 have hri:RowOk p N (m.getD i []):=h.2 _ (by rw [ZR hi];exact jH _)
 split
 ·exact Qb6 hp hri
 ·exact hri
theorem KS {p:Int} {N:Nat} {m:List (List Int)} (h:Ws p N m) {i j:Nat} (hi:i<N) (hj:j<N):0≤(m.getD i []).getD j 0∧(m.getD i []).getD j 0<p:=by
 have hi':i<m.length:=by rw [h.1];exact hi
 have:=(h.2 _ (by rw [ZR hi'];exact jH _:m.getD i []∈m)).2 j hj
 exact this
section
variable {F:FuncId→Option (List HV→Option HV)} {H:Heap} {mb N:Nat} {R:Nat→Nat} {m:List (List Int)} {p:Int}
abbrev rowS (R:Nat→Nat) (N:Nat):Nat→Prop:=fun b=>∃k,k<N∧b=R k
theorem Qok (hM:Mat H mb N R m) (hN:N≤1000) {c i:Nat} (hci:c<i) (hi:i<N) (hp:1<p∧p≤2147483647) (hok:Ws p N m) {f:Int} (hf:0≤f∧f<p) (u v:Int) :
  ∃H',RT (plF F) 87 (sn 122486566 B87) ((QZ (slR mb N) (.i p) (.i 0) (.i u) (.i (c:Int)) Ud (.i v) (.i (i:Int)) (.i f) (.i (c:Int)) (.i (N:Int)) (.i (c:Int)))) H (.exit 6) ((QZ (slR mb N) (.i p) (.i 0) (.i u) (.i (c:Int)) Ud (.i v) (.i (i:Int)) (.i f) (.i (N:Int)) (.i (N:Int)) (.i (c:Int)))) H'∧Mat H' mb N R (m.set i (Xx p c f (m.getD c []) (m.getD i [])))∧Fx H H' (rowS R N):=by
 have hml:=hM.ml
 have hil:i<m.length:=by omega
 have hri:=hM.rl i hi
 obtain ⟨x,E',H',r,hx,hE,h1,h2⟩:=W2 (pol':=plF F) (f:=87) (b:=sn 244973132 B87) (c:=sn 122486566 B87)
  (I:=fun k e H'=>e=(QZ (slR mb N) (.i p) (.i 0) (.i u) (.i (c:Int)) Ud (.i v) (.i (i:Int)) (.i f) (.i ((c+k:Nat):Int)) (.i (N:Int)) (.i (c:Int)))∧Mat H' mb N R (m.set i (ZS p c f (m.getD c []) (m.getD i []) k))∧Fx H H' (rowS R N))
  (Q:=fun x E' H'=>x=.exit 6∧E'=(QZ (slR mb N) (.i p) (.i 0) (.i u) (.i (c:Int)) Ud (.i v) (.i (i:Int)) (.i f) (.i (N:Int)) (.i (N:Int)) (.i (c:Int)))∧Mat H' mb N R (m.set i (ZS p c f (m.getD c []) (m.getD i []) (N-c)))∧Fx H H' (rowS R N)) (N-c)
  (by
   rintro k hk e H' ⟨rfl,hM',hF⟩
   have hj:c+k<N:=by omega
   have ei:(m.set i (ZS p c f (m.getD c []) (m.getD i []) k)).getD i []=ZS p c f (m.getD c []) (m.getD i []) k:=by rw [WA hil,if_pos rfl]
   have ec:(m.set i (ZS p c f (m.getD c []) (m.getD i []) k)).getD c []=m.getD c []:=by rw [WA hil,if_neg (by omega)]
   have g1:=hM'.get hi hj
   have g2:=hM'.get (i:=c) (by omega) hj
   obtain ⟨g3,g4⟩:=hM'.put hi hj (((m.getD i []).getD (c+k) 0+(p-f)*(m.getD c []).getD (c+k) 0)%p)
   rw [ei] at g1 g3 g4
   rw [ec] at g2
   rw [Ky (by omega),if_neg (by omega)] at g1
   rw [DB (by omega)] at g3 g4
   rw [zN] at g4
   have aw:=Qrw (p:=p) (by omega) (KS hok hi hj) hf (KS hok (i:=c) (by omega) hj) hp.2
   have s:=QnZ (F:=F) 0 mb N p H' c u v i f (c+k) (R i) (R c) ((m.getD c []).getD (c+k) 0) ((m.getD i []).getD (c+k) 0) (by omega) (Z6 hi) (hM'.ld hi) (Z6 hi) (hM'.ld hi) (Z7 hj) g1 (Z6 (by omega)) (hM'.ld (by omega)) (Z7 hj) g2 (KZ (by omega)) (Z7 hj) (by rw [aw];exact g3)
   rw [show qA.wrap (((c+k:Nat):Int)+1)=((c+(k+1):Nat):Int) by rw [QI (by omega) (by omega)];omega] at s
   refine ⟨_,_,s,?_⟩
   have e1:Qy (plF F) 87 (sn 244973132 B87) ((QZ (slR mb N) (.i p) (.i 0) (.i u) (.i (c:Int)) Ud (.i v) (.i (i:Int)) (.i f) (.i ((c+(k+1):Nat):Int)) (.i (N:Int)) (.i (c:Int))))=(QZ (slR mb N) (.i p) (.i 0) (.i u) (.i (c:Int)) Ud (.i v) (.i (i:Int)) (.i f) (.i ((c+(k+1):Nat):Int)) (.i (N:Int)) (.i (c:Int))):=by kernel_rfl
   rw [e1,QC _ (by simp)]
   exact ⟨rfl,g4,hF.trans (Fx.set (S:=rowS R N) ⟨i,hi,rfl⟩ _)⟩)
  (by
   rintro e H' ⟨rfl,hM',hF⟩
   have e1:c+(N-c)=N:=by omega
   rw [e1]
   exact ⟨_,_,_,Qn0 (F:=F) 0 mb N p H' c u v i f N 0 0 0 0 (by omega),by simp,rfl,rfl,hM',hF⟩)
  (by kernel_rfl) (by rintro k e H' ⟨rfl,_⟩;kernel_rfl) (e:=(QZ (slR mb N) (.i p) (.i 0) (.i u) (.i (c:Int)) Ud (.i v) (.i (i:Int)) (.i f) (.i (c:Int)) (.i (N:Int)) (.i (c:Int)))) (H:=H) ⟨rfl,by
   rw [DA]
   have:m.set i (m.getD i [])=m:=by rw [ZR hil];exact wE hil
   rw [this];exact hM,Fx.refl ..⟩
 subst hx hE
 have e3:ZS p c f (m.getD c []) (m.getD i []) (N-c)=Xx p c f (m.getD c []) (m.getD i []):=by
  have:=GB (p:=p) (c:=c) (f:=f) (x:=m.getD c []) (r:=m.getD i []) (by omega)
  rwa [hri] at this
 rw [e3] at h1
 exact ⟨H',r,h1,h2⟩
theorem Qhe (hM:Mat H mb N R m) (hN:N≤1000) {c:Nat} (hc:c<N) (hp:1<p∧p≤2147483647) (hok:Ws p N m) (u:Int) {v:Int} (hv:0≤v∧v<p) :
  ∃H',RT (plF F) 87 (sn 956926 B87) ((QZ (slR mb N) (.i p) (.i 0) (.i u) (.i (c:Int)) Ud (.i v) (.i ((c+1:Nat):Int)) Ud Ud (.i (N:Int)) (.i (c:Int)))) H (.exit 4) ((QZ (slR mb N) (.i p) (.i 0) (.i u) (.i (c:Int)) Ud (.i v) (.i (N:Int)) Ud Ud (.i (N:Int)) (.i (c:Int)))) H'∧Mat H' mb N R (Jo p c v m)∧Fx H H' (rowS R N):=by
 have hml:=hM.ml
 obtain ⟨x,E',H',r,hx,hE,h1,h2⟩:=W2 (pol':=plF F) (f:=87) (b:=sn 1913852 B87) (c:=sn 956926 B87)
  (I:=fun k e H'=>e=(QZ (slR mb N) (.i p) (.i 0) (.i u) (.i (c:Int)) Ud (.i v) (.i ((c+1+k:Nat):Int)) Ud Ud (.i (N:Int)) (.i (c:Int)))∧Mat H' mb N R (Jv p c v m k)∧Fx H H' (rowS R N))
  (Q:=fun x E' H'=>x=.exit 4∧E'=(QZ (slR mb N) (.i p) (.i 0) (.i u) (.i (c:Int)) Ud (.i v) (.i (N:Int)) Ud Ud (.i (N:Int)) (.i (c:Int)))∧Mat H' mb N R (Jv p c v m (N-(c+1)))∧Fx H H' (rowS R N)) (N-(c+1))
  (by
   rintro k hk e H' ⟨rfl,hM',hF⟩
   have hi:c+1+k<N:=by omega
   have hok':=S4 (p:=p) (by omega) (c:=c) (v:=v) hok k
   have ei:(Jv p c v m k).getD (c+1+k) []=m.getD (c+1+k) []:=by rw [Jq (by omega),if_neg (by omega)]
   have ec:(Jv p c v m k).getD c []=m.getD c []:=by rw [Jq (by omega),if_neg (by omega)]
   have s1:=QnV (F:=F) 0 mb N p H' c u v (c+1+k) (by omega)
   have g1:=hM'.get hi hc
   rw [ei] at g1
   have hy:=KS hok hi hc
   have s2:=QnX (F:=F) 0 mb N p H' c u v (c+1+k) (R (c+1+k)) ((m.getD (c+1+k) []).getD c 0) (Z6 hi) (hM'.ld hi) (Z7 hc) g1 (KZ (by omega))
   have hfe:(qA.wrap ((m.getD (c+1+k) []).getD c 0*v)).tmod p=VE p c v (m.getD (c+1+k) []):=DP (by omega) hy.1 hy.2 hv.1 hv.2 hp.2
   rw [hfe] at s2
   have hf:0≤VE p c v (m.getD (c+1+k) [])∧VE p c v (m.getD (c+1+k) [])<p:=⟨qF _ (by omega),qG _ (by omega)⟩
   generalize hfd:VE p c v (m.getD (c+1+k) [])=f at *
   have s3:=QnY (F:=F) 0 mb N p H' c u v (c+1+k) f
   obtain ⟨H1,s4,hM1,hF1⟩:=Qok (F:=F) hM' hN (c:=c) (i:=c+1+k) (by omega) hi hp hok' hf u v
   rw [ei,ec] at hM1
   have hms:=DD (p:=p) (c:=c) (v:=v) (m:=m) (k:=k) (by omega)
   rw [hfd] at hms
   rw [hms] at hM1
   have s5:=Qn1 (F:=F) 0 mb N p H1 c u v (c+1+k) (y10:=.i f) (y11:=.i (N:Int))
   rw [show qA.wrap (((c+1+k:Nat):Int)+1)=((c+1+(k+1):Nat):Int) by rw [QI (by omega) (by omega)];omega] at s5
   refine ⟨_,_,sq (s1) (sq (RunsTo.block_normal (i:=5) (c:=sn 7655410 B87) (sq (s2) (sq (s3) (bke (c:=sn 61243283 B87) (s4)) (c:=sn 30621641 B87)) (c:=sn 15310820 B87)) (by kernel_rfl)) (s5) (c:=sn 3827705 B87)) (c:=sn 1913852 B87),?_⟩
   have e1:Qy (plF F) 87 (sn 1913852 B87) ((QZ (slR mb N) (.i p) (.i 0) (.i u) (.i (c:Int)) Ud (.i v) (.i ((c+1+(k+1):Nat):Int)) (.i f) (.i (N:Int)) (.i (N:Int)) (.i (c:Int))))=(QZ (slR mb N) (.i p) (.i 0) (.i u) (.i (c:Int)) Ud (.i v) (.i ((c+1+(k+1):Nat):Int)) Ud Ud (.i (N:Int)) (.i (c:Int))):=by kernel_rfl
   rw [e1,QC _ hF1.ln]
   exact ⟨rfl,hM1,hF.trans hF1⟩)
  (by
   rintro e H' ⟨rfl,hM',hF⟩
   have e1:c+1+(N-(c+1))=N:=by omega
   rw [e1]
   have s1:=QnW (F:=F) 0 mb N p H' c u v N (by omega)
   exact ⟨_,_,_,sqo (s1) (c:=sn 1913852 B87) (b:=sn 3827705 B87),by simp,rfl,rfl,hM',hF⟩)
  (by kernel_rfl) (by rintro k e H' ⟨rfl,_⟩;kernel_rfl) (e:=(QZ (slR mb N) (.i p) (.i 0) (.i u) (.i (c:Int)) Ud (.i v) (.i ((c+1:Nat):Int)) Ud Ud (.i (N:Int)) (.i (c:Int)))) (H:=H) ⟨rfl,by rw [DC];exact hM,Fx.refl ..⟩
 subst hx hE
 rw [← hml,GC (by omega)] at h1
 rw [hml] at h1
 exact ⟨H',r,h1,h2⟩
theorem Qhf (hM:Mat H mb N R m) (hN:N≤1000) {c:Nat} (hc:c<N) (u:Int) :
  RT (plF F) 87 (sn 29900 B87) ((QZ (slR mb N) (.i p) (.i 0) (.i u) (.i (c:Int)) (.i (c:Int)) Ud Ud Ud Ud (.i (N:Int)) (.i (c:Int)))) H (.exit 2) ((QZ (slR mb N) (.i p) (.i 0) (.i u) (.i (c:Int)) (.i ((ZF m c (N-c) c:Nat):Int)) Ud Ud Ud Ud (.i (N:Int)) (.i (c:Int)))) H:=by
 obtain ⟨h1,h2,h3,h4⟩:=Kw m c (N-c) c
 have h:=Q7 (pol':=plF F) (f:=87) (b:=sn 59800 B87) (c:=sn 29900 B87) (E:=fun k=>(QZ (slR mb N) (.i p) (.i 0) (.i u) (.i (c:Int)) (.i ((c+k:Nat):Int)) Ud Ud Ud Ud (.i (N:Int)) (.i (c:Int)))) (Hs:=fun _=>H) (ZF m c (N-c) c-c) (E0:=fun k=>(QZ (slR mb N) (.i p) (.i 0) (.i u) (.i (c:Int)) (.i ((c+(k+1):Nat):Int)) Ud Ud Ud Ud (.i (N:Int)) (.i (c:Int)))) (H1:=fun _=>H) (x:=.exit 2) (E':=(QZ (slR mb N) (.i p) (.i 0) (.i u) (.i (c:Int)) (.i ((ZF m c (N-c) c:Nat):Int)) Ud Ud Ud Ud (.i (N:Int)) (.i (c:Int)))) (H':=H)
  (fun k hk=>by
   have hr:c+k<N:=by omega
   have s:=QnL (F:=F) 0 mb N p H c (c+k) u (R (c+k)) _ (by omega) (Z6 hr) (hM.ld hr) (Z7 hc) (hM.get hr hc) (h3 _ (by omega) (by omega))
   rw [show qA.wrap (((c+k:Nat):Int)+1)=((c+(k+1):Nat):Int) by rw [QI (by omega) (by omega)];omega] at s
   exact s) (fun k _=>by kernel_rfl) (fun k _=>QC _ rfl) (by
   rw [show c+(ZF m c (N-c) c-c)=ZF m c (N-c) c by omega]
   by_cases e:ZF m c (N-c) c<N
   ·exact QnM (F:=F) 0 mb N p H c _ u (R (ZF m c (N-c) c)) _ (by omega) (Z6 e) (hM.ld e) (Z7 hc) (hM.get e hc) (h4 (by omega))
   ·exact QnN (F:=F) 0 mb N p H c _ u 0 0 (by omega)) (by simp) (by kernel_rfl) (fun k _=>by kernel_rfl)
 exact h
end
section
variable {F:FuncId→Option (List HV→Option HV)} {mb N:Nat} {p:Int}
def Zx (p:Int) (a:Int):Int:=pw a (p-2).toNat p
theorem Qe3 (h45:F 45=some Xw) (hp:1<p∧p≤2147483647) {x:Int} (hx:0≤x∧x<p) (H:Heap):∀kf,Qs Tp (plF F) (kf+1) 45 [.int .i64 x,.int .i64 (qA.wrap (p-2)),.int .i64 p] H=some (.int .i64 (Zx p x),H):=by
 rw [WN (by omega) (by omega)]
 exact at3 (pol':=plF F) (g:=45) (c1:=kI) (c2:=kI) (c3:=kI) (f:=fun a n p=>if S3 a n p then some (.int .i64 (pw a n.toNat p)) else none) (H:=H) h45 (ShI _ x) (ShI _ (p-2)) (ShI _ p) (if_pos ⟨hp,hx,by omega,by omega⟩)
theorem Qb7 {N:Nat} {m:List (List Int)} (h:Ws p N m) {i j:Nat} (hi:i<N) (hj:j<N):Ws p N (swpR m i j):=Qe2 h hi hj
theorem S5 (h45:F 45=some Xw) (hp:1<p∧p≤2147483647) (hN:N≤1000) {S:Nat→Prop} (hS:S mb):∀(k c:Nat) (u:Int) (m:List (List Int)) (R:Nat→Nat) (H:Heap),c+k=N→Mat H mb N R m→Ws p N m→(0≤u∧u<p)→(∀i,i<N→S (R i)) →
  ∃x E' H',RT (plF F) 87 (sn 58 B87) ((QZ (slR mb N) (.i p) (.i 0) (.i (u)) Ud Ud Ud Ud Ud Ud (.i (N:Int)) (.i (c:Int)))) H x E' H'∧Ok H'∧Fx H H' S ∧
   ((x=.exit 0∧E'=(QZ (slR mb N) (.i p) (.i 0) (.i (gz p (Zx p) N k c u m)) Ud Ud Ud Ud Ud Ud (.i (N:Int)) (.i (N:Int))))∨(x=.ret∧gz p (Zx p) N k c u m=0∧∃w c' r:Int,E'=(QZ (slR mb N) (.i p) (.i 0) (.i w) (.i c') (.i r) Ud Ud Ud Ud (.i (N:Int)) (.i c'))))
 | 0,c,u,m,R,H,hk,hM,hok,hu,hR=>by
  have:c=N:=by omega
  subst this
  have s1:=QnI (F:=F) 0 mb c p H c u (by omega)
  have s2:=Qg7 (F:=F) 0 mb c p H c u
  rw [gz]
  exact ⟨_,_,_,lpo (sq (s1) (sqo (s2) (c:=sn 233 B87) (b:=sn 467 B87)) (c:=sn 116 B87)),hM.mm,Fx.refl ..,.inl ⟨rfl,rfl⟩⟩
 | k+1,c,u,m,R,H,hk,hM,hok,hu,hR=>by
  have hc:c<N:=by omega
  obtain ⟨f1,f2,f3,f4⟩:=Kw m c (N-c) c
  have s1:=QnH (F:=F) 0 mb N p H c u (by omega)
  have s2:=Qg6 (F:=F) 0 mb N p H c u
  have s3:=QnJ (F:=F) 0 mb N p H c u
  have s4:=QnK (F:=F) 0 mb N p H c u
  have s5:=Qhf (F:=F) (p:=p) hM hN hc u
  rw [gz]
  generalize hr:ZF m c (N-c) c=r at *
  by_cases e1:r=N
  ·rw [if_pos e1]
   have s6:=QnO (F:=F) 0 mb N p H c r u (by omega)
   exact ⟨_,_,_,lpo (sq (s1) (sq (s2) (sqo (RunsTo.block_ret (i:=1) (c:=sn 934 B87) (sq (s3) (sq (s4) (sq (bke (c:=sn 14950 B87) (s5)) (sqo (s6) (c:=sn 14951 B87) (b:=sn 29903 B87)) (c:=sn 7475 B87)) (c:=sn 3737 B87)) (c:=sn 1868 B87)) (by kernel_rfl)) (c:=sn 467 B87) (b:=sn 935 B87)) (c:=sn 233 B87)) (c:=sn 116 B87)),hM.mm,Fx.refl ..,.inr ⟨rfl,rfl,u,c,r,rfl⟩⟩
  rw [if_neg e1]
  have hrN:r<N:=by omega
  have s6:=QnP (F:=F) 0 mb N p H c r u (by omega)
  obtain ⟨H1,R1,s7,hM1,hF1,hR1⟩:∃H1 R1,RT (plF F) 87 (sn 59806 B87) ((QZ (slR mb N) (.i p) (.i 0) (.i (u)) (.i (c:Int)) (.i (r:Int)) Ud Ud Ud Ud (.i (N:Int)) (.i (c:Int)))) H .normal ((QZ (slR mb N) (.i p) (.i 0) (.i (if r=c then u else p-u)) (.i (c:Int)) (.i (r:Int)) Ud Ud Ud Ud (.i (N:Int)) (.i (c:Int)))) H1∧Mat H1 mb N R1 (swpR m r c)∧Fx H H1 S∧∀i,i<N→S (R1 i):=by
   by_cases e2:r=c
   ·have s:=QnQ (F:=F) 0 mb N p H c r u 0 0 (by omega)
    rw [if_pos e2]
    have:swpR m r c=m:=by rw [e2];exact Dz (by rw [hM.ml];exact hc)
    rw [this]
    exact ⟨H,R,s,hM,Fx.refl ..,hR⟩
   ·obtain ⟨H0,H1,g1,g2,g3,g4⟩:=hM.swap hrN hc
    have s:=QnR (F:=F) 0 mb N p H c r u (R r) (R c) (by omega) (Z6 hc) (hM.ld hc) (Z6 hrN) (hM.ld hrN) (Z6 hrN) g1 (Z6 hc) g2
    rw [QI (x:=p-u) (by omega) (by omega)] at s
    rw [if_neg e2]
    refine ⟨H1,_,s,g3,⟨g4.ln,fun b hb=>g4.eq b fun e=>hb (by rw [e];exact hS)⟩,fun i hi=>?_⟩
    show S (R _)
    split
    ·exact hR r hrN
    ·split
     ·exact hR c hc
     ·exact hR i hi
  have hok1:=Qb7 hok hrN hc
  have hu1:0≤(if r=c then u else p-u)∧(if r=c then u else p-u)≤p:=by split <;> omega
  generalize (if r=c then u else p-u)=u1 at *
  generalize swpR m r c=m1 at *
  have hx:=KS hok1 hc hc
  have s8:=QnS (F:=F) 0 mb N p H1 c r u1 (R1 c) ((m1.getD c []).getD c 0) (Z6 hc) (hM1.ld hc) (Z7 hc) (hM1.get hc hc) (KZ (by omega))
  rw [QiL (by omega) hu1.1 hu1.2 hx.1 hx.2 hp.2] at s8
  have hu2:0≤u1*(m1.getD c []).getD c 0%p∧u1*(m1.getD c []).getD c 0%p<p:=⟨qF _ (by omega),qG _ (by omega)⟩
  have s9:=QnT (F:=F) 0 mb N p H1 c r (u1*(m1.getD c []).getD c 0%p) (R1 c) ((m1.getD c []).getD c 0) (Zx p ((m1.getD c []).getD c 0)) (Z6 hc) (hM1.ld hc) (Z7 hc) (hM1.get hc hc) (Qe3 h45 hp hx H1)
  have hv:0≤Zx p ((m1.getD c []).getD c 0)∧Zx p ((m1.getD c []).getD c 0)<p:=⟨qF _ (by omega),qG _ (by omega)⟩
  generalize u1*(m1.getD c []).getD c 0%p=u2 at *
  generalize Zx p ((m1.getD c []).getD c 0)=v at *
  have s10:=QnU (F:=F) 0 mb N p H1 c r u2 v
  rw [show qA.wrap ((c:Int)+1)=((c+1:Nat):Int) by rw [QI (by omega) (by omega)];omega] at s10
  obtain ⟨H2,s11,hM2,hF2⟩:=Qhe (F:=F) hM1 hN hc hp hok1 u2 hv
  have s12:=Qn2 (F:=F) 0 mb N p H2 c u2 (y6:=.i (c:Int)) (y8:=.i v) (y9:=.i (N:Int))
  rw [show qA.wrap ((c:Int)+1)=((c+1:Nat):Int) by rw [QI (by omega) (by omega)];omega] at s12
  have hF3:Fx H1 H2 S:=⟨hF2.ln,fun b hb=>hF2.eq b fun ⟨i,hi,e⟩=>hb (by rw [e];exact hR1 i hi)⟩
  obtain ⟨x,E',H',ih,g1,g2,g3⟩:=S5 h45 hp hN hS k (c+1) u2 (Jo p c v m1) R1 H2 (by omega) hM2 (Cv (by omega) hok1) hu2 hR1
  refine ⟨x,E',H',lop (sq (s1) (sq (s2) (sq (RunsTo.block_normal (i:=1) (c:=sn 934 B87) (sq (s3) (sq (s4) (sq (bke (c:=sn 14950 B87) (s5)) (sq (s6) (sq (s7) (sq (s8) (sq (s9) (sq (s10) (bke (c:=sn 478463 B87) (lpi (e0:=(QZ (slR mb N) (.i p) (.i 0) (.i (u2)) (.i (c:Int)) (.i (r:Int)) (.i v) (.i ((c+1:Nat):Int)) Ud Ud (.i (N:Int)) (.i (c:Int)))) s11 (b:=sn 1913852 B87))) (c:=sn 239231 B87)) (c:=sn 119615 B87)) (c:=sn 59807 B87)) (c:=sn 29903 B87)) (c:=sn 14951 B87)) (c:=sn 7475 B87)) (c:=sn 3737 B87)) (c:=sn 1868 B87)) (by kernel_rfl)) (s12) (c:=sn 467 B87)) (c:=sn 233 B87)) (c:=sn 116 B87)) (QC _ (by rw [hF3.ln,hF1.ln])) ih,g1,(hF1.trans hF3).trans g2,g3⟩
theorem QiM:Try.f87.results.toList=[.tmp 4]:=by kernel_rfl
theorem Qe4 (h87:F 87=none) (h45:F 45=some Xw) (hp:1<p∧p≤2147483647) (hN:N≤1000) {R:Nat→Nat} {m:List (List Int)} {H:Heap} (hM:Mat H mb N R m) (hok:Ws p N m) :
  ∃H',ClF F 87 [slR mb N,.int .i64 p] H (.int .i64 (gz p (Zx p) N N 0 1 m)) H'∧Ok H'∧Fx H H' (fun b=>b=mb∨rowS R N b):=by
 have s1:=QnE (F:=F) 0 mb N p H
 have s2:=QnF (F:=F) 0 mb N p H
 have s3:=QnG (F:=F) 0 mb N p H 1
 obtain ⟨x,E',H',s4,g1,g2,g3⟩:=S5 (F:=F) h45 hp hN (S:=fun b=>b=mb∨rowS R N b) (.inl rfl) N 0 1 m R H (Nat.zero_add N) hM hok (by omega) (fun i hi=>.inr ⟨i,hi,rfl⟩)
 have hgc:∀r,gc H.length r H'=H':=fun r=>QC r g2.ln
 rcases g3 with ⟨rfl,rfl⟩ | ⟨rfl,h0,w,c',r,rfl⟩
 ·have s5:=Qn3 (F:=F) 0 mb N p H' (gz p (Zx p) N N 0 1 m) (y13:=.i (N:Int)) (y14:=.i (N:Int))
  have h:=CallsTo.shared (P:=Tp) (pol:=plF F) (g:=87) (fn:=Try.f87) (cd:=B87) (args:=[slR mb N,.int .i64 p]) (v:=.int .i64 (gz p (Zx p) N N 0 1 m)) h87 (by kernel_rfl) (by kernel_rfl) (by kernel_rfl) (sq (s1) (sq (s2) (sq (sq (s3) (bke (c:=sn 29 B87) (s4)) (c:=sn 14 B87)) (s5) (c:=sn 7 B87)) (c:=sn 3 B87)) (c:=B87)) (by kernel_rfl) (by simp) (by simp only [Qc,QiM];rfl)
  rw [hgc] at h
  exact ⟨H',h,g1,g2⟩
 ·have h:=CallsTo.shared (P:=Tp) (pol:=plF F) (g:=87) (fn:=Try.f87) (cd:=B87) (args:=[slR mb N,.int .i64 p]) (v:=.int .i64 0) h87 (by kernel_rfl) (by kernel_rfl) (by kernel_rfl) (sq (s1) (sq (s2) (sqo (sq (s3) (RunsTo.block_ret (i:=0) (c:=sn 29 B87) (s4) (by kernel_rfl)) (c:=sn 14 B87)) (c:=sn 7 B87) (b:=sn 15 B87)) (c:=sn 3 B87)) (c:=B87)) (by kernel_rfl) (by simp) (by simp only [Qc,QiM];rfl)
  rw [hgc] at h
  rw [h0]
  exact ⟨H',h,g1,g2⟩
end
end Go.Proofs.Ytiejmoglooaalaa
end
section
open Go Go.HL
namespace Go.Proofs.Ytiejmoglooaalaa
set_option maxRecDepth 100000
set_option linter.unusedSectionVars false
open Go.Proofs.Try renaming prog → Tp
open Go.HL.HV renaming undef → Ud
section
variable {F:FuncId→Option (List HV→Option HV)}
noncomputable def B64:Code:=Try.f64.body.getD .skip
abbrev GD (v0 v1 v2:HV):Env:=[(0,v0),(1,v1),(2,v2)]
end
section
variable {F:FuncId→Option (List HV→Option HV)}
variable (x d:Int) (sb ob m:Nat) (z:Int) (H:Heap)
include x d sb ob m z H
theorem Qol {H0:Heap} (g0:LD H 24 (.q sb) (.o ob m)) (g1:IX 24 (.o ob m) (.i x) (.ptr ob ((x).toNat) 0 m)) (g2:LD H 3 (.ptr ob ((x).toNat) 0 m) (.i z)) (g3:z<0) (g4:LD H 24 (.q sb) (.o ob m)) (g5:IX 24 (.o ob m) (.i x) (.ptr ob ((x).toNat) 0 m)) (g6:ST H 3 (.ptr ob ((x).toNat) 0 m) (.i d) H0): RU F 64 1 B64 (GD (.i x) (.i d) (.q sb)) H .normal (GD (.i x) (.i d) (.q sb)) H0 :=
 hx 0 60 [jO 0 0 H g0,jO 0 2 H g1,jO 0 3 H g2,jT 0 4 H g3,jO 1 0 H g4,jO 1 3 H g5,jS 1 4 g6]
theorem Qom {H0:Heap} (g0:LD H 24 (.q sb) (.o ob m)) (g1:IX 24 (.o ob m) (.i x) (.ptr ob ((x).toNat) 0 m)) (g2:LD H 3 (.ptr ob ((x).toNat) 0 m) (.i z)) (g3:¬(z<0)) (g4:LD H 24 (.q sb) (.o ob m)) (g5:IX 24 (.o ob m) (.i x) (.ptr ob ((x).toNat) 0 m)) (g6:LD H 3 (.ptr ob ((x).toNat) 0 m) (.i z)) (g7:d<z) (g8:LD H 24 (.q sb) (.o ob m)) (g9:IX 24 (.o ob m) (.i x) (.ptr ob ((x).toNat) 0 m)) (g10:ST H 3 (.ptr ob ((x).toNat) 0 m) (.i d) H0): RU F 64 1 B64 (GD (.i x) (.i d) (.q sb)) H .normal (GD (.i x) (.i d) (.q sb)) H0 :=
 hx 0 60 [jO 0 0 H g0,jO 0 2 H g1,jO 0 3 H g2,jF 0 4 H g3,jO 0 7 H g4,jO 0 9 H g5,jO 0 10 H g6,jT 0 11 H g7,jO 1 0 H g8,jO 1 3 H g9,jS 1 4 g10]
theorem Qon (g0:LD H 24 (.q sb) (.o ob m)) (g1:IX 24 (.o ob m) (.i x) (.ptr ob ((x).toNat) 0 m)) (g2:LD H 3 (.ptr ob ((x).toNat) 0 m) (.i z)) (g3:¬(z<0)) (g4:LD H 24 (.q sb) (.o ob m)) (g5:IX 24 (.o ob m) (.i x) (.ptr ob ((x).toNat) 0 m)) (g6:LD H 3 (.ptr ob ((x).toNat) 0 m) (.i z)) (g7:¬(d<z)): RU F 64 1 B64 (GD (.i x) (.i d) (.q sb)) H .normal (GD (.i x) (.i d) (.q sb)) H :=
 hx 0 60 [jO 0 0 H g0,jO 0 2 H g1,jO 0 3 H g2,jF 0 4 H g3,jO 0 7 H g4,jO 0 9 H g5,jO 0 10 H g6,jF 0 11 H g7]
end
section
variable {F:FuncId→Option (List HV→Option HV)}
noncomputable def B43:Code:=Try.f43.body.getD .skip
abbrev ZU (v0 v1 v2 v3 v4 v5 v6 v7 v8 v9 v10 v12 v14 v15 v29 v30 v38 v39 v40 v49 v50 v51:HV):Env:=[(0,v0),(1,v1),(2,v2),(3,v3),(4,v4),(5,v5),(6,v6),(7,v7),(8,v8),(9,v9),(10,v10),(12,v12),(14,v14),(15,v15),(29,v29),(30,v30),(38,v38),(39,v39),(40,v40),(49,v49),(50,v50),(51,v51)]
end
abbrev e43 (n:Int) (ls:List HV) (tb:Nat) (k:Nat) (u6 u7 u8 u9 u10 u11 u12 u13 u14 u15 u16 u17 u18 u19 u20 u21:HV):Env:=ZU (.N n ls) (.q 0) (.imm .lit 1 []) .nilmap (.bool false) (.s tb k) u6 u7 u8 u9 u10 u11 u12 u13 u14 u15 u16 u17 u18 u19 u20 u21
section
variable {F:FuncId→Option (List HV→Option HV)}
variable (N:Nat) (n:Int) (ls:List HV)
include N n ls
theorem Qoo:RU F 43 2 B43 [(0,.N n ls)] [] .normal (ZU (.N n ls) (.q 0) (.imm .lit 1 []) .nilmap (.bool false) Ud Ud Ud Ud Ud Ud Ud Ud Ud Ud Ud Ud Ud Ud Ud Ud Ud) [.arr 2 [.N n ls] true 0] :=
 hx N 60 []
end
section
variable {F:FuncId→Option (List HV→Option HV)}
variable (N:Nat) (n:Int) (ls:List HV)
include N n ls
theorem Qop (H:Heap) (tb k:Nat) {H0:Heap} (g0:LD H 66 (.q 0) (.N n ls)) (g1:CM F 40 [.N n ls] H (.tuple [.s tb k,.bool true]) H0) (y5 y6 y7 y8 y9 y10 y12 y14 y15 y29 y30 y38 y39 y40 y49 y50 y51:HV:=Ud): RU F 43 6 B43 (ZU (.N n ls) (.q 0) (.imm .lit 1 []) .nilmap (.bool false) y5 y6 y7 y8 y9 y10 y12 y14 y15 y29 y30 y38 y39 y40 y49 y50 y51) H .normal (e43 n ls tb k (.bool true) y7 y8 y9 y10 y12 y14 y15 y29 y30 y38 y39 y40 y49 y50 y51) H0 :=
 hx N 60 [jO 1 0 H g0,jD 1 1 g1]
theorem Qoq (H:Heap) (tb k:Nat) {H0:Heap} (g0:LD H 66 (.q 0) (.N n ls)) (g1:CM F 40 [.N n ls] H (.tuple [.s tb k,.bool false]) H0) (y5 y6 y7 y8 y9 y10 y12 y14 y15 y29 y30 y38 y39 y40 y49 y50 y51:HV:=Ud): RU F 43 6 B43 (ZU (.N n ls) (.q 0) (.imm .lit 1 []) .nilmap (.bool false) y5 y6 y7 y8 y9 y10 y12 y14 y15 y29 y30 y38 y39 y40 y49 y50 y51) H .normal (e43 n ls tb k (.bool false) y7 y8 y9 y10 y12 y14 y15 y29 y30 y38 y39 y40 y49 y50 y51) H0 :=
 hx N 60 [jO 1 0 H g0,jD 1 1 g1]
theorem Qhg (H:Heap) (tb k:Nat) (y7 y8 y9 y10 y12 y14 y15 y29 y30 y38 y39 y40 y49 y50 y51:HV:=Ud): RU F 43 14 B43 (e43 n ls tb k (.bool true) y7 y8 y9 y10 y12 y14 y15 y29 y30 y38 y39 y40 y49 y50 y51) H .normal (e43 n ls tb k (.bool true) y7 y8 y9 y10 y12 y14 y15 y29 y30 y38 y39 y40 y49 y50 y51) H :=
 hx N 60 []
theorem Qhh (H:Heap) (tb k:Nat) (y7 y8 y9 y10 y12 y14 y15 y29 y30 y38 y39 y40 y49 y50 y51:HV:=Ud): RU F 43 14 B43 (e43 n ls tb k (.bool false) y7 y8 y9 y10 y12 y14 y15 y29 y30 y38 y39 y40 y49 y50 y51) H .ret (e43 n ls tb k (.bool false) y7 y8 y9 y10 y12 y14 y15 y29 y30 y38 y39 y40 y49 y50 y51) H :=
 hx N 60 []
theorem Qor (H:Heap) (tb k:Nat) {a0:HV} {H0:Heap} (g0:some (HV.map H.length,H++[Blk.map [] [] 0])=some (a0,H0)) (y6 y7 y8 y9 y10 y12 y14 y15 y29 y30 y38 y39 y40 y49 y50 y51:HV:=Ud): RU F 43 30 B43 (e43 n ls tb k y6 y7 y8 y9 y10 y12 y14 y15 y29 y30 y38 y39 y40 y49 y50 y51) H .normal (e43 n ls tb k y6 a0 y8 y9 y10 y12 y14 y15 y29 y30 y38 y39 y40 y49 y50 y51) H0 :=
 hx N 60 [jR 4 0 g0]
theorem Qos (H:Heap) (tb k mb ob m:Nat) {H0:Heap} {a0:HV} {H1:Heap} {H2:Heap} (g0:LD H 22 (.ptr 0 0 1 1) (.g ls)) (g1:Va Tp false 24 (.i (ls.length:Int)) (.i (ls.length:Int)) H=some (.o ob m,H0)) (g2:some (HV.ptr H0.length 0 0 1,H0++[Blk.arr 1 [HV.sl (H0.length+1) 0 0 none 0 1] true (H0.length+2),Blk.b []])=some (a0,H1)) (g3:ST H1 24 (a0) (.o ob m) H2) (y6 y8 y9 y10 y12 y14 y15 y29 y30 y38 y39 y40 y49 y50 y51:HV:=Ud): RU F 43 62 B43 (e43 n ls tb k y6 (.map mb) y8 y9 y10 y12 y14 y15 y29 y30 y38 y39 y40 y49 y50 y51) H .normal (e43 n ls tb k y6 (.map mb) a0 y9 y10 y12 y14 y15 y29 y30 y38 y39 y40 y49 y50 y51) H2 :=
 hx N 60 [jO 5 1 H g0,jR 5 3 g1,jR 5 4 g2,jS 5 5 g3]
theorem Qot (H:Heap) (tb k mb sb ob m:Nat) (g0:LD H 24 (.q sb) (.o ob m)) (y6 y9 y10 y12 y14 y15 y29 y30 y38 y39 y40 y49 y50 y51:HV:=Ud): RU F 43 252 B43 (e43 n ls tb k y6 (.map mb) (.q sb) y9 y10 y12 y14 y15 y29 y30 y38 y39 y40 y49 y50 y51) H .normal (e43 n ls tb k y6 (.map mb) (.q sb) y9 y10 y12 y14 y15 (.n m) (.i 0) y38 y39 y40 y49 y50 y51) H :=
 hx N 60 [jO 6 0 H g0]
theorem Qou (H:Heap) (tb k mb sb ob m j:Nat) {H0:Heap} (g0:(j:Int)<(m:Int)) (g1:LD H 24 (.q sb) (.o ob m)) (g2:IO 24 ob m j) (g3:ST H 3 (.ptr ob j 0 m) (.i (-1)) H0) (y6 y9 y10 y12 y14 y15 y38 y39 y40 y49 y50 y51:HV:=Ud): RU F 43 1012 B43 (e43 n ls tb k y6 (.map mb) (.q sb) y9 y10 y12 y14 y15 (.n m) (.n j) y38 y39 y40 y49 y50 y51) H .normal (e43 n ls tb k y6 (.map mb) (.q sb) (.n j) y10 y12 y14 y15 (.n m) (.i (qA.wrap ((j:Int)+1))) y38 y39 y40 y49 y50 y51) H0 :=
 hx N 60 [jT 7 0 H g0,jO 9 0 H g1,jO 9 2 H g2,jS 9 3 g3]
theorem Qov (H:Heap) (tb k mb sb ob m j:Nat) (g0:¬((j:Int)<(m:Int))) (y6 y9 y10 y12 y14 y15 y38 y39 y40 y49 y50 y51:HV:=Ud): RU F 43 1012 B43 (e43 n ls tb k y6 (.map mb) (.q sb) y9 y10 y12 y14 y15 (.n m) (.n j) y38 y39 y40 y49 y50 y51) H (.exit 0) (e43 n ls tb k y6 (.map mb) (.q sb) y9 y10 y12 y14 y15 (.n m) (.n j) y38 y39 y40 y49 y50 y51) H :=
 hx N 60 [jF 7 0 H g0]
theorem Qow (H:Heap) (tb k mb sb:Nat) (y6 y9 y10 y12 y14 y15 y29 y30 y38 y39 y40 y49 y50 y51:HV:=Ud): RU F 43 254 B43 (e43 n ls tb k y6 (.map mb) (.q sb) y9 y10 y12 y14 y15 y29 y30 y38 y39 y40 y49 y50 y51) H .normal (e43 n ls tb k y6 (.map mb) (.q sb) y9 (.func 64 [] [.q sb]) y12 y14 y15 y29 y30 y38 y39 y40 y49 y50 y51) H :=
 hx N 60 []
theorem Qox (H:Heap) (tb k mb sb:Nat) (y6 y9 y12 y14 y15 y29 y30 y38 y39 y40 y49 y50 y51:HV:=Ud): RU F 43 1020 B43 (e43 n ls tb k y6 (.map mb) (.q sb) y9 (.func 64 [] [.q sb]) y12 y14 y15 y29 y30 y38 y39 y40 y49 y50 y51) H .normal (e43 n ls tb k y6 (.map mb) (.q sb) y9 (.func 64 [] [.q sb]) y12 y14 y15 y29 y30 (.s tb k) (.n k) (.i 0) y49 y50 y51) H :=
 hx N 60 []
theorem Qoy (H:Heap) (tb k mb sb i:Nat) (g0:(i:Int)<(k:Int)) (y6 y9 y12 y14 y15 y29 y30 y49 y50 y51:HV:=Ud): RunsTo Tp (plF F) 43 (sn 8168 B43) (e43 n ls tb k y6 (.map mb) (.q sb) y9 (.func 64 [] [.q sb]) y12 y14 y15 y29 y30 (.s tb k) (.n k) (.n i) y49 y50 y51) H .normal [0,1,2,3,4,5,6,7,8,9,10,12,14,15,29,30,38,39,40,49,50,51,41] [(0,.N n ls),(1,.q 0),(2,.imm .lit 1 []),(3,.nilmap),(4,.bool false),(5,.s tb k),(6,y6),(7,.map mb),(8,.q sb),(9,y9),(10,.func 64 [] [.q sb]),(12,y12),(14,y14),(15,y15),(29,y29),(30,y30),(38,.s tb k),(39,.n k),(40,.n i),(49,y49),(50,y50),(51,y51),(41,.bool true)] H :=
 hx N 60 [jT 13 0 H g0]
theorem Qoz (H:Heap) (tb k mb sb i:Nat) (g0:¬((i:Int)<(k:Int))) (y6 y9 y12 y14 y15 y29 y30 y49 y50 y51:HV:=Ud): RunsTo Tp (plF F) 43 (sn 8168 B43) (e43 n ls tb k y6 (.map mb) (.q sb) y9 (.func 64 [] [.q sb]) y12 y14 y15 y29 y30 (.s tb k) (.n k) (.n i) y49 y50 y51) H .normal [0,1,2,3,4,5,6,7,8,9,10,12,14,15,29,30,38,39,40,49,50,51,41] [(0,.N n ls),(1,.q 0),(2,.imm .lit 1 []),(3,.nilmap),(4,.bool false),(5,.s tb k),(6,y6),(7,.map mb),(8,.q sb),(9,y9),(10,.func 64 [] [.q sb]),(12,y12),(14,y14),(15,y15),(29,y29),(30,y30),(38,.s tb k),(39,.n k),(40,.n i),(49,y49),(50,y50),(51,y51),(41,.bool false)] H :=
 hx N 60 [jF 13 0 H g0]
theorem Qhi (H:Heap) (tb k mb sb i:Nat) (y6 y9 y12 y14 y15 y29 y30 y49 y50 y51:HV:=Ud): RU F 43 16338 B43 [(0,.N n ls),(1,.q 0),(2,.imm .lit 1 []),(3,.nilmap),(4,.bool false),(5,.s tb k),(6,y6),(7,.map mb),(8,.q sb),(9,y9),(10,.func 64 [] [.q sb]),(12,y12),(14,y14),(15,y15),(29,y29),(30,y30),(38,.s tb k),(39,.n k),(40,.n i),(49,y49),(50,y50),(51,y51),(41,.bool true)] H .normal (e43 n ls tb k y6 (.map mb) (.q sb) y9 (.func 64 [] [.q sb]) y12 y14 y15 y29 y30 (.s tb k) (.n k) (.n i) y49 y50 y51) H :=
 hx N 60 []
theorem Qhj (H:Heap) (tb k mb sb i:Nat) (y6 y9 y12 y14 y15 y29 y30 y49 y50 y51:HV:=Ud): RU F 43 16338 B43 [(0,.N n ls),(1,.q 0),(2,.imm .lit 1 []),(3,.nilmap),(4,.bool false),(5,.s tb k),(6,y6),(7,.map mb),(8,.q sb),(9,y9),(10,.func 64 [] [.q sb]),(12,y12),(14,y14),(15,y15),(29,y29),(30,y30),(38,.s tb k),(39,.n k),(40,.n i),(49,y49),(50,y50),(51,y51),(41,.bool false)] H (.exit 2) (e43 n ls tb k y6 (.map mb) (.q sb) y9 (.func 64 [] [.q sb]) y12 y14 y15 y29 y30 (.s tb k) (.n k) (.n i) y49 y50 y51) H :=
 hx N 60 []
theorem QoA (H:Heap) (tb k mb sb i:Nat) (x:Int) (g0:IS 24 tb k i) (g1:LD H 3 (.ptr tb i 0 k) (.i x)) (y6 y9 y12 y14 y15 y29 y30 y49 y50 y51:HV:=Ud): RU F 43 130712 B43 (e43 n ls tb k y6 (.map mb) (.q sb) y9 (.func 64 [] [.q sb]) y12 y14 y15 y29 y30 (.s tb k) (.n k) (.n i) y49 y50 y51) H .normal (e43 n ls tb k y6 (.map mb) (.q sb) y9 (.func 64 [] [.q sb]) (.i x) y14 y15 y29 y30 (.s tb k) (.n k) (.n i) y49 y50 y51) H :=
 hx N 60 [jO 14 0 H g0,jO 14 1 H g1]
theorem QoB (H:Heap) (tb k mb sb i:Nat) (x:Int) {H0:Heap} (g0:GL Tp false 72 (.map mb) (.i x) (.bool true) H=some H0) (y6 y9 y14 y15 y29 y30 y49 y50 y51:HV:=Ud): RU F 43 261426 B43 (e43 n ls tb k y6 (.map mb) (.q sb) y9 (.func 64 [] [.q sb]) (.i x) y14 y15 y29 y30 (.s tb k) (.n k) (.n i) y49 y50 y51) H .normal (e43 n ls tb k y6 (.map mb) (.q sb) y9 (.func 64 [] [.q sb]) (.i x) y14 y15 y29 y30 (.s tb k) (.n k) (.n i) y49 y50 y51) H0 :=
 hx N 60 [jS 15 2 g0]
theorem QoC (H:Heap) (tb k mb sb i ib c:Nat) (x:Int) {H0:Heap} (g0:LD H 66 (.q 0) (.N n ls)) (g1:CM F 59 [.N n ls,.s tb k,.i x] H (.s ib c) H0) (y6 y9 y14 y15 y29 y30 y49 y50 y51:HV:=Ud): RU F 43 522854 B43 (e43 n ls tb k y6 (.map mb) (.q sb) y9 (.func 64 [] [.q sb]) (.i x) y14 y15 y29 y30 (.s tb k) (.n k) (.n i) y49 y50 y51) H .normal (e43 n ls tb k y6 (.map mb) (.q sb) y9 (.func 64 [] [.q sb]) (.i x) y14 y15 y29 y30 (.s tb k) (.n k) (.n i) (.s ib c) (.n c) (.i 0)) H0 :=
 hx N 60 [jO 16 0 H g0,jD 16 3 g1]
theorem QoD (H:Heap) (tb k mb sb i ib c j:Nat) (x y a b w a2 b2 w2:Int) {H0:Heap} {H1:Heap} (g0:(j:Int)<(c:Int)) (g1:IS 24 ib c j) (g2:LD H 3 (.ptr ib j 0 c) (.i y)) (g3:LD H 22 (.ptr 0 0 1 1) (.g ls)) (g4:IX 22 (.g ls) (.i y) (.vptr (.agg [.i a,.i b,.i w]))) (g5:LD H 22 (.ptr 0 0 1 1) (.g ls)) (g6:IX 22 (.g ls) (.i x) (.vptr (.agg [.i a2,.i b2,.i w2]))) (g7:CN F N 64 [.i x,.i (qA.wrap (w-w2)),.q sb] H (.tuple []) H0) (g8:CN F N 64 [.i y,.i (qA.wrap (w-w2)),.q sb] H0 (.tuple []) H1) (y6 y9 y14 y15 y29 y30:HV:=Ud): RU F 43 2091420 B43 (e43 n ls tb k y6 (.map mb) (.q sb) y9 (.func 64 [] [.q sb]) (.i x) y14 y15 y29 y30 (.s tb k) (.n k) (.n i) (.s ib c) (.n c) (.n j)) H .normal (e43 n ls tb k y6 (.map mb) (.q sb) y9 (.func 64 [] [.q sb]) (.i x) (.i y) (.i (qA.wrap (w-w2))) y29 y30 (.s tb k) (.n k) (.n i) (.s ib c) (.n c) (.i (qA.wrap ((j:Int)+1)))) H1 :=
 hx N 60 [jT 17 0 H g0,jO 18 0 H g1,jO 18 1 H g2,jO 19 1 H g3,jO 19 3 H g4,jO 19 7 H g5,jO 19 9 H g6,jC 20 3 g7,jC 21 3 g8]
theorem QoE (H:Heap) (tb k mb sb i ib c j:Nat) (x y a b w a2 b2 w2:Int) (g0:¬((j:Int)<(c:Int))) (y6 y9 y14 y15 y29 y30:HV:=Ud): RU F 43 2091420 B43 (e43 n ls tb k y6 (.map mb) (.q sb) y9 (.func 64 [] [.q sb]) (.i x) y14 y15 y29 y30 (.s tb k) (.n k) (.n i) (.s ib c) (.n c) (.n j)) H (.exit 4) (e43 n ls tb k y6 (.map mb) (.q sb) y9 (.func 64 [] [.q sb]) (.i x) y14 y15 y29 y30 (.s tb k) (.n k) (.n i) (.s ib c) (.n c) (.n j)) H :=
 hx N 60 [jF 17 0 H g0]
theorem QoF (H:Heap) (tb k mb sb i:Nat) (y6 y9 y12 y14 y15 y29 y30 y49 y50 y51:HV:=Ud): RU F 43 32679 B43 (e43 n ls tb k y6 (.map mb) (.q sb) y9 (.func 64 [] [.q sb]) y12 y14 y15 y29 y30 (.s tb k) (.n k) (.n i) y49 y50 y51) H .normal (e43 n ls tb k y6 (.map mb) (.q sb) y9 (.func 64 [] [.q sb]) y12 y14 y15 y29 y30 (.s tb k) (.n k) (.i (qA.wrap ((i:Int)+1))) y49 y50 y51) H :=
 hx N 60 []
theorem QoG (H:Heap) (tb k mb sb ob m:Nat) (g0:LD H 24 (.q sb) (.o ob m)) (y6 y9 y12 y14 y15 y29 y30 y38 y39 y40 y49 y50 y51:HV:=Ud): RU F 43 511 B43 (e43 n ls tb k y6 (.map mb) (.q sb) y9 (.func 64 [] [.q sb]) y12 y14 y15 y29 y30 y38 y39 y40 y49 y50 y51) H .ret (ZU (.N n ls) (.q 0) (.o ob m) (.map mb) (.bool true) (.s tb k) y6 (.map mb) (.q sb) y9 (.func 64 [] [.q sb]) y12 y14 y15 y29 y30 y38 y39 y40 y49 y50 y51) H :=
 hx N 60 [jO 24 0 H g0]
end
end Go.Proofs.Ytiejmoglooaalaa
end
section
open Go Go.HL
namespace Go.Proofs.Ytiejmoglooaalaa
set_option linter.unusedSectionVars false
open Go.Proofs.Try renaming prog → Tp
open Go.HL.HV renaming undef → Ud
def lwT (O:List Int) (k d:Int):List Int:=if O.getD k.toNat 0<0∨d<O.getD k.toNat 0 then O.set k.toNat d else O
theorem Cw (O:List Int) (k d:Int):(lwT O k d).length=O.length:=by unfold lwT;split <;> simp
theorem u72:Tp.underlying 72=some (.map 3 4):=by kernel_rfl
theorem Qhk (x:Int):K8 Tp 3 (.int .i64 x)=true:=by kernel_rfl
theorem JS (x:Int):∀(ks:List Int) (i:Nat),x∉ks→Wm (.int .i64 x) (ks.map Qb) i=some none
 | [],_,_=>rfl
 | y::ks,i,h=>by
  have h1:x≠y:=fun c=>h (c▸zS ..)
  simp only [qM,Wm,Qb,WI,Jg,if_true,decide_eq_false h1]
  exact JS x ks (i+1) fun c=>h (zT _ c)
section
variable {F:FuncId→Option (List HV→Option HV)}
theorem Qb8 (h64:F 64=none) {H:Heap} {sb ob m mx:Nat} {O:List Int} (hs:H[sb]?=some (.arr 1 [.sl ob 0 m (some m) m 1] true mx)) (ho:H[ob]?=some (bI O)) (hm:O.length=m) {k:Int} (hk:0≤k∧k<(m:Int)) (d:Int):ClF F 64 [.int .i64 k,.int .i64 d,.ptr sb 0 0 1] H (.tuple []) (H.set ob (bI (lwT O k d))):=by
 have hr:Try.f64.results.toList=[]:=by kernel_rfl
 have l0:QK Tp H 24 (.ptr sb 0 0 1)=some (.sl ob 0 m (some m) m 1):=WV (b:=sb) hs rfl rfl rfl a24 i24
 have ix:=QrP (b:=ob) (n:=m) (v:=k) hk (cap:=some m)
 have ld:=QR ho (y:=k.toNat) (by omega)
 have st:=Kn ho (y:=k.toNat) (by omega) d
 rw [hm] at ld st
 by_cases c1:O.getD k.toNat 0<0
 ·have h:=CallsTo.shared (P:=Tp) (pol:=plF F) (g:=64) (fn:=Try.f64) (cd:=B64) (args:=[.int .i64 k,.int .i64 d,.ptr sb 0 0 1]) (v:=.tuple []) h64 (by kernel_rfl) (by kernel_rfl) (by kernel_rfl) (Qol (F:=F) k d sb ob m _ H l0 ix ld c1 l0 ix st) (by kernel_rfl) (by simp) (by simp only [Qc,hr];rfl)
  rw [QC _ (by simp)] at h
  rw [lwT,if_pos (.inl c1)];exact h
 by_cases c2:d<O.getD k.toNat 0
 ·have h:=CallsTo.shared (P:=Tp) (pol:=plF F) (g:=64) (fn:=Try.f64) (cd:=B64) (args:=[.int .i64 k,.int .i64 d,.ptr sb 0 0 1]) (v:=.tuple []) h64 (by kernel_rfl) (by kernel_rfl) (by kernel_rfl) (Qom (F:=F) k d sb ob m _ H l0 ix ld c1 l0 ix ld c2 l0 ix st) (by kernel_rfl) (by simp) (by simp only [Qc,hr];rfl)
  rw [QC _ (by simp)] at h
  rw [lwT,if_pos (.inr c2)];exact h
 ·have h:=CallsTo.shared (P:=Tp) (pol:=plF F) (g:=64) (fn:=Try.f64) (cd:=B64) (args:=[.int .i64 k,.int .i64 d,.ptr sb 0 0 1]) (v:=.tuple []) h64 (by kernel_rfl) (by kernel_rfl) (by kernel_rfl) (Qon (F:=F) k d sb ob m _ H l0 ix ld c1 l0 ix ld c2) (by kernel_rfl) (by simp) (by simp only [Qc,hr];rfl)
  rw [QC _ rfl] at h
  rw [lwT,if_neg (fun h=>h.elim c1 c2),U5 ho];exact h
end
def inS (l:List St) (x:Int) (O:List Int) (y:Int):List Int:=lwT (lwT O x (wOf l y-wOf l x)) y (wOf l y-wOf l x)
theorem Cx (l:List St) (x:Int) (O:List Int) (y:Int):(inS l x O y).length=O.length:=by rw [inS,Cw,Cw]
def inF (l:List St) (x:Int) (O ys:List Int):List Int:=ys.foldl (inS l x) O
theorem X5 (l:List St) (x:Int):∀(ys O:List Int),(inF l x O ys).length=O.length
 | [],_=>rfl
 | y::ys,O=>by rw [inF,List.foldl_cons];exact (X5 l x ys _).trans (Cx ..)
theorem Qe5 (l:List St) (x:Int) (O ys:List Int) {j:Nat} (h:j<ys.length):inF l x O (ys.take (j+1))=inS l x (inF l x O (ys.take j)) (ys.getD j 0):=by
 rw [inF,Q5 h,zZ];rfl
def ouF (l:List St) (t O ks:List Int):List Int:=ks.foldl (fun O k=>inF l k O (Q0 l t k l.length)) O
theorem Y9 (l:List St) (t:List Int):∀(ks O:List Int),(ouF l t O ks).length=O.length
 | [],_=>rfl
 | k::ks,O=>by rw [ouF,List.foldl_cons];exact (Y9 l t ks _).trans (X5 ..)
theorem Qe6 (l:List St) (t O ks:List Int) {j:Nat} (h:j<ks.length):ouF l t O (ks.take (j+1))=inF l (ks.getD j 0) (ouF l t O (ks.take j)) (Q0 l t (ks.getD j 0) l.length):=by
 rw [ouF,Q5 h,zZ];rfl
def slT (l:List St):List Int:=ouF l (Qd l) (qB l.length (-1)) (Qd l)
def bM (M:List Int):Blk:=.map (M.map Qb) (M.map fun _=>HV.bool true) 0
abbrev bL (m:Nat):Blk:=.arr 1 [.sl 3 0 m (some m) m 1] true 6
abbrev hS (n:Int) (l:List St) (T M O:List Int):Heap:=[bN n l,bI T,bM M,bI O,bL l.length,bI []]
def Qb9:List HV→Option HV:=f1 kN fun p=>if Wh p.1 p.2=true then some (if WJ p.1 p.2=true then .tuple [.own 1 ((slT p.2).map Qb),.omap ((Qd p.2).map Qb) ((Qd p.2).map fun _=>HV.bool true),.bool true] else .tuple [.own 1 [],.nilmap,.bool false]) else none
theorem QiN:Try.f43.results.toList=[.tmp 2,.tmp 3,.tmp 4]:=by kernel_rfl
def W4:FuncId→Option (List HV→Option HV):=fun g=>if g==40 then some Yl else if g==59 then some Gp else none
theorem Qhl (n:Nat):Ql Tp (Qs Tp (plF W4) n):=Qz _ (fun g f h=>by
 unfold W4 at h
 split at h
 ·rename_i hg;cases h;rw [eq_of_beq hg];exact XS
 split at h
 ·rename_i hg;cases h;rw [eq_of_beq hg];exact QaX
 ·cases h) n
theorem Qa6 (l:List St):(Qd l).Nodup:=by
 have:=Z1 l (Qg l) (Qg l).length (qE _)
 rw [qV] at this
 exact this.nodup (KM l)
theorem Qa7 {l:List Int} (h:l.Nodup) {i:Nat} (hi:i<l.length):l.getD i 0∉l.take i:=by
 intro c
 have h2:(l.take (i+1)).Nodup:=(List.take_sublist _ _).nodup h
 rw [Q5 hi] at h2
 exact (List.nodup_append.1 h2).2.2 _ c _ (List.mem_singleton_self _) rfl
theorem Qe7 {n:Int} {l:List St} (hnet:Wh n l=true) {T O:List Int} (hT:T=Qd l) (hO:O.length=l.length) {i:Nat} (hi:i<T.length) :
  ∃E0 H1,RT (plF W4) 43 (sn 4084 B43) ((ZU (Qt n l) (.q 0) (.imm .lit 1 []) .nilmap (.bool false) (.s 1 T.length) Ud (.map 2) (.q 4) Ud (.func 64 [] [.q 4]) Ud Ud Ud Ud Ud (.s 1 T.length) (.i (T.length:Int)) (.i (i:Int)) Ud Ud Ud)) (hS n l T (T.take i) O) .normal E0 H1∧Qy (plF W4) 43 (sn 4084 B43) E0=(ZU (Qt n l) (.q 0) (.imm .lit 1 []) .nilmap (.bool false) (.s 1 T.length) Ud (.map 2) (.q 4) Ud (.func 64 [] [.q 4]) Ud Ud Ud Ud Ud (.s 1 T.length) (.i (T.length:Int)) (.i ((i+1:Nat):Int)) Ud Ud Ud)∧gc 6 (Wc ((ZU (Qt n l) (.q 0) (.imm .lit 1 []) .nilmap (.bool false) (.s 1 T.length) Ud (.map 2) (.q 4) Ud (.func 64 [] [.q 4]) Ud Ud Ud Ud Ud (.s 1 T.length) (.i (T.length:Int)) (.i ((i+1:Nat):Int)) Ud Ud Ud))) H1=hS n l T (T.take (i+1)) (inF l (T.getD i 0) O (Q0 l T (T.getD i 0) l.length)):=by
 obtain ⟨⟨n1,n2⟩,n3,he,hw⟩:=Qx hnet
 have heB:=Vy he (by omega)
 have hTin:∀x∈T,0≤x∧x<(l.length:Int):=fun x hx=>WG (by rw [← hT];exact hx)
 have hTn:T.Nodup:=by rw [hT];exact Qa6 l
 have hTl:T.length≤l.length:=by rw [hT,← Yn];exact Ym l
 have hx:=hTin _ (Qo 0 hi)
 have hwt:∀k:Int,0≤k∧k<(l.length:Int)→0≤wOf l k∧wOf l k≤1000:=fun k hk=>hw _ (Qo _ (by omega))
 have s1:=Qoy (F:=W4) 0 n (l.map Qa) (hS n l T (T.take i) O) 1 T.length 2 4 i (by omega)
 have s2:=Qhi (F:=W4) 0 n (l.map Qa) (hS n l T (T.take i) O) 1 T.length 2 4 i
 have s3:=QoA (F:=W4) 0 n (l.map Qa) (hS n l T (T.take i) O) 1 T.length 2 4 i (T.getD i 0) (ZT u24 z3 hi) (QR (H:=hS n l T (T.take i) O) (k:=1) rfl hi)
 have s4u:GL Tp false 72 (.map 2) (.int .i64 (T.getD i 0)) (.bool true) (hS n l T (T.take i) O)=some (hS n l T (T.take (i+1)) O):=by
  have hk:=Qhk (T.getD i 0)
  have hf:=JS (T.getD i 0) (T.take i) 0 (Qa7 hTn hi)
  have hg:(hS n l T (T.take i) O)[2]?=some (.map ((T.take i).map Qb) ((T.take i).map fun _=>HV.bool true) 0):=rfl
  have ha:(WT (cellsOf (HV.int .i64 (T.getD i 0))) (cellsOf (HV.int .i64 (T.getD i 0)))).isSome=true:=rfl
  simp only [GL,u72,hk,if_true,Bool.false_eq_true,if_false,hg,hf,ha]
  rw [Q5 hi]
  simp only [hS,bM,zC]
  rfl
 have s4:=QoB (F:=W4) 0 n (l.map Qa) (hS n l T (T.take i) O) 1 T.length 2 4 i (T.getD i 0) s4u
 have c59:=at3 (pol':=plF W4) (g:=59) (c1:=kN) (c2:=kL) (c3:=kI) (f:=fun p t o=>if (Jm p.2=true∧p.2.length≤500)∧inR p.2.length t=true∧t≠[]∧t.length≤500 then some (.own 1 ((Q0 p.2 t o p.2.length).map Qb)) else none) (H:=hS n l T (T.take (i+1)) O) (by kernel_rfl) (ShN _ n l) (Zo (b:=1) (l:=T) rfl rfl) (ShI _ (T.getD i 0)) (if_pos ⟨⟨heB,by show l.length≤500;omega⟩,inR_iff.2 hTin,fun h=>by rw [h] at hi;simp at hi,by omega⟩)
 rw [Wz] at c59
 have s5:=QoC (F:=W4) 0 n (l.map Qa) (hS n l T (T.take (i+1)) O) 1 T.length 2 4 i 6 (Q0 l T (T.getD i 0) l.length).length (T.getD i 0) (KL rfl) c59
 have hYin:∀y∈Q0 l T (T.getD i 0) l.length,0≤y∧y<(l.length:Int):=fun y hy=>startT_mem.1 (List.mem_filter.1 hy).1
 have hYl:=QbR l T (T.getD i 0) l.length
 generalize Q0 l T (T.getD i 0) l.length=Y at *
 have hfl:∀j,(inF l (T.getD i 0) O (Y.take j)).length=l.length:=fun j=>(X5 ..).trans hO
 have r:=Q7 (pol':=plF W4) (f:=43) (E:=fun j=>(ZU (Qt n l) (.q 0) (.imm .lit 1 []) .nilmap (.bool false) (.s 1 T.length) Ud (.map 2) (.q 4) Ud (.func 64 [] [.q 4]) (.i (T.getD i 0)) Ud Ud Ud Ud (.s 1 T.length) (.i (T.length:Int)) (.i (i:Int)) (.s 6 Y.length) (.i (Y.length:Int)) (.i (j:Int)))) (Hs:=fun j=>hS n l T (T.take (i+1)) (inF l (T.getD i 0) O (Y.take j))++[bI Y]) Y.length
  (E0:=fun j=>(ZU (Qt n l) (.q 0) (.imm .lit 1 []) .nilmap (.bool false) (.s 1 T.length) Ud (.map 2) (.q 4) Ud (.func 64 [] [.q 4]) (.i (T.getD i 0)) (.i (Y.getD j 0)) (.i (wOf l (Y.getD j 0)-wOf l (T.getD i 0))) Ud Ud (.s 1 T.length) (.i (T.length:Int)) (.i (i:Int)) (.s 6 Y.length) (.i (Y.length:Int)) (.i ((j+1:Nat):Int)))) (H1:=fun j=>hS n l T (T.take (i+1)) (inF l (T.getD i 0) O (Y.take (j+1)))++[bI Y])
  (fun j hj=>by
   have hy:=hYin _ (Qo 0 hj)
   have w1:=hwt _ hx
   have w2:=hwt _ hy
   have gy:=gs (l:=l) (y:=(Y.getD j 0).toNat) (by omega)
   have gxx:=gs (l:=l) (y:=(T.getD i 0).toNat) (by omega)
   rw [show (((Y.getD j 0).toNat:Nat):Int)=Y.getD j 0 by omega] at gy
   rw [show (((T.getD i 0).toNat:Nat):Int)=T.getD i 0 by omega] at gxx
   have hsucc:=Qe5 l (T.getD i 0) O Y hj
   have hOl:=hfl j
   generalize inF l (T.getD i 0) O (Y.take j)=Oj at *
   have hwr:qA.wrap ((l.getD (Y.getD j 0).toNat (0,0,0)).2.2-(l.getD (T.getD i 0).toNat (0,0,0)).2.2)=wOf l (Y.getD j 0)-wOf l (T.getD i 0):=WN (by show _≤wOf l (Y.getD j 0)-wOf l (T.getD i 0);omega) (by show wOf l (Y.getD j 0)-wOf l (T.getD i 0)<_;omega)
   obtain ⟨N1,k1⟩:=CallsTo.from (Qb8 (F:=W4) (by kernel_rfl) (H:=hS n l T (T.take (i+1)) Oj++[bI Y]) (sb:=4) (ob:=3) (mx:=6) rfl rfl hOl hx (wOf l (Y.getD j 0)-wOf l (T.getD i 0)))
   obtain ⟨N2,k2⟩:=CallsTo.from (Qb8 (F:=W4) (by kernel_rfl) (H:=hS n l T (T.take (i+1)) (lwT Oj (T.getD i 0) (wOf l (Y.getD j 0)-wOf l (T.getD i 0)))++[bI Y]) (sb:=4) (ob:=3) (mx:=6) rfl rfl (by rw [Cw];exact hOl) hy (wOf l (Y.getD j 0)-wOf l (T.getD i 0)))
   have s:=QoD (F:=W4) (max N1 N2) n (l.map Qa) (hS n l T (T.take (i+1)) Oj++[bI Y]) 1 T.length 2 4 i 6 Y.length j (T.getD i 0) (Y.getD j 0) _ _ _ _ _ _ (by omega) (ZT u24 z3 hj) (QR (H:=hS n l T (T.take (i+1)) Oj++[bI Y]) (k:=6) rfl hj) (J6 (xb:=0) rfl) gy (J6 (xb:=0) rfl) gxx (fun kf hk=>by rw [hwr];exact k1 kf (by omega)) (fun kf hk=>by rw [hwr];exact k2 kf (by omega))
   rw [hwr,Qj (by omega)] at s
   rw [hsucc]
   exact s) (fun j _=>by kernel_rfl) (fun j _=>QC _ rfl) (QoE (F:=W4) 0 n (l.map Qa) (hS n l T (T.take (i+1)) (inF l (T.getD i 0) O (Y.take Y.length))++[bI Y]) 1 T.length 2 4 i 6 Y.length Y.length (T.getD i 0) 0 0 0 0 0 0 0 (by omega)) (by simp) (c:=sn 1045710 B43) (by kernel_rfl) (fun j _=>by kernel_rfl)
 rw [qV] at r
 have s7:=QoF (F:=W4) 0 n (l.map Qa) (hS n l T (T.take (i+1)) (inF l (T.getD i 0) O Y)++[bI Y]) 1 T.length 2 4 i (y12:=.i (T.getD i 0)) (y49:=.s 6 Y.length) (y50:=.i (Y.length:Int)) (y51:=.i (Y.length:Int))
 rw [Qj (by omega)] at s7
 refine ⟨_,_,sq (s1) (sq (s2) (sq (RunsTo.block_normal (i:=3) (c:=sn 32678 B43) (sq (s3) (sq (s4) (sq (s5) (bke (c:=sn 522855 B43) (r)) (c:=sn 261427 B43)) (c:=sn 130713 B43)) (c:=sn 65356 B43)) (by kernel_rfl)) (s7) (c:=sn 16339 B43)) (c:=sn 8169 B43)) (c:=sn 4084 B43),by kernel_rfl,?_⟩
 have hb:Wc ((ZU (Qt n l) (.q 0) (.imm .lit 1 []) .nilmap (.bool false) (.s 1 T.length) Ud (.map 2) (.q 4) Ud (.func 64 [] [.q 4]) Ud Ud Ud Ud Ud (.s 1 T.length) (.i (T.length:Int)) (.i ((i+1:Nat):Int)) Ud Ud Ud))=5:=by simp only [Wc,bnd,bndL,Qt];rfl
 rw [hb]
 exact VX (H:=hS n l T (T.take (i+1)) (inF l (T.getD i 0) O Y)) (by show max 0 (max 0 (max 0 (max 0 (max 6 (max 0 (max 0 0))))))≤6;decide) (by show 5≤6;decide)
theorem Qa8 (H:Heap):WS H false (.tuple [.imm .lit 1 [],.nilmap,.bool false])=some (.tuple [.own 1 [],.nilmap,.bool false]):=by
 simp [WS,QO,cellsOf,Zl,W1,Wk,mapO];rfl
def K0 (m j:Nat):List Int:=qB j (-1)++qB (m-j) 0
theorem Qhm {m j:Nat} (h:j≤m):(K0 m j).length=m:=by rw [K0,qJ,jN,jN];omega
theorem Qhn {m j:Nat} (h:j<m):(K0 m j).set j (-1)=K0 m (j+1):=by
 rw [K0,jP _ _ (by simp),jN,jZ,K0,show m-j=(m-(j+1))+1 by omega,List.replicate_succ (n:=m-(j+1)),List.set_cons_zero,List.replicate_succ',qD];rfl
theorem Qho {n:Int} {l:List St} {T O:List Int} (hO:O.length=l.length):WS (hS n l T T O) false (.tuple [.sl 3 0 l.length (some l.length) l.length 1,.map 2,.bool true])=some (.tuple [.own 1 (O.map Qb),.omap (T.map Qb) (T.map fun _=>HV.bool true),.bool true]):=by
 have hr:=ZD (H:=hS n l T T O) (no:=[3,2]) (b:=3) (k:=1) (m:=l.length) (cap:=some l.length) (els:=O.map Qb) rfl (by simpa using hO) (Wy (fun r=>JV 4 r) _)
 have hks:mapO (frz (hS n l T T O) [3,2] 4) (T.map Qb)=some (T.map Qb):=Wy (fun r=>JV 4 r) _
 have hvs:∀l2:List Int,mapO (frz (hS n l T T O) [3,2] 4) (l2.map fun _=>HV.bool true)=some (l2.map fun _=>HV.bool true):=by
  intro l2
  induction l2 with
  | nil=>rfl
  | cons y l2 ih=>simp only [qM,mapO,ih];rfl
 have hm:Wk (hS n l T T O) [3,2] false (.map 2)=some (.omap (T.map Qb) (T.map fun _=>HV.bool true)):=by
  have hg:(hS n l T T O)[2]?=some (.map (T.map Qb) (T.map fun _=>HV.bool true) 0):=rfl
  simp only [Wk,hg,hks,hvs T]
 have ho:QO (hS n l T T O) false (.tuple [.sl 3 0 l.length (some l.length) l.length 1,.map 2,.bool true])=[3,2]:=rfl
 simp only [WS,ho,List.nodup_cons,List.mem_singleton,List.not_mem_nil,not_false_eq_true,List.nodup_nil,and_self,and_true,if_true,W1,mapO,hr,hm]
 rfl
theorem Qe8:QP Tp 43 Qb9:=by
 refine Qn (pol:=plF W4) (fn:=Try.f43) (cd:=B43) Qh Qhl (by kernel_rfl) (by kernel_rfl) (Zh W4 _ _ (by kernel_rfl)) (by kernel_rfl) ?_
 intro args res h
 obtain ⟨⟨n,l⟩,rfl,hq⟩:=KJ h
 simp only at hq
 split at hq
 case isFalse=>cases hq
 rename_i hnet
 cases hq
 obtain ⟨⟨n1,n2⟩,n3,he,hw⟩:=Qx hnet
 have heB:=Vy he (by omega)
 have a:=Qoo (F:=W4) 0 n (l.map Qa)
 have c40:=at1 (pol':=plF W4) (g:=40) (c1:=kN) (f:=fun p=>if Gk p.1 p.2 then some (.tuple [.own 1 ((Qd p.2).map Qb),.bool (WJ p.1 p.2)]) else none) (H:=[bN n l]) (by kernel_rfl) (ShN _ n l) (if_pos ⟨heB,by show l.length≤900;omega,by show 0≤n;omega,by show n≤1000;omega⟩)
 rw [KK] at c40
 simp only at c40
 by_cases cn:WJ n l=true
 case neg =>
  rw [Jl cn] at c40
  have b:=Qoq (F:=W4) 0 n (l.map Qa) [bN n l] 1 (Qd l).length (KL rfl) c40
  have c:=Qhh (F:=W4) 0 n (l.map Qa) [bN n l,bI (Qd l)] 1 (Qd l).length
  refine ⟨_,_,_,.tuple [.imm .lit 1 [],.nilmap,.bool false],sq (a) (sq (b) (sqo (c) (c:=sn 7 B43) (b:=sn 15 B43)) (c:=sn 3 B43)) (c:=B43),by simp,by simp only [Qc,QiN];rfl,?_⟩
  rw [if_neg cn]
  exact Qa8 _
 rw [cn] at c40
 rw [if_pos cn]
 have b:=Qop (F:=W4) 0 n (l.map Qa) [bN n l] 1 (Qd l).length (KL rfl) c40
 have c:=Qhg (F:=W4) 0 n (l.map Qa) [bN n l,bI (Qd l)] 1 (Qd l).length
 have d:=Qor (F:=W4) 0 n (l.map Qa) [bN n l,bI (Qd l)] 1 (Qd l).length (y6:=.bool true) rfl
 have mk:=Km (P:=Tp) (H:=[bN n l,bI (Qd l),bM []]) (t:=24) (e:=3) (k:=1) (bt:=8) (zv:=.int .i64 0) (n:=(l.length:Int)) u24 (by kernel_rfl) (by simp [cellsOf,Qm]) (by simp [cellsOf]) (by omega) (by omega) (by simp only [WF];omega)
 rw [qS] at mk
 have erep:qB l.length (HV.int .i64 0)=(K0 l.length 0).map Qb:=by simp [K0,Qb]
 rw [erep] at mk
 have e:=Qos (F:=W4) 0 n (l.map Qa) [bN n l,bI (Qd l),bM []] 1 (Qd l).length 2 3 l.length (y6:=.bool true) (H2:=hS n l (Qd l) [] (K0 l.length 0)) (J6 (xb:=0) rfl) (by rw [qP];exact mk) rfl (by show Wf _ _ _ _ _=_;kernel_rfl)
 have hsl:∀T M O,QK Tp (hS n l T M O) 24 (.ptr 4 0 0 1)=some (.sl 3 0 l.length (some l.length) l.length 1):=fun T M O=>WV (b:=4) (H:=hS n l T M O) rfl rfl rfl rfl a24 i24
 have f:=Qot (F:=W4) 0 n (l.map Qa) (hS n l (Qd l) [] (K0 l.length 0)) 1 (Qd l).length 2 4 3 l.length (y6:=.bool true) (hsl _ _ _)
 have hTe:ouF l (Qd l) (qB l.length (-1)) (Qd l)=slT l:=rfl
 have hout:=@Qe7 n l hnet (Qd l)
 generalize hT:Qd l=T at *
 have r1:=Q7 (pol':=plF W4) (f:=43) (E:=fun i=>(ZU (Qt n l) (.q 0) (.imm .lit 1 []) .nilmap (.bool false) (.s 1 T.length) Ud (.map 2) (.q 4) Ud Ud Ud Ud Ud (.i (l.length:Int)) (.i (i:Int)) Ud Ud Ud Ud Ud Ud)) (Hs:=fun i=>hS n l T [] (K0 l.length i)) l.length (E0:=fun i=>(ZU (Qt n l) (.q 0) (.imm .lit 1 []) .nilmap (.bool false) (.s 1 T.length) Ud (.map 2) (.q 4) (.i (i:Int)) Ud Ud Ud Ud (.i (l.length:Int)) (.i ((i+1:Nat):Int)) Ud Ud Ud Ud Ud Ud)) (H1:=fun i=>hS n l T [] (K0 l.length (i+1)))
  (fun i hi=>by
   have hil:=Qhm (m:=l.length) (j:=i) (by omega)
   have st:=Kn (H:=hS n l T [] (K0 l.length i)) (k:=3) (o:=K0 l.length i) rfl (y:=i) (by omega) (-1)
   rw [hil,Qhn hi] at st
   have s:=Qou (F:=W4) 0 n (l.map Qa) (hS n l T [] (K0 l.length i)) 1 T.length 2 4 3 l.length i (by omega) (hsl _ _ _) (ZT u24 z3 hi) st
   rw [Qj (by omega)] at s
   exact s) (fun i _=>by kernel_rfl) (fun i _=>QC _ rfl) (Qov (F:=W4) 0 n (l.map Qa) (hS n l T [] (K0 l.length l.length)) 1 T.length 2 4 3 l.length l.length (by omega)) (by simp) (c:=sn 506 B43) (by kernel_rfl) (fun i _=>by kernel_rfl)
 have eini:K0 l.length l.length=qB l.length (-1):=by rw [K0,jZ,wA,jQ]
 rw [eini] at r1
 have hh:=Qow (F:=W4) 0 n (l.map Qa) (hS n l T [] (qB l.length (-1))) 1 T.length 2 4 (y29:=.i (l.length:Int)) (y30:=.i (l.length:Int))
 have ii:=Qox (F:=W4) 0 n (l.map Qa) (hS n l T [] (qB l.length (-1))) 1 T.length 2 4 (y29:=.i (l.length:Int)) (y30:=.i (l.length:Int))
 have hol:∀i,(ouF l T (qB l.length (-1)) (T.take i)).length=l.length:=fun i=>(Y9 ..).trans (by simp)
 obtain ⟨x,E',H',r2,rfl,rfl,rfl⟩:=W2 (pol':=plF W4) (f:=43) (b:=sn 4084 B43) (c:=sn 2042 B43) (I:=fun i e H=>e=(ZU (Qt n l) (.q 0) (.imm .lit 1 []) .nilmap (.bool false) (.s 1 T.length) Ud (.map 2) (.q 4) Ud (.func 64 [] [.q 4]) Ud Ud Ud Ud Ud (.s 1 T.length) (.i (T.length:Int)) (.i (i:Int)) Ud Ud Ud)∧H=hS n l T (T.take i) (ouF l T (qB l.length (-1)) (T.take i)))
  (Q:=fun x E' H'=>x=.exit 2∧E'=(ZU (Qt n l) (.q 0) (.imm .lit 1 []) .nilmap (.bool false) (.s 1 T.length) Ud (.map 2) (.q 4) Ud (.func 64 [] [.q 4]) Ud Ud Ud Ud Ud (.s 1 T.length) (.i (T.length:Int)) (.i ((T.length:Nat):Int)) Ud Ud Ud)∧H'=hS n l T T (ouF l T (qB l.length (-1)) T)) T.length
  (by
   rintro i hi e H ⟨rfl,rfl⟩
   obtain ⟨E0,H1,s,q1,q2⟩:=hout (O:=ouF l T (qB l.length (-1)) (T.take i)) rfl (hol i) hi
   refine ⟨E0,H1,s,q1,?_⟩
   rw [q1]
   show gc 6 _ H1=_
   rw [q2,Qe6 l T _ T hi])
  (by
   rintro e H ⟨rfl,rfl⟩
   rw [qV]
   have s1:=Qoz (F:=W4) 0 n (l.map Qa) (hS n l T T (ouF l T (qB l.length (-1)) T)) 1 T.length 2 4 T.length (by omega)
   have s2:=Qhj (F:=W4) 0 n (l.map Qa) (hS n l T T (ouF l T (qB l.length (-1)) T)) 1 T.length 2 4 T.length
   exact ⟨_,_,_,sq (s1) (sqo (s2) (c:=sn 8169 B43) (b:=sn 16339 B43)) (c:=sn 4084 B43),by simp,rfl,rfl,rfl⟩)
  (by kernel_rfl) (by rintro i e H ⟨rfl,_⟩;kernel_rfl) (e:=(ZU (Qt n l) (.q 0) (.imm .lit 1 []) .nilmap (.bool false) (.s 1 T.length) Ud (.map 2) (.q 4) Ud (.func 64 [] [.q 4]) Ud Ud Ud Ud Ud (.s 1 T.length) (.i (T.length:Int)) (.i (0:Int)) Ud Ud Ud)) (H:=hS n l T [] (qB l.length (-1))) ⟨rfl,rfl⟩
 have z:=QoG (F:=W4) 0 n (l.map Qa) (hS n l T T (ouF l T (qB l.length (-1)) T)) 1 T.length 2 4 3 l.length (y38:=.s 1 T.length) (y39:=.i (T.length:Int)) (y40:=.i (T.length:Int)) (hsl _ _ _)
 refine ⟨_,_,_,.tuple [.sl 3 0 l.length (some l.length) l.length 1,.map 2,.bool true],sq (a) (sq (b) (sq (c) (sq (d) (sq (e) (sq (sq (f) (bke (c:=sn 253 B43) (lpi (e0:=(ZU (Qt n l) (.q 0) (.imm .lit 1 []) .nilmap (.bool false) (.s 1 T.length) (.bool true) (.map 2) (.q 4) Ud Ud Ud Ud Ud (.i (l.length:Int)) (.i (0:Int)) Ud Ud Ud Ud Ud Ud)) r1 (b:=sn 1012 B43))) (c:=sn 126 B43)) (sq (hh) (sq (sq (ii) (bke (c:=sn 1021 B43) (lpi (e0:=(ZU (Qt n l) (.q 0) (.imm .lit 1 []) .nilmap (.bool false) (.s 1 T.length) Ud (.map 2) (.q 4) Ud (.func 64 [] [.q 4]) Ud Ud Ud (.i (l.length:Int)) (.i (l.length:Int)) (.s 1 T.length) (.i (T.length:Int)) (.i (0:Int)) Ud Ud Ud)) r2 (b:=sn 4084 B43))) (c:=sn 510 B43)) (z) (c:=sn 255 B43)) (c:=sn 127 B43)) (c:=sn 63 B43)) (c:=sn 31 B43)) (c:=sn 15 B43)) (c:=sn 7 B43)) (c:=sn 3 B43)) (c:=B43),by simp,by simp only [Qc,QiN];rfl,?_⟩
 rw [← hTe]
 have:=hol T.length
 rw [qV] at this
 exact Qho this
def slE (n:Int) (l:List St):Int:=if Wh n l=true then (if WJ n l=true then 0 else 6) else 2
theorem Qe9 (O T:List Int) (H:Heap):ZA (.tuple [.own 1 (O.map Qb),.omap (T.map Qb) (T.map fun _=>HV.bool true),.bool true]) H=(.tuple [.sl H.length 0 O.length none O.length 1,.map (H.length+1),.bool true],H++[bI O]++[bM T]):=by
 have h:Wp (.own 1 (O.map Qb)) H=(.sl H.length 0 O.length none O.length 1,H++[bI O]):=by
  simp only [Wp,Vs,qP];rfl
 have h2:Wp (.omap (T.map Qb) (T.map fun _=>HV.bool true)) (H++[bI O])=(.map (H.length+1),H++[bI O]++[bM T]):=by
  simp only [Wp,qJ,qW,jU];rfl
 simp only [ZA,ZJ,Z9,h,h2];rfl
theorem Qfa (H:Heap):ZA (.tuple [.own 1 [],.nilmap,.bool false]) H=(.tuple [.sl H.length 0 0 none 0 1,.nilmap,.bool false],H++[bI []]):=rfl
theorem Qhp (l:List St):(slT l).length=l.length:=(Y9 ..).trans (by simp)
def bst (b d:Int):Int:=if b<0∨d<b then d else b
def c1T (n:Int) (l:List St) (i:Nat) (b:Int) (k:Nat):Int:=if (k:Int)∉frT l∧isT n l (swT i k (frT l))=true then bst b (wOf l k-wOf l i) else b
def c2T (n:Int) (l:List St) (i:Nat) (b x:Int):Int:=if isT n l (swT x i (frT l))=true then bst b (wOf l i-wOf l x) else b
def c1F (n:Int) (l:List St) (i m:Nat):Int:=(qH m).foldl (c1T n l i) (-1)
def c2F (n:Int) (l:List St) (i:Nat) (t:List Int):Int:=t.foldl (c2T n l i) (-1)
def Qa9 (n:Int) (l:List St) (i:Nat):Int:=if (i:Int)∈frT l then c1F n l i l.length else c2F n l i (frT l)
def Qba (n:Int) (l:List St) (m:Nat):List Int:=(qH m).map (Qa9 n l)
theorem Qfb (n:Int) (l:List St) (m:Nat):(Qba n l m).length=m:=by simp [Qba]
theorem Qca (o p:Int) (t:List Int):(swT o p t).length≤2*t.length+1:=by
 have:=swp_len o p t t.length (qE _)
 rw [qV] at this
 rw [swT];split <;> simp <;> omega
theorem S6 (x:Int):∀(ks:List Int) (i:Nat),x∈ks→∃j,j<ks.length∧Wm (.int .i64 x) (ks.map Qb) i=some (some (i+j))
 | [],_,h=>by cases h
 | y::ks,i,h=>by
  by_cases e:x=y
  ·subst e
   refine ⟨0,by simp,?_⟩
   simp only [qM,Wm,Qb,WI,Jg,if_true,decide_true];rfl
  ·rcases List.mem_cons.1 h with h | h
   ·exact absurd h e
   ·obtain ⟨j,h1,h2⟩:=S6 x ks (i+1) h
    refine ⟨j+1,by simp;omega,?_⟩
    simp only [qM,Wm,Qb,WI,Jg,if_true,decide_eq_false e]
    rw [show i+(j+1)=i+1+j by omega]
    exact h2
theorem z4z:Xf Tp 4=some (.bool false):=by kernel_rfl
theorem QoH {H:Heap} {b:Nat} {ks:List Int} (h:H[b]?=some (bM ks)) (x:Int):lkH Tp 72 H b (.int .i64 x)=some (.bool (decide (x∈ks)),H):=by
 have hk:=Qhk x
 have hz:=z4z
 rw [bM] at h
 by_cases c:x∈ks
 ·obtain ⟨j,h1,h2⟩:=S6 x ks 0 c
  rw [decide_eq_true c]
  have:(ks.map fun _=>HV.bool true)[0+j]?=some (.bool true):=by rw [Nat.zero_add,List.getElem?_map,zY h1];rfl
  simp only [lkH,h,K9,u72,hk,if_true,h2,this]
  rfl
 ·have h2:=JS x ks 0 c
  rw [decide_eq_false c]
  simp only [lkH,h,K9,u72,hk,if_true,h2,hz]
  rfl
end Go.Proofs.Ytiejmoglooaalaa
end
section
open Go Go.HL Go.HL.Dt
namespace Go.Proofs.Ytiejmoglooaalaa
set_option linter.unusedSectionVars false
open Go.Proofs.Try renaming prog → Tp
open Go.HL.HV renaming undef → Ud
def vtG (g1 g2:List Int) (n:Nat) (top:Int):List Int:=((qH n).filter fun (v:Nat)=>decide (g1.getD v 0=(v:Int)∧g2.getD v 0=top)).map fun (v:Nat)=>(v:Int)
theorem Qfc (g1 g2:List Int) (k:Nat) (top:Int):vtG g1 g2 (k+1) top=vtG g1 g2 k top++if g1.getD k 0=(k:Int)∧g2.getD k 0=top then [(k:Int)] else []:=by
 unfold vtG
 rw [List.range_succ,List.filter_append,zC]
 congr 1
 by_cases c:g1.getD k 0=(k:Int)∧g2.getD k 0=top
 ·rw [if_pos c]
  have:(List.filter (fun (v:Nat)=>decide (g1.getD v 0=(v:Int)∧g2.getD v 0=top)) [k])=[k]:=List.filter_eq_self.2 fun v hv=>by
   rw [List.mem_singleton.1 hv]
   exact decide_eq_true c
  rw [this];rfl
 ·rw [if_neg c]
  have:(List.filter (fun (v:Nat)=>decide (g1.getD v 0=(v:Int)∧g2.getD v 0=top)) [k])=[]:=List.filter_eq_nil_iff.2 fun v hv h=>by
   rw [List.mem_singleton.1 hv] at h
   exact c (of_decide_eq_true h)
  rw [this];rfl
theorem QoI {g1 g2:List Int} {n:Nat} {top x:Int} (h:x∈vtG g1 g2 n top):0≤x∧x<(n:Int):=by
 obtain ⟨v,hv,rfl⟩:=List.mem_map.1 h
 have:=List.mem_range.1 (List.mem_filter.1 hv).1
 omega
theorem Qhq (g1 g2:List Int) (n:Nat) (top:Int):(vtG g1 g2 n top).length≤n:=by
 rw [vtG,qP]
 have:=List.length_filter_le (fun (v:Nat)=>decide (g1.getD v 0=(v:Int)∧g2.getD v 0=top)) (qH n)
 rwa [List.length_range] at this
def WD:List Int→Int→Nat
 | [],_=>0
 | y::V,x=>if x=y then 0 else if x∈V then WD V x+1 else 0
theorem Qcb:∀{V:List Int} {x:Int},x∈V→WD V x<V.length
 | y::V,x,h=>by
  rw [WD,qW]
  split
  ·omega
  ·split
   ·rename_i c;have:=Qcb c;omega
   ·omega
theorem Qcc:∀{V:List Int} {x:Int},x∉V→WD V x=0
 | [],_,_=>rfl
 | y::V,x,h=>by rw [WD,if_neg (fun e:x=y=>h (by rw [e];exact zS ..)),if_neg fun c=>h (zT _ c)]
theorem S7:∀{V:List Int} {x:Int},x∈V→V.getD (WD V x) 0=x
 | y::V,x,h=>by
  rw [WD]
  split
  ·rename_i e;rw [e];rfl
  ·rename_i e
   have hm:=(List.mem_cons.1 h).resolve_left e
   rw [if_pos hm,List.getD_cons_succ]
   exact S7 hm
def bMI (V:List Int):Blk:=.map (V.map Qb) ((qH V.length).map fun (i:Nat)=>HV.int .i64 (i:Int)) 0
theorem Qhr:Tp.underlying 117=some (.map 3 3):=by kernel_rfl
theorem z3t:Xf Tp 3=some (.int .i64 0):=by kernel_rfl
theorem GE (x:Int):∀(V:List Int) (i:Nat),x∈V→Wm (.int .i64 x) (V.map Qb) i=some (some (i+WD V x))
 | [],_,h=>by cases h
 | y::V,i,h=>by
  by_cases e:x=y
  ·subst e
   simp only [qM,Wm,Qb,WI,Jg,if_true,decide_true,WD];rfl
  ·have hm:=(List.mem_cons.1 h).resolve_left e
   have ih:=GE x V (i+1) hm
   simp only [qM,Wm,Qb,WI,Jg,if_true,decide_eq_false e]
   rw [WD,if_neg e,if_pos hm,show i+(WD V x+1)=i+1+WD V x by omega]
   exact ih
theorem Qcd {H:Heap} {b:Nat} {V:List Int} (h:H[b]?=some (bMI V)) (x:Int):lkG Tp 117 H b (.int .i64 x) true=some (.tuple [.int .i64 (WD V x:Int),.bool (decide (x∈V))],H)∧lkG Tp 117 H b (.int .i64 x) false=some (.int .i64 (WD V x:Int),H):=by
 have hk:=Qhk x
 have hz:=z3t
 rw [bMI] at h
 by_cases c:x∈V
 ·have h2:=GE x V 0 c
  rw [Nat.zero_add] at h2
  have h3:=Qcb c
  have:((qH V.length).map fun (i:Nat)=>HV.int .i64 (i:Int))[WD V x]?=some (.int .i64 (WD V x:Int)):=by simp [h3]
  rw [decide_eq_true c]
  constructor <;> · simp only [lkG,h,K9,Qhr,hk,if_true,h2,this];rfl
 ·have h2:=JS x V 0 c
  rw [decide_eq_false c,Qcc c]
  constructor <;> · simp only [lkG,h,K9,Qhr,hk,if_true,h2,hz];rfl
theorem Qce {H:Heap} {b:Nat} {V:List Int} (h:H[b]?=some (bMI V)):Uq Tp H 117 (.map b)=some (.int .i64 (V.length:Int)):=by
 rw [bMI] at h
 simp only [Uq,Qhr,h,qP]
theorem Qhs {H:Heap} {b:Nat} {V:List Int} (h:H[b]?=some (bMI V)) {x:Int} (hx:x∉V):GL Tp false 117 (.map b) (.int .i64 x) (.int .i64 (V.length:Int)) H=some (H.set b (bMI (V++[x]))):=by
 have hk:=Qhk x
 have hf:=JS x V 0 hx
 have ha:(WT (cellsOf (HV.int .i64 x)) (cellsOf (HV.int .i64 x))).isSome=true:=rfl
 rw [bMI] at h
 simp only [GL,Qhr,hk,if_true,Bool.false_eq_true,if_false,h,hf,ha]
 simp only [bMI,zC,qJ,List.length_singleton,List.range_succ,qM,List.map_nil]
 rfl
abbrev b1 (x:Int):Blk:=.arr 1 [.int .i64 x] true 0
def DE (p d y:Int):Int:=(y+d+p)%p
def adM (p:Int) (N:Nat) (i j:Nat) (d:Int) (M:List (List Int)):List (List Int):=if i<N∧j<N then M.set i ((M.getD i []).set j (DE p d ((M.getD i []).getD j 0))) else M
def adH (p:Int) (N:Nat) (R:Nat→Nat) (M:List (List Int)) (i j:Nat) (d:Int) (H:Heap):Heap:=if i<N∧j<N then H.set (R i) (bI ((M.getD i []).set j (DE p d ((M.getD i []).getD j 0)))) else H
theorem Ua {p:Int} {N:Nat} {R:Nat→Nat} {M:List (List Int)} {i j:Nat} {d:Int} {H X:Heap} (h:∀i,i<N→R i<H.length):adH p N R M i j d (H++X)=adH p N R M i j d H++X:=by
 unfold adH
 split
 ·rename_i c;exact List.set_append_left _ _ (h i c.1)
 ·rfl
theorem Z8 (p:Int) (N:Nat) (R:Nat→Nat) (M:List (List Int)) (i j:Nat) (d:Int) (H:Heap):Fx H (adH p N R M i j d H) (rowS R N):=by
 unfold adH
 split
 ·rename_i c;exact Fx.set (S:=rowS R N) ⟨i,c.1,rfl⟩ _
 ·exact Fx.refl ..
theorem J9 {p:Int} (hp:0<p) {N:Nat} {M:List (List Int)} (h:Ws p N M) (i j:Nat) (d:Int):Ws p N (adM p N i j d M):=by
 unfold adM
 split
 ·rename_i c
  obtain ⟨h1,h2⟩:=h
  have hi:i<M.length:=by omega
  have hri:=h2 _ (by rw [ZR hi];exact jH _:M.getD i []∈M)
  refine ⟨by rw [qC];exact h1,fun r hr=>?_⟩
  rcases zA hr with e | e
  ·exact h2 r e
  ·subst e
   refine ⟨by rw [qC];exact hri.1,fun k hk=>?_⟩
   rw [V3 (by rw [hri.1];exact c.2)]
   split
   ·exact ⟨qF _ (by omega),qG _ hp⟩
   ·exact hri.2 k hk
 ·exact h
section
variable {F:FuncId→Option (List HV→Option HV)} {H:Heap} {mb N:Nat} {R:Nat→Nat} {M:List (List Int)} {p:Int}
theorem Mat.ad (hM:Mat H mb N R M) (i j:Nat) (d:Int):Mat (adH p N R M i j d H) mb N R (adM p N i j d M):=by
 unfold adH adM
 split
 ·rename_i c;exact (hM.put c.1 c.2 _).2
 ·exact hM
theorem Qrx {p y d:Int} (hp:1<p∧p≤2147483647) (hy:0≤y∧y<p) (hd:d=1∨d=-1):(qA.wrap (qA.wrap (y+d)+p)).tmod p=DE p d y:=by
 rw [WN (n:=y+d) (by omega) (by omega),QI (by omega) (by omega),qT (by omega)];rfl
theorem a57:QJ Tp 57=false:=by kernel_rfl
theorem i57:(Tp.underlying 57).isSome=true:=by kernel_rfl
theorem Ub (h86:F 86=none) (hp:1<p∧p≤2147483647) (hM:Mat H mb N R M) (hok:Ws p N M) {zb xb pb mx:Nat} (hz:H[zb]?=some (b1 (N:Int))) (hx:H[xb]?=some (.arr 1 [slR mb N] true mx)) (hpb:H[pb]?=some (b1 p)) (i j:Nat) {d:Int} (hd:d=1∨d=-1) :
  ClF F 86 [.int .i64 (i:Int),.int .i64 (j:Int),.int .i64 d,.ptr zb 0 0 1,.ptr xb 0 0 1,.ptr pb 0 0 1] H (.tuple []) (adH p N R M i j d H):=by
 have hr:Try.f86.results.toList=[]:=by kernel_rfl
 have lz:=ld1 hz
 have lp:=ld1 hpb
 have lx:QK Tp H 57 (.ptr xb 0 0 1)=some (slR mb N):=WV (b:=xb) hx rfl rfl rfl a57 i57
 have go:∀{H':Heap} (hl:H'.length=H.length),RT (plF F) 86 (sub [] B86) (QeX (.i (i:Int)) (.i (j:Int)) (.i d) (.q zb) (.q xb) (.q pb)) H .normal (QeX (.i (i:Int)) (.i (j:Int)) (.i d) (.q zb) (.q xb) (.q pb)) H' →
   ClF F 86 [.int .i64 (i:Int),.int .i64 (j:Int),.int .i64 d,.ptr zb 0 0 1,.ptr xb 0 0 1,.ptr pb 0 0 1] H (.tuple []) H':=fun hl s=>by
  have h:=CallsTo.shared (P:=Tp) (pol:=plF F) (g:=86) (fn:=Try.f86) (cd:=B86) (args:=[.int .i64 (i:Int),.int .i64 (j:Int),.int .i64 d,.ptr zb 0 0 1,.ptr xb 0 0 1,.ptr pb 0 0 1]) (v:=.tuple []) h86 (by kernel_rfl) (by kernel_rfl) (by kernel_rfl) s (by kernel_rfl) (by simp) (by simp only [Qc,hr];rfl)
  rw [QC _ hl] at h
  exact h
 by_cases c1:i<N
 ·by_cases c2:j<N
  ·have hy:=KS hok c1 c2
   obtain ⟨g1,g2⟩:=hM.put c1 c2 (DE p d ((M.getD i []).getD j 0))
   have e:adH p N R M i j d H=H.set (R i) (bI ((M.getD i []).set j (DE p d ((M.getD i []).getD j 0)))):=if_pos ⟨c1,c2⟩
   rw [e]
   have s:=Qm3 (F:=F) (i:Int) (j:Int) d zb xb pb H mb N (R i) ((M.getD i []).getD j 0) p (H0:=H.set (R i) (bI ((M.getD i []).set j (DE p d ((M.getD i []).getD j 0))))) lz (by omega) lz (by omega) lx (Z6 c1) (hM.ld c1) lx (Z6 c1) (hM.ld c1) (Z7 c2) (hM.get c1 c2) lp lp (KZ (by omega)) (Z7 c2) (by rw [Qrx hp hy hd];exact g1)
   exact go (by simp) s
  ·have e:adH p N R M i j d H=H:=if_neg fun h=>c2 h.2
   rw [e]
   exact go rfl (Qm4 (F:=F) (i:Int) (j:Int) d zb xb pb H mb N 0 0 p lz (by omega) lz (by omega))
 ·have e:adH p N R M i j d H=H:=if_neg fun h=>c1 h.1
  rw [e]
  exact go rfl (Qm5 (F:=F) (i:Int) (j:Int) d zb xb pb H mb N 0 0 p lz (by omega))
end
section
variable {F:FuncId→Option (List HV→Option HV)} {n:Int} {l:List St} {bb ab nb pb:Nat} {w p:Int} {H:Heap} {us1 g1 us2 g2:List Int}
theorem QoJ (h55:F 55=none) (hn:0≤n∧n≤16) (hb1:H[bb]?=some (bU us1)) (hU1:Up us1 g1) (hb2:H[ab]?=some (bU us2)) (hU2:Up us2 g2) (u:Int) (top:Nat) :
  RT (plF F) 65 (sn 59802 B65) ((QW (Qt n l) (.q bb) (.q ab) (.i w) (.i p) (.q nb) (.q pb) (.i 0) (.i (u)) (.i (top:Int)) (.map H.length) Ud Ud Ud Ud Ud Ud Ud Ud Ud (.i n) (.i (top:Int)) (.i n) (.i (0:Int)) Ud Ud Ud Ud Ud)) (H++[bMI []]) (.exit 2) ((QW (Qt n l) (.q bb) (.q ab) (.i w) (.i p) (.q nb) (.q pb) (.i 0) (.i (u)) (.i (top:Int)) (.map H.length) Ud Ud Ud Ud Ud Ud Ud Ud Ud (.i n) (.i (top:Int)) (.i n) (.i ((n.toNat:Nat):Int)) Ud Ud Ud Ud Ud)) (H++[bMI (vtG g1 g2 n.toNat (top:Int))]):=by
 have h:=Q7 (pol':=plF F) (f:=65) (b:=sn 119604 B65) (c:=sn 59802 B65) (E:=fun v=>(QW (Qt n l) (.q bb) (.q ab) (.i w) (.i p) (.q nb) (.q pb) (.i 0) (.i (u)) (.i (top:Int)) (.map H.length) Ud Ud Ud Ud Ud Ud Ud Ud Ud (.i n) (.i (top:Int)) (.i n) (.i (v:Int)) Ud Ud Ud Ud Ud)) (Hs:=fun v=>H++[bMI (vtG g1 g2 v (top:Int))]) n.toNat (E0:=fun v=>(QW (Qt n l) (.q bb) (.q ab) (.i w) (.i p) (.q nb) (.q pb) (.i 0) (.i (u)) (.i (top:Int)) (.map H.length) (.i (v:Int)) Ud Ud Ud Ud Ud Ud Ud Ud (.i n) (.i (top:Int)) (.i n) (.i ((v+1:Nat):Int)) Ud Ud Ud Ud Ud)) (H1:=fun v=>H++[bMI (vtG g1 g2 (v+1) (top:Int))]) (x:=.exit 2) (E':=(QW (Qt n l) (.q bb) (.q ab) (.i w) (.i p) (.q nb) (.q pb) (.i 0) (.i (u)) (.i (top:Int)) (.map H.length) Ud Ud Ud Ud Ud Ud Ud Ud Ud (.i n) (.i (top:Int)) (.i n) (.i ((n.toNat:Nat):Int)) Ud Ud Ud Ud Ud)) (H':=H++[bMI (vtG g1 g2 n.toNat (top:Int))])
  (fun v hv=>by
   have hv16:v<16:=by omega
   have s1:=Qne (F:=F) 0 n (l.map Qa) bb ab w p (H++[bMI (vtG g1 g2 v (top:Int))]) nb pb u top H.length v (by omega)
   have s2:=Qg0 (F:=F) 0 n (l.map Qa) bb ab w p (H++[bMI (vtG g1 g2 v (top:Int))]) nb pb u top H.length v
   have s4:=Qnj (F:=F) 0 n (l.map Qa) bb ab w p (H++[bMI (vtG g1 g2 (v+1) (top:Int))]) nb pb u top H.length v (y14:=.i (v:Int))
   rw [show qA.wrap ((v:Int)+1)=((v+1:Nat):Int) by rw [QI (by omega) (by omega)];omega] at s4
   have s3:RT (plF F) 65 (sn 956838 B65) ((QW (Qt n l) (.q bb) (.q ab) (.i w) (.i p) (.q nb) (.q pb) (.i 0) (.i (u)) (.i (top:Int)) (.map H.length) Ud Ud Ud Ud Ud Ud Ud Ud Ud (.i n) (.i (top:Int)) (.i n) (.i (v:Int)) Ud Ud Ud Ud Ud)) (H++[bMI (vtG g1 g2 v (top:Int))]) .normal ((QW (Qt n l) (.q bb) (.q ab) (.i w) (.i p) (.q nb) (.q pb) (.i 0) (.i (u)) (.i (top:Int)) (.map H.length) (.i (v:Int)) Ud Ud Ud Ud Ud Ud Ud Ud (.i n) (.i (top:Int)) (.i n) (.i (v:Int)) Ud Ud Ud Ud Ud)) (H++[bMI (vtG g1 g2 (v+1) (top:Int))]):=by
    have b1':=Wb (X:=[bMI (vtG g1 g2 v (top:Int))]) hb1
    have b2':=Wb (X:=[bMI (vtG g1 g2 v (top:Int))]) hb2
    obtain ⟨N1,c1⟩:=CallsTo.from (JY (F:=F) h55 b1' hU1 (v:=(v:Int)) (by omega) (by omega))
    obtain ⟨N2,c2⟩:=CallsTo.from (JY (F:=F) h55 b2' hU2 (v:=(v:Int)) (by omega) (by omega))
    rw [qS] at c1 c2
    have k1:=fun kf (hk:max N1 N2≤kf)=>c1 kf (by omega)
    have k2:=fun kf (hk:max N1 N2≤kf)=>c2 kf (by omega)
    rw [Qfc]
    by_cases e1:g1.getD v 0=(v:Int)
    ·by_cases e2:g2.getD v 0=(top:Int)
     ·rw [if_pos ⟨e1,e2⟩]
      have hm:(H++[bMI (vtG g1 g2 v (top:Int))])[H.length]?=some (bMI (vtG g1 g2 v (top:Int))):=by simp
      have hx:(v:Int)∉vtG g1 g2 v (top:Int):=fun c=>by have:=QoI c;omega
      have mp:=Qhs hm hx
      have es:(H++[bMI (vtG g1 g2 v (top:Int))]).set H.length (bMI (vtG g1 g2 v (top:Int)++[(v:Int)]))=H++[bMI (vtG g1 g2 v (top:Int)++[(v:Int)])]:=by rw [jP _ _ (qE _),jZ];rfl
      rw [es] at mp
      exact Qng (F:=F) (max N1 N2) n (l.map Qa) bb ab w p (H++[bMI (vtG g1 g2 v (top:Int))]) nb pb u top H.length v k1 e1 k2 e2 (Qce hm) mp
     ·rw [if_neg fun h=>e2 h.2,jQ]
      exact Qnh (F:=F) (max N1 N2) n (l.map Qa) bb ab w p (H++[bMI (vtG g1 g2 v (top:Int))]) nb pb u top H.length v k1 e1 k2 e2
    ·rw [if_neg fun h=>e1 h.1,jQ]
     exact Qni (F:=F) (max N1 N2) n (l.map Qa) bb ab w p (H++[bMI (vtG g1 g2 v (top:Int))]) nb pb u top H.length v k1 e1
   exact sq (s1) (sq (s2) (sq (s3) (s4) (c:=sn 478419 B65)) (c:=sn 239209 B65)) (c:=sn 119604 B65)) (fun v _=>by kernel_rfl) (fun v _=>QC _ (by simp)) (by
   have s1:=Qnf (F:=F) 0 n (l.map Qa) bb ab w p (H++[bMI (vtG g1 g2 n.toNat (top:Int))]) nb pb u top H.length n.toNat (by omega)
   have s2:=Qg1 (F:=F) 0 n (l.map Qa) bb ab w p (H++[bMI (vtG g1 g2 n.toNat (top:Int))]) nb pb u top H.length n.toNat
   exact sq (s1) (sqo (s2) (c:=sn 239209 B65) (b:=sn 478419 B65)) (c:=sn 119604 B65)) (by simp) (by kernel_rfl) (fun v _=>by kernel_rfl)
 exact h
def Zm (L q i:Nat):List HV:=(qH q).map fun k=>if k<i then slR (L+5+k) q else .imm .lit 0 []
theorem V4 (L q i:Nat):(Zm L q i).length=q:=by simp [Zm]
theorem Qc4 {L q i:Nat}:(Zm L q i).set i (slR (L+5+i) q)=Zm L q (i+1):=by
 refine zO fun j=>?_
 rcases qK j q with h | h
 ·have a:∀x,(Zm L q x)[j]?=some (if j<x then slR (L+5+j) q else .imm .lit 0 []):=fun x=>by simp [Zm,h]
  rw [a,zF]
  by_cases c:i=j
  ·subst c;rw [if_pos rfl,if_pos (by rw [V4];exact h),if_pos (by omega)]
  ·rw [if_neg c,a]
   by_cases c2:j<i
   ·rw [if_pos c2,if_pos (by omega)]
   ·rw [if_neg c2,if_neg (by omega)]
 ·rw [qU (by rw [qC,V4];exact h),qU (by rw [V4];exact h)]
theorem GF (L q:Nat):Zm L q q=Xd (fun k=>L+5+k) q:=List.map_congr_left fun k hk=>if_pos (List.mem_range.1 hk)
theorem Qbb (L q:Nat):Zm L q 0=qB q (.imm .lit 0 []):=by
 refine List.ext_getElem (by simp [Zm]) fun j h1 h2=>?_
 simp [Zm]
def rmx (L i:Nat):Nat:=if i=0 then 0 else L+5+i
abbrev zR (q:Nat):Blk:=bI (qB q 0)
abbrev hC (H:Heap) (V:List Int) (q i:Nat):Heap:=H++[bMI V,b1 (q:Int),.arr 1 (Zm H.length q i) true (rmx H.length i),.arr 1 [slR (H.length+2) q] true (H.length+5),.arr 1 [] true 0]++qB i (zR q)
theorem DF (H:Heap) (V:List Int) (q i:Nat):(hC H V q i).length=H.length+5+i:=by simp only [hC,qJ,qW,jU,jN]
theorem GG (H:Heap) (V:List Int) (q i:Nat) {j:Nat} (hj:j<5):(hC H V q i)[H.length+j]?=[bMI V,b1 (q:Int),.arr 1 (Zm H.length q i) true (rmx H.length i),.arr 1 [slR (H.length+2) q] true (H.length+5),.arr 1 [] true 0][j]?:=by
 rw [hC,qD,qR (by omega),show H.length+j-H.length=j by omega,jG (by simpa using hj)]
theorem Cy {H:Heap} {base r:Nat} (h:H.length≤max base (max r (mxs H))):gc base r H=H:=by
 unfold gc
 exact List.take_of_length_le h
theorem Qht (u:Int) (top:Nat) {V:List Int} {q:Nat} (hq:q≤16) (hs:Qw (hC H V q 0) (hC H V q 0)=true) :
  RT (plF F) 65 (sn 956922 B65) ((QW (Qt n l) (.q bb) (.q ab) (.i w) (.i p) (.q nb) (.q pb) (.i 0) (.i (u)) Ud (.map H.length) Ud (.q (H.length+1)) (.q (H.length+3)) Ud Ud Ud Ud Ud Ud (.i n) (.i (top:Int)) Ud Ud (.i (q:Int)) (.i (0:Int)) Ud Ud Ud)) (hC H V q 0) (.exit 4) ((QW (Qt n l) (.q bb) (.q ab) (.i w) (.i p) (.q nb) (.q pb) (.i 0) (.i (u)) Ud (.map H.length) Ud (.q (H.length+1)) (.q (H.length+3)) Ud Ud Ud Ud Ud Ud (.i n) (.i (top:Int)) Ud Ud (.i (q:Int)) (.i (q:Int)) Ud Ud Ud)) (hC H V q q):=by
 have sI:∀i,Qw (hC H V q i) (hC H V q i)=true:=fun i=>by
  refine sameH_all.2 fun B hB=>?_
  rw [hC,qD,List.mem_append,List.mem_append] at hB
  rcases hB with h | h | h
  ·exact sameH_all.1 hs B (by rw [hC];simp [h])
  ·simp only [List.mem_cons,List.not_mem_nil,or_false] at h
   rcases h with rfl | rfl | rfl | rfl | rfl
   ·exact sameH_all.1 hs _ (by rw [hC];simp)
   ·exact Q3 [(q:Int)]
   ·simp only [Qw,Zm,WW (f:=fun k=>if k<i then slR (H.length+5+k) q else .imm .lit 0 []) (fun k=>by split <;> simp [same,sameL]),beq_self_eq_true,jJ]
   ·exact sameH_all.1 hs _ (by rw [hC];simp)
   ·rfl
  ·rw [zG h];exact Q3 _
 have h:=Q7 (pol':=plF F) (f:=65) (b:=sn 1913844 B65) (c:=sn 956922 B65) (E:=fun i=>(QW (Qt n l) (.q bb) (.q ab) (.i w) (.i p) (.q nb) (.q pb) (.i 0) (.i (u)) Ud (.map H.length) Ud (.q (H.length+1)) (.q (H.length+3)) Ud Ud Ud Ud Ud Ud (.i n) (.i (top:Int)) Ud Ud (.i (q:Int)) (.i (i:Int)) Ud Ud Ud)) (Hs:=fun i=>hC H V q i) q (E0:=fun i=>(QW (Qt n l) (.q bb) (.q ab) (.i w) (.i p) (.q nb) (.q pb) (.i 0) (.i (u)) Ud (.map H.length) Ud (.q (H.length+1)) (.q (H.length+3)) (.i (i:Int)) Ud Ud Ud Ud Ud (.i n) (.i (top:Int)) Ud Ud (.i (q:Int)) (.i ((i+1:Nat):Int)) Ud Ud Ud)) (H1:=fun i=>hC H V q (i+1)) (x:=.exit 4) (E':=(QW (Qt n l) (.q bb) (.q ab) (.i w) (.i p) (.q nb) (.q pb) (.i 0) (.i (u)) Ud (.map H.length) Ud (.q (H.length+1)) (.q (H.length+3)) Ud Ud Ud Ud Ud Ud (.i n) (.i (top:Int)) Ud Ud (.i (q:Int)) (.i (q:Int)) Ud Ud Ud)) (H':=hC H V q q)
  (fun i hi=>by
   have s1:=Qnp (F:=F) 0 n (l.map Qa) bb ab w p (hC H V q i) nb pb u top H.length (H.length+1) (H.length+3) q i (by omega)
   have s2:=Qg2 (F:=F) 0 n (l.map Qa) bb ab w p (hC H V q i) nb pb u top H.length (H.length+1) (H.length+3) q i
   have s4:=Qns (F:=F) 0 n (l.map Qa) bb ab w p (hC H V q (i+1)) nb pb u top H.length (H.length+1) (H.length+3) q i (y17:=.i (i:Int))
   rw [show qA.wrap ((i:Int)+1)=((i+1:Nat):Int) by rw [QI (by omega) (by omega)];omega] at s4
   have mk:=Km (P:=Tp) (H:=hC H V q i) (t:=24) (e:=3) (k:=1) (bt:=8) (zv:=.int .i64 0) (n:=(q:Int)) u24 (by kernel_rfl) (by simp [cellsOf,Qm]) (by simp [cellsOf]) (by omega) (by omega) (by simp only [WF];omega)
   rw [qS,DF] at mk
   have erep:Blk.arr 1 (qB q (HV.int .i64 0)) true 0=zR q:=by simp [zR,bI,Qb]
   rw [erep] at mk
   have gx:(hC H V q i)[H.length+3]?=some (.arr 1 [slR (H.length+2) q] true (H.length+5)):=GG H V q i (j:=3) (by omega)
   have gz:(hC H V q i)[H.length+1]?=some (b1 (q:Int)):=GG H V q i (j:=1) (by omega)
   have gm:(hC H V q i)[H.length+2]?=some (.arr 1 (Zm H.length q i) true (rmx H.length i)):=GG H V q i (j:=2) (by omega)
   have lx:QK Tp (hC H V q i) 57 (.ptr (H.length+3) 0 0 1)=some (slR (H.length+2) q):=WV (b:=H.length+3) gx rfl rfl rfl a57 i57
   have lx':QK Tp (hC H V q i++[zR q]) 57 (.ptr (H.length+3) 0 0 1)=some (slR (H.length+2) q):=WV (b:=H.length+3) (Wb gx) rfl rfl rfl a57 i57
   have old:(Zm H.length q i)[i]?=some (.imm .lit 0 []):=by simp [Zm,hi]
   have st:=V1 (i:=i) (b:=H.length+5+i) (N:=q) (cp:=some q) (Wb (X:=[zR q]) gm) (V4 ..).symm old rfl (by intro cs h;cases h)
   have emx:max (rmx H.length i) (H.length+5+i+1)=rmx H.length (i+1):=by
    unfold rmx
    split <;> (rw [if_neg (by omega)];omega)
   rw [Qc4,emx] at st
   have eH:(hC H V q i++[zR q]).set (H.length+2) (.arr 1 (Zm H.length q (i+1)) true (rmx H.length (i+1)))=hC H V q (i+1):=by
    rw [hC,hC,qD,qD,jP _ _ (by omega),show H.length+2-H.length=2 by omega,List.replicate_succ',qD]
    rfl
   rw [eH] at st
   have s3:=Qnr (F:=F) 0 n (l.map Qa) bb ab w p (hC H V q i) nb pb u top H.length (H.length+1) (H.length+3) q i (H.length+2) (H.length+5+i) lx (ld1 gz) mk (Z6 hi) st (Yi lx lx' (by simp [same]) (sI i) (VU (sI i) (Q3 _)))
   exact sq (s1) (sq (s2) (sq (s3) (s4) (c:=sn 7655379 B65)) (c:=sn 3827689 B65)) (c:=sn 1913844 B65)) (fun i _=>by kernel_rfl) (fun i _=>Cy (by
    have:rmx H.length (i+1)≤mxs (hC H V q (i+1)):=by
     rw [hC,Wn,Wn]
     have:rmx H.length (i+1)≤mxs [bMI V,b1 (q:Int),.arr 1 (Zm H.length q (i+1)) true (rmx H.length (i+1)),.arr 1 [slR (H.length+2) q] true (H.length+5),.arr 1 [] true 0]:=mxs_all.1 (qE _) (.arr 1 (Zm H.length q (i+1)) true (rmx H.length (i+1))) (by simp)
     omega
    rw [DF]
    rw [rmx,if_neg (by omega)] at this
    omega)) (by
   have s1:=Qnq (F:=F) 0 n (l.map Qa) bb ab w p (hC H V q q) nb pb u top H.length (H.length+1) (H.length+3) q q (by omega)
   have s2:=Qg3 (F:=F) 0 n (l.map Qa) bb ab w p (hC H V q q) nb pb u top H.length (H.length+1) (H.length+3) q q
   exact sq (s1) (sqo (s2) (c:=sn 3827689 B65) (b:=sn 7655379 B65)) (c:=sn 1913844 B65)) (by simp) (by kernel_rfl) (fun i _=>by kernel_rfl)
 exact h
end
def adS (p:Int) (V g1:List Int) (w:Int) (M:List (List Int)) (s:St):List (List Int) :=
 if g1.getD s.1.toNat 0∈V∧s.2.2=w∧WD V (g1.getD s.1.toNat 0)≠WD V (g1.getD s.2.1.toNat 0) then
  adM p (V.length-1) (WD V (g1.getD s.2.1.toNat 0)) (WD V (g1.getD s.1.toNat 0)) (-1) (adM p (V.length-1) (WD V (g1.getD s.1.toNat 0)) (WD V (g1.getD s.2.1.toNat 0)) (-1)
   (adM p (V.length-1) (WD V (g1.getD s.2.1.toNat 0)) (WD V (g1.getD s.2.1.toNat 0)) 1 (adM p (V.length-1) (WD V (g1.getD s.1.toNat 0)) (WD V (g1.getD s.1.toNat 0)) 1 M)))
 else M
def zM (N:Nat):List (List Int):=qB N (qB N 0)
def mxT (p:Int) (V g1:List Int) (w:Int) (l:List St):List (List Int):=l.foldl (adS p V g1 w) (zM (V.length-1))
theorem QoK {p:Int} (hp:0<p) {V g1:List Int} {w:Int} {M:List (List Int)} (h:Ws p (V.length-1) M) (s:St):Ws p (V.length-1) (adS p V g1 w M s):=by
 unfold adS
 split
 ·exact J9 hp (J9 hp (J9 hp (J9 hp h _ _ _) _ _ _) _ _ _) _ _ _
 ·exact h
theorem Qcf {p:Int} (hp:0<p) (N:Nat):Ws p N (zM N):=⟨by simp [zM],fun r hr=>by
 rw [zG hr]
 exact ⟨by simp,fun j hj=>by rw [show (qB N (0:Int)).getD j 0=0 by simp [qI,hj]];omega⟩⟩
theorem DG {p:Int} (hp:0<p) {V g1:List Int} {w:Int}:∀(l:List St) {M:List (List Int)},Ws p (V.length-1) M→Ws p (V.length-1) (l.foldl (adS p V g1 w) M)
 | [],_,h=>h
 | s::l,_,h=>DG hp l (QoK hp h s)
section
variable {F:FuncId→Option (List HV→Option HV)} {n:Int} {l:List St} {bb ab nb pb:Nat} {w p:Int} {H:Heap} {us1 g1:List Int}
theorem Qhu (h55:F 55=none) (h86:F 86=none) (hp:1<p∧p≤2147483647) (hl:l.length≤1000) (he:Jm l=true) (hb1:H[bb]?=some (bU us1)) (hU1:Up us1 g1) (hpb:H[pb]?=some (b1 p)) (hnb:nb<H.length) (hab:ab<H.length)
  (u:Int) (top:Nat) {V:List Int} {q:Nat} (hq:q=V.length-1) {HH:Heap} (hHH:HH=hC H V q q) (hM:Mat HH (H.length+2) q (fun k=>H.length+5+k) (zM q)) :
  ∃H',RT (plF F) 65 (sn 3827706 B65) ((QW (Qt n l) (.q bb) (.q ab) (.i w) (.i p) (.q nb) (.q pb) (.i 0) (.i (u)) Ud (.map H.length) Ud Ud (.q (H.length+3)) Ud (.func 86 [] [.q (H.length+1),.q (H.length+3),.q pb]) Ud Ud Ud Ud (.i n) (.i (top:Int)) Ud Ud Ud Ud (.g (l.map Qa)) (.i ((l.length:Nat):Int)) (.i (0:Int)))) HH (.exit 6) ((QW (Qt n l) (.q bb) (.q ab) (.i w) (.i p) (.q nb) (.q pb) (.i 0) (.i (u)) Ud (.map H.length) Ud Ud (.q (H.length+3)) Ud (.func 86 [] [.q (H.length+1),.q (H.length+3),.q pb]) Ud Ud Ud Ud (.i n) (.i (top:Int)) Ud Ud Ud Ud (.g (l.map Qa)) (.i ((l.length:Nat):Int)) (.i ((l.length:Nat):Int)))) H'∧Mat H' (H.length+2) q (fun k=>H.length+5+k) (mxT p V g1 w l)∧Fx HH H' (rowS (fun k=>H.length+5+k) q):=by
 have hp0:0<p:=by omega
 have hok:∀k,Ws p q ((l.take k).foldl (adS p V g1 w) (zM q)):=fun k=>by rw [hq];exact DG hp0 _ (Qcf hp0 _)
 have hlenHH:HH.length=H.length+5+q:=by rw [hHH];exact DF ..
 have hbl:∀{b:Nat},b<H.length+5→¬rowS (fun k=>H.length+5+k) q b:=fun hb ⟨k,_,e⟩=>by
  have e:_=H.length+5+k:=e
  omega
 have hpre:∀{b:Nat} {B:Blk},H[b]?=some B→HH[b]?=some B:=fun h=>by rw [hHH,hC,qD];exact Wb h
 obtain ⟨x,E',H',r,hx,hE,h1,h2⟩:=W2 (pol':=plF F) (f:=65) (b:=sn 7655412 B65) (c:=sn 3827706 B65)
  (I:=fun k e H'=>e=(QW (Qt n l) (.q bb) (.q ab) (.i w) (.i p) (.q nb) (.q pb) (.i 0) (.i (u)) Ud (.map H.length) Ud Ud (.q (H.length+3)) Ud (.func 86 [] [.q (H.length+1),.q (H.length+3),.q pb]) Ud Ud Ud Ud (.i n) (.i (top:Int)) Ud Ud Ud Ud (.g (l.map Qa)) (.i ((l.length:Nat):Int)) (.i (k:Int)))∧Mat H' (H.length+2) q (fun k=>H.length+5+k) ((l.take k).foldl (adS p V g1 w) (zM q))∧Fx HH H' (rowS (fun k=>H.length+5+k) q))
  (Q:=fun x E' H'=>x=.exit 6∧E'=(QW (Qt n l) (.q bb) (.q ab) (.i w) (.i p) (.q nb) (.q pb) (.i 0) (.i (u)) Ud (.map H.length) Ud Ud (.q (H.length+3)) Ud (.func 86 [] [.q (H.length+1),.q (H.length+3),.q pb]) Ud Ud Ud Ud (.i n) (.i (top:Int)) Ud Ud Ud Ud (.g (l.map Qa)) (.i ((l.length:Nat):Int)) (.i ((l.length:Nat):Int)))∧Mat H' (H.length+2) q (fun k=>H.length+5+k) (mxT p V g1 w l)∧Fx HH H' (rowS (fun k=>H.length+5+k) q)) l.length
  (by
   rintro k hk e H' ⟨rfl,hM',hF⟩
   have hok':=hok k
   have hsucc:(l.take (k+1)).foldl (adS p V g1 w) (zM q)=adS p V g1 w ((l.take k).foldl (adS p V g1 w) (zM q)) (l.getD k (0,0,0)):=by
    rw [List.take_succ_eq_append_getElem hk,zZ,qI,zY hk];rfl
   have hend:=endB_iff.1 he _ (Qo (0,0,0) hk)
   rw [hsucc]
   generalize (l.take k).foldl (adS p V g1 w) (zM q)=M0 at *
   have hgs:=gs hk
   generalize hs:l.getD k (0,0,0)=s at *
   obtain ⟨a2,b2,w2⟩:=s
   simp only at hend
   obtain ⟨ea,eb⟩:=hend
   have hHB:∀{b:Nat} {B:Blk},H[b]?=some B→H'[b]?=some B:=fun h=>by
    have hb:=JR h
    rw [hF.eq _ (hbl (by omega))];exact hpre h
   have hCat:∀{j:Nat} (hj:j<5),H'[H.length+j]?=[bMI V,b1 (q:Int),.arr 1 (Zm H.length q q) true (rmx H.length q),.arr 1 [slR (H.length+2) q] true (H.length+5),.arr 1 [] true 0][j]?:=fun hj=>by
    rw [hF.eq _ (hbl (by omega)),hHH];exact GG H V q q hj
   have kB:H'[H.length]?=some (bMI V):=hCat (j:=0) (by omega)
   have zB:H'[H.length+1]?=some (b1 (q:Int)):=hCat (j:=1) (by omega)
   have xB:H'[H.length+3]?=some (.arr 1 [slR (H.length+2) q] true (H.length+5)):=hCat (j:=3) (by omega)
   have pB:=hHB hpb
   have bB1:=hHB hb1
   have s1:=Qnv (F:=F) 0 n (l.map Qa) bb ab w p H' nb pb u top H.length (H.length+1) (H.length+3) l.length k (by omega)
   have s2:=Qg4 (F:=F) 0 n (l.map Qa) bb ab w p H' nb pb u top H.length (H.length+1) (H.length+3) l.length k
   have hT:=Qrk H' (bT (a2,b2,w2))
   have l0:=ldT hT 0 a2 rfl
   have l1:=ldT hT 1 b2 rfl
   have l2:=ldT hT 2 w2 rfl
   obtain ⟨N1,c1⟩:=CallsTo.from (JY (F:=F) h55 (Wb (X:=[bT (a2,b2,w2)]) bB1) hU1 (v:=a2) ea.1 ea.2)
   obtain ⟨N2,c2⟩:=CallsTo.from (JY (F:=F) h55 (Wb (X:=[bT (a2,b2,w2)]) bB1) hU1 (v:=b2) eb.1 eb.2)
   have m1:=(Qcd (Wb (X:=[bT (a2,b2,w2)]) kB) (g1.getD a2.toNat 0)).1
   have m2:=(Qcd (Wb (X:=[bT (a2,b2,w2)]) kB) (g1.getD b2.toNat 0)).2
   have hRl:∀{G:Heap},G.length=H'.length→∀i,i<q→(fun k=>H.length+5+k) i<G.length:=fun hG i hi=>by
    rw [hG,hF.ln,hlenHH];show H.length+5+i<_;omega
   have fin:∀{H4:Heap} {E0:Env} {X0:HV} {i0:Int} {ok:Bool} {j0:Int},Mat H4 (H.length+2) q (fun k=>H.length+5+k) (adS p V g1 w M0 (a2,b2,w2))→Fx H' H4 (rowS (fun k=>H.length+5+k) q) →
     RT (plF F) 65 (sn 61243302 B65) ((QW (Qt n l) (.q bb) (.q ab) (.i w) (.i p) (.q nb) (.q pb) (.i 0) (.i (u)) Ud (.map H.length) Ud Ud (.q (H.length+3)) Ud (.func 86 [] [.q (H.length+1),.q (H.length+3),.q pb]) Ud Ud Ud Ud (.i n) (.i (top:Int)) Ud Ud Ud Ud (.g (l.map Qa)) (.i ((l.length:Nat):Int)) (.i (k:Int)))) H' .normal ((QW (Qt n l) (.q bb) (.q ab) (.i w) (.i p) (.q nb) (.q pb) (.i 0) (.i (u)) Ud (.map H.length) Ud Ud (.q (H.length+3)) Ud (.func 86 [] [.q (H.length+1),.q (H.length+3),.q pb]) X0 (.i i0) (.bool ok) (.i j0) (.i n) (.i (top:Int)) Ud Ud Ud Ud (.g (l.map Qa)) (.i ((l.length:Nat):Int)) (.i (k:Int)))) (H4++[bT (a2,b2,w2)]) →
     ∃E0 H1,RT (plF F) 65 (sn 7655412 B65) ((QW (Qt n l) (.q bb) (.q ab) (.i w) (.i p) (.q nb) (.q pb) (.i 0) (.i (u)) Ud (.map H.length) Ud Ud (.q (H.length+3)) Ud (.func 86 [] [.q (H.length+1),.q (H.length+3),.q pb]) Ud Ud Ud Ud (.i n) (.i (top:Int)) Ud Ud Ud Ud (.g (l.map Qa)) (.i ((l.length:Nat):Int)) (.i (k:Int)))) H' .normal E0 H1∧Qy (plF F) 65 (sn 7655412 B65) E0=(QW (Qt n l) (.q bb) (.q ab) (.i w) (.i p) (.q nb) (.q pb) (.i 0) (.i (u)) Ud (.map H.length) Ud Ud (.q (H.length+3)) Ud (.func 86 [] [.q (H.length+1),.q (H.length+3),.q pb]) Ud Ud Ud Ud (.i n) (.i (top:Int)) Ud Ud Ud Ud (.g (l.map Qa)) (.i ((l.length:Nat):Int)) (.i ((k+1:Nat):Int)))∧Mat (gc H'.length (Wc (Qy (plF F) 65 (sn 7655412 B65) E0)) H1) (H.length+2) q (fun k=>H.length+5+k) (adS p V g1 w M0 (a2,b2,w2))∧Fx HH (gc H'.length (Wc (Qy (plF F) 65 (sn 7655412 B65) E0)) H1) (rowS (fun k=>H.length+5+k) q):=by
    intro H4 E0 X0 i0 ok j0 g1' g2' s3
    have s4:=QnB (F:=F) 0 n (l.map Qa) bb ab w p (H4++[bT (a2,b2,w2)]) nb pb u top H.length (H.length+1) (H.length+3) l.length k (y20:=X0) (y21:=.i i0) (y22:=.bool ok) (y23:=.i j0)
    rw [show qA.wrap ((k:Int)+1)=((k+1:Nat):Int) by rw [QI (by omega) (by omega)];omega] at s4
    have e1:Qy (plF F) 65 (sn 7655412 B65) ((QW (Qt n l) (.q bb) (.q ab) (.i w) (.i p) (.q nb) (.q pb) (.i 0) (.i (u)) Ud (.map H.length) Ud Ud (.q (H.length+3)) Ud (.func 86 [] [.q (H.length+1),.q (H.length+3),.q pb]) X0 (.i i0) (.bool ok) (.i j0) (.i n) (.i (top:Int)) Ud Ud Ud Ud (.g (l.map Qa)) (.i ((l.length:Nat):Int)) (.i ((k+1:Nat):Int))))=(QW (Qt n l) (.q bb) (.q ab) (.i w) (.i p) (.q nb) (.q pb) (.i 0) (.i (u)) Ud (.map H.length) Ud Ud (.q (H.length+3)) Ud (.func 86 [] [.q (H.length+1),.q (H.length+3),.q pb]) Ud Ud Ud Ud (.i n) (.i (top:Int)) Ud Ud Ud Ud (.g (l.map Qa)) (.i ((l.length:Nat):Int)) (.i ((k+1:Nat):Int))):=by kernel_rfl
    have key:∀E1,E1=(QW (Qt n l) (.q bb) (.q ab) (.i w) (.i p) (.q nb) (.q pb) (.i 0) (.i (u)) Ud (.map H.length) Ud Ud (.q (H.length+3)) Ud (.func 86 [] [.q (H.length+1),.q (H.length+3),.q pb]) Ud Ud Ud Ud (.i n) (.i (top:Int)) Ud Ud Ud Ud (.g (l.map Qa)) (.i ((l.length:Nat):Int)) (.i ((k+1:Nat):Int)))→Mat (gc H'.length (Wc E1) (H4++[bT (a2,b2,w2)])) (H.length+2) q (fun k=>H.length+5+k) (adS p V g1 w M0 (a2,b2,w2))∧Fx HH (gc H'.length (Wc E1) (H4++[bT (a2,b2,w2)])) (rowS (fun k=>H.length+5+k) q):=by
     rintro _ rfl
     have hb:Wc ((QW (Qt n l) (.q bb) (.q ab) (.i w) (.i p) (.q nb) (.q pb) (.i 0) (.i (u)) Ud (.map H.length) Ud Ud (.q (H.length+3)) Ud (.func 86 [] [.q (H.length+1),.q (H.length+3),.q pb]) Ud Ud Ud Ud (.i n) (.i (top:Int)) Ud Ud Ud Ud (.g (l.map Qa)) (.i ((l.length:Nat):Int)) (.i ((k+1:Nat):Int))))≤H4.length:=by
      have:=JR hpb
      have:=JR hb1
      rw [g2'.ln,hF.ln,hlenHH]
      simp only [Wc,bnd,bndL,Qt]
      omega
     have hm:mxs (H4++[bT (a2,b2,w2)])≤H4.length:=by
      rw [Wn]
      have:=g1'.mm.mx
      show max _ (max 0 0)≤_
      omega
     rw [← g2'.ln,VX hm hb]
     exact ⟨g1',hF.trans g2'⟩
    exact ⟨_,_,sq (s1) (sq (s2) (sq (s3) (s4) (c:=sn 30621651 B65)) (c:=sn 15310825 B65)) (c:=sn 7655412 B65),e1,key _ e1⟩
   by_cases d1:g1.getD a2.toNat 0∈V
   ·rw [decide_eq_true d1] at m1
    by_cases d2:w2=w
    ·by_cases d3:WD V (g1.getD a2.toNat 0)=WD V (g1.getD b2.toNat 0)
     ·have s3:=Qnx (F:=F) (max N1 N2) n (l.map Qa) bb ab w p H' nb pb u top H.length (H.length+1) (H.length+3) l.length k a2 b2 w2 hgs (Da _) (Db H' (a2,b2,w2)) (QcW _) l0 (fun kf hk=>c1 kf (by omega)) m1 (QcX _) l1 (fun kf hk=>c2 kf (by omega)) m2 (QlC _) l2 d2 (by rw [d3])
      have ea:adS p V g1 w M0 (a2,b2,w2)=M0:=if_neg fun h=>h.2.2 d3
      rw [ea] at fin ⊢
      exact fin (E0:=[]) hM' (Fx.refl ..) s3
     ·have h0:Mat (H'++[bT (a2,b2,w2)]) (H.length+2) q (fun k=>H.length+5+k) M0:=by
       obtain ⟨mx,y1,y2⟩:=hM'.blk
       exact ⟨hM'.ml,hM'.rl,hM'.ne,hM'.inj,⟨mx,by rw [qJ];omega,Wb y2⟩,fun i hi=>Wb (hM'.row i hi),hM'.mm.app (by show max 0 0≤_;omega) (by have h:=G8 (a2,b2,w2);simp only [Qw,sameL,h,beq_self_eq_true,jJ])⟩
      have hbl2:∀{G G':Heap} {b:Nat} {B:Blk},Fx G G' (rowS (fun k=>H.length+5+k) q)→b<H.length+5→G[b]?=some B→G'[b]?=some B:=fun hf hb h=>by rw [hf.eq _ (hbl hb)];exact h
      have pl:=JR hpb
      have z0:=Wb (X:=[bT (a2,b2,w2)]) zB
      have x0:=Wb (X:=[bT (a2,b2,w2)]) xB
      have p0:=Wb (X:=[bT (a2,b2,w2)]) pB
      generalize hi:WD V (g1.getD a2.toNat 0)=i at *
      generalize hj:WD V (g1.getD b2.toNat 0)=j at *
      have k1:=Ub (F:=F) h86 hp h0 hok' z0 x0 p0 i i (d:=1) (.inl rfl)
      have f1:=Z8 p q (fun k=>H.length+5+k) M0 i i 1 (H'++[bT (a2,b2,w2)])
      have h1:=h0.ad (p:=p) i i 1
      have o1:=J9 hp0 hok' i i 1
      have k2:=Ub (F:=F) h86 hp h1 o1 (hbl2 f1 (by omega) z0) (hbl2 f1 (by omega) x0) (hbl2 f1 (by omega) p0) j j (d:=1) (.inl rfl)
      have f2:=f1.trans (Z8 p q (fun k=>H.length+5+k) (adM p q i i 1 M0) j j 1 _)
      have h2:=h1.ad (p:=p) j j 1
      have o2:=J9 hp0 o1 j j 1
      have k3:=Ub (F:=F) h86 hp h2 o2 (hbl2 f2 (by omega) z0) (hbl2 f2 (by omega) x0) (hbl2 f2 (by omega) p0) i j (d:=-1) (.inr rfl)
      have f3:=f2.trans (Z8 p q (fun k=>H.length+5+k) (adM p q j j 1 (adM p q i i 1 M0)) i j (-1) _)
      have h3:=h2.ad (p:=p) i j (-1)
      have o3:=J9 hp0 o2 i j (-1)
      have k4:=Ub (F:=F) h86 hp h3 o3 (hbl2 f3 (by omega) z0) (hbl2 f3 (by omega) x0) (hbl2 f3 (by omega) p0) j i (d:=-1) (.inr rfl)
      have e1:=Ua (p:=p) (M:=M0) (i:=i) (j:=i) (d:=1) (X:=[bT (a2,b2,w2)]) (hRl (G:=H') rfl)
      have n1:=(Z8 p q (fun k=>H.length+5+k) M0 i i 1 H').ln
      rw [e1] at k1 k2 k3 k4
      have e2:=Ua (p:=p) (M:=adM p q i i 1 M0) (i:=j) (j:=j) (d:=1) (X:=[bT (a2,b2,w2)]) (hRl n1)
      have n2:=((Z8 p q (fun k=>H.length+5+k) M0 i i 1 H').trans (Z8 p q (fun k=>H.length+5+k) (adM p q i i 1 M0) j j 1 _)).ln
      rw [e2] at k2 k3 k4
      have e3:=Ua (p:=p) (M:=adM p q j j 1 (adM p q i i 1 M0)) (i:=i) (j:=j) (d:=-1) (X:=[bT (a2,b2,w2)]) (hRl n2)
      have n3:=(((Z8 p q (fun k=>H.length+5+k) M0 i i 1 H').trans (Z8 p q (fun k=>H.length+5+k) (adM p q i i 1 M0) j j 1 _)).trans (Z8 p q (fun k=>H.length+5+k) (adM p q j j 1 (adM p q i i 1 M0)) i j (-1) _)).ln
      rw [e3] at k3 k4
      have e4:=Ua (p:=p) (M:=adM p q i j (-1) (adM p q j j 1 (adM p q i i 1 M0))) (i:=j) (j:=i) (d:=-1) (X:=[bT (a2,b2,w2)]) (hRl n3)
      rw [e4] at k4
      obtain ⟨M1,k1⟩:=CallsTo.from k1
      obtain ⟨M2,k2⟩:=CallsTo.from k2
      obtain ⟨M3,k3⟩:=CallsTo.from k3
      obtain ⟨M4,k4⟩:=CallsTo.from k4
      have s3:=Qny (F:=F) (max (max N1 N2) (max (max M1 M2) (max M3 M4))) n (l.map Qa) bb ab w p H' nb pb u top H.length (H.length+1) (H.length+3) l.length k a2 b2 w2 hgs (Da _) (Db H' (a2,b2,w2)) (QcW _) l0 (fun kf hk=>c1 kf (by omega)) m1 (QcX _) l1 (fun kf hk=>c2 kf (by omega)) m2 (QlC _) l2 d2 (by omega) (fun kf hk=>k1 kf (by omega)) (fun kf hk=>k2 kf (by omega)) (fun kf hk=>k3 kf (by omega)) (fun kf hk=>k4 kf (by omega))
      have ea:adS p V g1 w M0 (a2,b2,w2)=adM p q j i (-1) (adM p q i j (-1) (adM p q j j 1 (adM p q i i 1 M0))):=by
       unfold adS
       rw [if_pos ⟨d1,d2,by show WD V (g1.getD a2.toNat 0)≠WD V (g1.getD b2.toNat 0);rw [hi,hj];exact d3⟩,← hq]
       show adM p q (WD V (g1.getD b2.toNat 0)) (WD V (g1.getD a2.toNat 0)) (-1) (adM p q (WD V (g1.getD a2.toNat 0)) (WD V (g1.getD b2.toNat 0)) (-1) (adM p q (WD V (g1.getD b2.toNat 0)) (WD V (g1.getD b2.toNat 0)) 1 (adM p q (WD V (g1.getD a2.toNat 0)) (WD V (g1.getD a2.toNat 0)) 1 M0)))=_
       rw [hi,hj]
      rw [ea] at fin ⊢
      exact fin (E0:=[]) ((((hM'.ad (p:=p) i i 1).ad (p:=p) j j 1).ad (p:=p) i j (-1)).ad (p:=p) j i (-1)) ((((Z8 ..).trans (Z8 ..)).trans (Z8 ..)).trans (Z8 ..)) s3
    ·have s3:=Qnz (F:=F) (max N1 N2) n (l.map Qa) bb ab w p H' nb pb u top H.length (H.length+1) (H.length+3) l.length k a2 b2 w2 hgs (Da _) (Db H' (a2,b2,w2)) (QcW _) l0 (fun kf hk=>c1 kf (by omega)) m1 (QcX _) l1 (fun kf hk=>c2 kf (by omega)) m2 (QlC _) l2 d2
     have ea:adS p V g1 w M0 (a2,b2,w2)=M0:=if_neg fun h=>d2 h.2.1
     rw [ea] at fin ⊢
     exact fin (E0:=[]) hM' (Fx.refl ..) s3
   ·rw [decide_eq_false d1,Qcc d1] at m1
    have s3:=QnA (F:=F) (max N1 N2) n (l.map Qa) bb ab w p H' nb pb u top H.length (H.length+1) (H.length+3) l.length k a2 b2 w2 hgs (Da _) (Db H' (a2,b2,w2)) (QcW _) l0 (fun kf hk=>c1 kf (by omega)) m1 (QcX _) l1 (fun kf hk=>c2 kf (by omega)) m2
    have ea:adS p V g1 w M0 (a2,b2,w2)=M0:=if_neg fun h=>d1 h.1
    rw [ea] at fin ⊢
    exact fin (E0:=[]) hM' (Fx.refl ..) s3)
  (by
   rintro e H' ⟨rfl,hM',hF⟩
   rw [qV] at hM'
   have s1:=Qnw (F:=F) 0 n (l.map Qa) bb ab w p H' nb pb u top H.length (H.length+1) (H.length+3) l.length l.length (by omega)
   have s2:=Qg5 (F:=F) 0 n (l.map Qa) bb ab w p H' nb pb u top H.length (H.length+1) (H.length+3) l.length l.length
   exact ⟨_,_,_,sq (s1) (sqo (s2) (c:=sn 15310825 B65) (b:=sn 30621651 B65)) (c:=sn 7655412 B65),by simp,rfl,rfl,by rw [mxT,← hq];exact hM',hF⟩)
  (by kernel_rfl) (by rintro k e H' ⟨rfl,_⟩;kernel_rfl) (e:=(QW (Qt n l) (.q bb) (.q ab) (.i w) (.i p) (.q nb) (.q pb) (.i 0) (.i (u)) Ud (.map H.length) Ud Ud (.q (H.length+3)) Ud (.func 86 [] [.q (H.length+1),.q (H.length+3),.q pb]) Ud Ud Ud Ud (.i n) (.i (top:Int)) Ud Ud Ud Ud (.g (l.map Qa)) (.i ((l.length:Nat):Int)) (.i (0:Int)))) (H:=HH) ⟨rfl,hM,Fx.refl ..⟩
 subst hx hE
 exact ⟨H',r,h1,h2⟩
end
def spK (p:Int) (g1 g2:List Int) (w:Int) (l:List St) (n:Nat):Nat→Int
 | 0=>1
 | k+1=>if (vtG g1 g2 n (k:Int)).length<2 then spK p g1 g2 w l n k else
   spK p g1 g2 w l n k*gz p (Zx p) ((vtG g1 g2 n (k:Int)).length-1) ((vtG g1 g2 n (k:Int)).length-1) 0 1 (mxT p (vtG g1 g2 n (k:Int)) g1 w l)%p
theorem Cz {p:Int} (hp:1<p) (g1 g2:List Int) (w:Int) (l:List St) (n:Nat):∀k,0≤spK p g1 g2 w l n k∧spK p g1 g2 w l n k<p
 | 0=>by rw [spK];omega
 | k+1=>by
  rw [spK]
  split
  ·exact Cz hp g1 g2 w l n k
  ·exact ⟨qF _ (by omega),qG _ (by omega)⟩
section
variable {F:FuncId→Option (List HV→Option HV)} {n:Int} {l:List St} {bb ab nb pb:Nat} {w p:Int} {H:Heap} {us1 g1 us2 g2:List Int}
theorem DH (V:List Int):Qw [bMI V] [bMI V]=true:=by
 simp only [bMI,Qw,WW Vv,WW (f:=fun (i:Nat)=>HV.int .i64 (i:Int)) (fun i=>by simp [same]),beq_self_eq_true,jJ]
theorem Ok.hC (h:Ok H) (V:List Int) (q:Nat):Ok (hC H V q 0):=by
 rw [Go.Proofs.Ytiejmoglooaalaa.hC,wA,jQ]
 refine h.app ?_ (QA (DH V) (QA (Q3 [(q:Int)]) (QA ?_ (QA ?_ rfl))))
 ·show max 0 (max 0 (max (rmx H.length 0) (max (H.length+5) (max 0 0))))≤H.length+5
  rw [rmx,if_pos rfl];omega
 ·simp only [Qw,Zm,WW (f:=fun k=>if k<0 then slR (H.length+5+k) q else .imm .lit 0 []) (fun k=>by split <;> simp [same,sameL]),beq_self_eq_true,jJ]
 ·simp [Qw,sameL,same]
theorem Mat.hC (h:Ok H) (V:List Int) (q:Nat):Mat (hC H V q q) (H.length+2) q (fun k=>H.length+5+k) (zM q):=by
 have ho:Ok (Go.Proofs.Ytiejmoglooaalaa.hC H V q q):=by
  have e:Go.Proofs.Ytiejmoglooaalaa.hC H V q q=H++([bMI V,b1 (q:Int),.arr 1 (Zm H.length q q) true (rmx H.length q),.arr 1 [slR (H.length+2) q] true (H.length+5),.arr 1 [] true 0]++qB q (zR q)):=by rw [Go.Proofs.Ytiejmoglooaalaa.hC,qD]
  rw [e]
  refine h.app ?_ (VU (QA (DH V) (QA (Q3 [(q:Int)]) (QA ?_ (QA ?_ rfl)))) (sameH_all.2 fun B hB=>by rw [zG hB];exact Q3 _))
  ·rw [Wn]
   have:mxs (qB q (zR q))≤0:=mxs_all.2 fun B hB=>by rw [zG hB];exact qE 0
   show max (max 0 (max 0 (max (rmx H.length q) (max (H.length+5) (max 0 0))))) _≤_
   simp only [qJ,qW,jU,jN]
   rw [rmx]
   split <;> omega
  ·rw [GF];exact Y8 _ _ _
  ·simp [Qw,sameL,same]
 have hz:∀i,i<q→(zM q).getD i []=qB q 0:=fun i hi=>by simp [zM,qI,hi]
 refine ⟨by simp [zM],fun i hi=>by rw [hz i hi];simp,fun i _=>by show H.length+5+i≠_;omega,fun i j _ _ e=>by have e:H.length+5+i=H.length+5+j:=e;omega,⟨rmx H.length q,?_,?_⟩,fun i hi=>?_,ho⟩
 ·rw [DF,rmx];split <;> omega
 ·have:=GG H V q q (j:=2) (by omega)
  rw [this,GF];rfl
 ·rw [hz i hi]
  show (Go.Proofs.Ytiejmoglooaalaa.hC H V q q)[H.length+5+i]?=_
  rw [Go.Proofs.Ytiejmoglooaalaa.hC,qR (by simp only [qJ,qW,jU];omega)]
  simp only [qJ,qW,jU]
  rw [show H.length+5+i-(H.length+(0+1+1+1+1+1))=i by omega,List.getElem?_replicate,if_pos hi]
theorem Qfd (h55:F 55=none) (h86:F 86=none) (h87:F 87=none) (h45:F 45=some Xw) (hp:1<p∧p≤2147483647) (hn:0≤n∧n≤16) (hl:l.length≤1000) (he:Jm l=true)
  (hb1:H[bb]?=some (bU us1)) (hU1:Up us1 g1) (hb2:H[ab]?=some (bU us2)) (hU2:Up us2 g2) (hnb:H[nb]?=some (bN n l)) (hpb:H[pb]?=some (b1 p)) (hok:Ok H) {top:Nat} (ht:(top:Int)<n) :
  ∃E0 H1,RT (plF F) 65 (sn 116 B65) ((QW (Qt n l) (.q bb) (.q ab) (.i w) (.i p) (.q nb) (.q pb) (.i 0) (.i (spK p g1 g2 w l n.toNat top)) Ud Ud Ud Ud Ud Ud Ud Ud Ud Ud Ud (.i n) (.i (top:Int)) Ud Ud Ud Ud Ud Ud Ud)) H .normal E0 H1∧Qy (plF F) 65 (sn 116 B65) E0=(QW (Qt n l) (.q bb) (.q ab) (.i w) (.i p) (.q nb) (.q pb) (.i 0) (.i (spK p g1 g2 w l n.toNat (top+1))) Ud Ud Ud Ud Ud Ud Ud Ud Ud Ud Ud (.i n) (.i ((top+1:Nat):Int)) Ud Ud Ud Ud Ud Ud Ud)∧Pre H H1∧Ok H1:=by
 have hsp:=Cz hp.1 g1 g2 w l n.toNat top
 have hV:=Qhq g1 g2 n.toNat (top:Int)
 have hdef:spK p g1 g2 w l n.toNat (top+1)=if (vtG g1 g2 n.toNat (top:Int)).length<2 then spK p g1 g2 w l n.toNat top else
   spK p g1 g2 w l n.toNat top*gz p (Zx p) ((vtG g1 g2 n.toNat (top:Int)).length-1) ((vtG g1 g2 n.toNat (top:Int)).length-1) 0 1 (mxT p (vtG g1 g2 n.toNat (top:Int)) g1 w l)%p:=rfl
 rw [hdef]
 generalize spK p g1 g2 w l n.toNat top=u at *
 have s1:=Qm9 (F:=F) 0 n (l.map Qa) bb ab w p H nb pb u top ht
 have s2:=QgY (F:=F) 0 n (l.map Qa) bb ab w p H nb pb u top
 have s3:=Qnb (F:=F) 0 n (l.map Qa) bb ab w p H nb pb u top
 have s4:=Qnc (F:=F) 0 n (l.map Qa) bb ab w p H nb pb u top H.length (H0:=H++[bMI []]) rfl
 have s5:=Qnd (F:=F) 0 n (l.map Qa) bb ab w p (H++[bMI []]) nb pb u top H.length (Y1 (Wb hnb))
 have s6:=QoJ (F:=F) (w:=w) (p:=p) (nb:=nb) (pb:=pb) (l:=l) h55 hn hb1 hU1 hb2 hU2 u top
 generalize hVd:vtG g1 g2 n.toNat (top:Int)=V at *
 have hkb:(H++[bMI V])[H.length]?=some (bMI V):=by simp
 have hwr:qA.wrap ((V.length:Int)-1)=(V.length:Int)-1:=WN (by omega) (by omega)
 have al:some (Wt (.int .i64 0) (H++[bMI V]))=some (.ptr (H.length+1) 0 0 1,H++[bMI V,b1 0]):=by
  have:(H++[bMI V]).length=H.length+1:=by simp
  simp only [Wt,this,qD];rfl
 have st:=Kn (H:=H++[bMI V,b1 0]) (k:=H.length+1) (o:=[0]) (by simp;rfl) (y:=0) (by decide) ((V.length:Int)-1)
 have est:(H++[bMI V,b1 0]).set (H.length+1) (bI ([(0:Int)].set 0 ((V.length:Int)-1)))=H++[bMI V,b1 ((V.length:Int)-1)]:=by
  rw [jP _ _ (by omega),show H.length+1-H.length=1 by omega];rfl
 rw [est] at st
 have s7:=Qnk (F:=F) 0 n (l.map Qa) bb ab w p (H++[bMI V]) nb pb u top H.length (H.length+1) 0 (n0:=(V.length:Int)) (H0:=H++[bMI V,b1 0]) (H1:=H++[bMI V,b1 ((V.length:Int)-1)]) (y31:=.i n) (y32:=.i (n.toNat:Int)) (Qce hkb) al (by rw [hwr];exact st)
 have hzb:(H++[bMI V,b1 ((V.length:Int)-1)])[H.length+1]?=some (b1 ((V.length:Int)-1)):=by
  rw [qR (by omega),show H.length+1-H.length=1 by omega];rfl
 have wr2:qA.wrap ((top:Int)+1)=((top+1:Nat):Int):=by rw [QI (by omega) (by omega)];omega
 by_cases c:V.length<2
 ·rw [if_pos c]
  have s8:=Qnl (F:=F) 0 n (l.map Qa) bb ab w p (H++[bMI V,b1 ((V.length:Int)-1)]) nb pb u top H.length (H.length+1) ((V.length:Int)-1) (y31:=.i n) (y32:=.i (n.toNat:Int)) (ld1 hzb) (by omega)
  have s9:=QeY (F:=F) 0 n (l.map Qa) bb ab w p (H++[bMI V,b1 ((V.length:Int)-1)]) nb pb u top (y12:=.i (top:Int)) (y13:=.map H.length) (y15:=.q (H.length+1)) (y31:=.i n) (y32:=.i (n.toNat:Int))
  rw [wr2] at s9
  exact ⟨_,_,sq (s1) (sq (s2) (sq (bke (c:=sn 934 B65) (sq (s3) (sq (s4) (sq (sq (s5) (bke (c:=sn 29901 B65) (s6)) (c:=sn 14950 B65)) (sq (s7) (sqo (s8) (c:=sn 29903 B65) (b:=sn 59807 B65)) (c:=sn 14951 B65)) (c:=sn 7475 B65)) (c:=sn 3737 B65)) (c:=sn 1868 B65))) (s9) (c:=sn 467 B65)) (c:=sn 233 B65)) (c:=sn 116 B65),by kernel_rfl,Pre.app ..,hok.app (by show max 0 (max 0 0)≤_;omega) (QA (DH V) (Q3 [_]))⟩
 rw [if_neg c]
 obtain ⟨q,hq⟩:∃q:Nat,q=V.length-1:=⟨_,rfl⟩
 have eq:(V.length:Int)-1=(q:Int):=by omega
 rw [eq] at s7 hzb
 have s8:=Qnm (F:=F) 0 n (l.map Qa) bb ab w p (H++[bMI V,b1 (q:Int)]) nb pb u top H.length (H.length+1) (q:Int) (y31:=.i n) (y32:=.i (n.toNat:Int)) (ld1 hzb) (by omega)
 have mk:=Km (P:=Tp) (H:=H++[bMI V,b1 (q:Int)]) (t:=57) (e:=24) (k:=1) (bt:=24) (zv:=.imm .lit 0 []) (n:=(q:Int)) u57 (by kernel_rfl) (by simp [cellsOf,Qm]) (by simp [cellsOf]) (by omega) (by omega) (by simp only [WF];omega)
 rw [qS] at mk
 have len2:(H++[bMI V,b1 (q:Int)]).length=H.length+2:=by simp
 rw [len2] at mk
 have s9:RT (plF F) 65 (sn 119614 B65) ((QW (Qt n l) (.q bb) (.q ab) (.i w) (.i p) (.q nb) (.q pb) (.i 0) (.i (u)) (.i (top:Int)) (.map H.length) Ud (.q (H.length+1)) Ud Ud Ud Ud Ud Ud Ud (.i n) (.i (top:Int)) (.i n) (.i ((n.toNat:Nat):Int)) Ud Ud Ud Ud Ud)) (H++[bMI V,b1 (q:Int)]) .normal ((QW (Qt n l) (.q bb) (.q ab) (.i w) (.i p) (.q nb) (.q pb) (.i 0) (.i (u)) (.i (top:Int)) (.map H.length) Ud (.q (H.length+1)) (.q (H.length+3)) Ud Ud Ud Ud Ud Ud (.i n) (.i (top:Int)) (.i n) (.i ((n.toNat:Nat):Int)) Ud Ud Ud Ud Ud)) (hC H V q 0):=by
  have al2:some (HV.ptr (H++[bMI V,b1 (q:Int)]++[Blk.arr 1 (qB q (.imm .lit 0 [])) true 0]).length 0 0 1,H++[bMI V,b1 (q:Int)]++[Blk.arr 1 (qB q (.imm .lit 0 [])) true 0]++[Blk.arr 1 [HV.sl ((H++[bMI V,b1 (q:Int)]++[Blk.arr 1 (qB q (.imm .lit 0 [])) true 0]).length+1) 0 0 none 0 1] true ((H++[bMI V,b1 (q:Int)]++[Blk.arr 1 (qB q (.imm .lit 0 [])) true 0]).length+2),Blk.arr 1 [] true 0])
    = some (HV.ptr (H.length+3) 0 0 1,H++[bMI V,b1 (q:Int),Blk.arr 1 (qB q (.imm .lit 0 [])) true 0,Blk.arr 1 [HV.sl (H.length+4) 0 0 none 0 1] true (H.length+5),Blk.arr 1 [] true 0]):=by
   have:(H++[bMI V,b1 (q:Int)]++[Blk.arr 1 (qB q (.imm .lit 0 [])) true 0]).length=H.length+3:=by simp
   rw [this,qD,qD];rfl
  have g3:(H++[bMI V,b1 (q:Int),Blk.arr 1 (qB q (.imm .lit 0 [])) true 0,Blk.arr 1 [HV.sl (H.length+4) 0 0 none 0 1] true (H.length+5),Blk.arr 1 [] true 0])[H.length+3]?=some (Blk.arr 1 [HV.sl (H.length+4) 0 0 none 0 1] true (H.length+5)):=by
   rw [qR (by omega),show H.length+3-H.length=3 by omega];rfl
  have st3:Wf Tp (H++[bMI V,b1 (q:Int),Blk.arr 1 (qB q (.imm .lit 0 [])) true 0,Blk.arr 1 [HV.sl (H.length+4) 0 0 none 0 1] true (H.length+5),Blk.arr 1 [] true 0]) 57 (.ptr (H.length+3) 0 0 1) (slR (H.length+2) q)=some (hC H V q 0):=by
   have hz:Qr Tp 57=some 1:=by kernel_rfl
   simp only [ST,Wf,g3,hz]
   rw [if_pos ⟨rfl,rfl⟩]
   show (if _ then _ else _)=_
   rw [if_pos ⟨by simp [cellsOf],by simp [cellsOf,Qm],by simp [cellsOf]⟩]
   have em:max (H.length+5) (H.length+2+1)=H.length+5:=by omega
   show some (List.set _ (H.length+3) (Blk.arr 1 [slR (H.length+2) q] true (max (H.length+5) (H.length+2+1))))=_
   rw [em,hC,wA,jQ,jP _ _ (by omega),show H.length+3-H.length=3 by omega,Qbb]
   rfl
  exact Qnn (F:=F) 0 n (l.map Qa) bb ab w p (H++[bMI V,b1 (q:Int)]) nb pb u top H.length (H.length+1) (H.length+3) (H.length+2) q (y31:=.i n) (y32:=.i (n.toNat:Int)) (ld1 hzb) mk al2 st3
 have gx:∀i,(hC H V q i)[H.length+3]?=some (.arr 1 [slR (H.length+2) q] true (H.length+5)):=fun i=>GG H V q i (j:=3) (by omega)
 have lx:∀{G:Heap},G[H.length+3]?=some (.arr 1 [slR (H.length+2) q] true (H.length+5))→QK Tp G 57 (.ptr (H.length+3) 0 0 1)=some (slR (H.length+2) q):=fun h=>WV (b:=H.length+3) h rfl rfl rfl a57 i57
 have s10:=Qno (F:=F) 0 n (l.map Qa) bb ab w p (hC H V q 0) nb pb u top H.length (H.length+1) (H.length+3) (H.length+2) q (y31:=.i n) (y32:=.i (n.toNat:Int)) (lx (gx 0))
 have s11:=Qht (F:=F) (H:=H) (n:=n) (l:=l) (bb:=bb) (ab:=ab) (nb:=nb) (pb:=pb) (w:=w) (p:=p) u top (V:=V) (q:=q) (by omega) (hok.hC V q).sm
 have s12:=Qnt (F:=F) 0 n (l.map Qa) bb ab w p (hC H V q q) nb pb u top H.length (H.length+1) (H.length+3) (y60:=.i (q:Int)) (y61:=.i (q:Int))
 have gl:∀{b:Nat} {B:Blk},H[b]?=some B→(hC H V q q)[b]?=some B:=fun h=>by rw [hC,qD];exact Wb h
 have s13:=Qnu (F:=F) 0 n (l.map Qa) bb ab w p (hC H V q q) nb pb u top H.length (H.length+1) (H.length+3) (y60:=.i (q:Int)) (y61:=.i (q:Int)) (J6 (gl hnb))
 rw [qP] at s13
 have hM:=Mat.hC hok V q
 obtain ⟨H2,s14,hM2,hF2⟩:=Qhu (F:=F) (n:=n) (ab:=ab) (nb:=nb) h55 h86 hp hl he hb1 hU1 hpb (JR hnb) (JR hb2) u top hq rfl hM (w:=w)
 have hbl:∀{b:Nat},b<H.length+5→¬rowS (fun k=>H.length+5+k) q b:=fun hb ⟨k,_,e⟩=>by
  have e:_=H.length+5+k:=e
  omega
 have hokM:Ws p q (mxT p V g1 w l):=by rw [hq];exact DG (by omega) _ (Qcf (by omega) _)
 obtain ⟨H3,d1,d2,d3⟩:=Qe4 (F:=F) h87 h45 hp (by omega) hM2 hokM
 have hdr:=Qa5 (p:=p) hp.1 (inv:=Zx p) (N:=q) q 0 1 (mxT p V g1 w l) (by omega) (by omega)
 generalize gz p (Zx p) q q 0 1 (mxT p V g1 w l)=dv at *
 have pl:=JR hpb
 have lp2:=ld1 (show H2[pb]?=some (b1 p) by rw [hF2.eq _ (hbl (by omega))];exact gl hpb)
 have hS3:∀{b:Nat},b<H.length→¬(b=H.length+2∨rowS (fun k=>H.length+5+k) q b):=fun hb h=>h.elim (by omega) (hbl (by omega))
 have lp3:=ld1 (show H3[pb]?=some (b1 p) by rw [d3.eq _ (hS3 pl),hF2.eq _ (hbl (by omega))];exact gl hpb)
 obtain ⟨N1,k1⟩:=CallsTo.from d1
 have s15:=QnC (F:=F) N1 n (l.map Qa) bb ab w p H2 nb pb u top H.length (H.length+1) (H.length+3) (H.length+2) q (y72:=.g (l.map Qa)) (y73:=.i (l.length:Int)) (y74:=.i (l.length:Int)) (lx (by rw [hF2.eq _ (hbl (by omega))];exact gx q)) lp2 k1 lp3 (KZ (by omega)) (Yi lp3 lp2 (by simp [same]) d2.sm hM2.mm.sm)
 rw [DP (by omega) hsp.1 hsp.2 hdr.1 hdr.2 hp.2] at s15
 have s16:=QeY (F:=F) 0 n (l.map Qa) bb ab w p H3 nb pb (u*dv%p) top (y13:=.map H.length) (y16:=.q (H.length+3)) (y18:=(.func 86 [] [.q (H.length+1),.q (H.length+3),.q pb])) (y72:=.g (l.map Qa)) (y73:=.i (l.length:Int)) (y74:=.i (l.length:Int))
 rw [wr2] at s16
 have hpre:Pre H H3:=⟨by rw [d3.ln,hF2.ln,DF];omega,fun b hb=>by rw [d3.eq _ (hS3 hb),hF2.eq _ (hbl (by omega)),hC,qD,jG hb]⟩
 rw [← hq]
 exact ⟨_,_,sq (s1) (sq (s2) (sq (RunsTo.block_normal (i:=1) (c:=sn 934 B65) (sq (s3) (sq (s4) (sq (sq (s5) (bke (c:=sn 29901 B65) (s6)) (c:=sn 14950 B65)) (sq (s7) (sq (s8) (sq (s9) (sq (sq (s10) (bke (c:=sn 478461 B65) (lpi (e0:=(QW (Qt n l) (.q bb) (.q ab) (.i w) (.i p) (.q nb) (.q pb) (.i 0) (.i (u)) (.i (top:Int)) (.map H.length) Ud (.q (H.length+1)) (.q (H.length+3)) Ud Ud Ud Ud Ud Ud (.i n) (.i (top:Int)) (.i n) (.i ((n.toNat:Nat):Int)) (.i (q:Int)) (.i (0:Int)) Ud Ud Ud)) s11 (b:=sn 1913844 B65))) (c:=sn 239230 B65)) (sq (s12) (sq (sq (s13) (bke (c:=sn 1913853 B65) (lpi (e0:=(QW (Qt n l) (.q bb) (.q ab) (.i w) (.i p) (.q nb) (.q pb) (.i 0) (.i (u)) Ud (.map H.length) Ud (.q (H.length+1)) (.q (H.length+3)) Ud (.func 86 [] [.q (H.length+1),.q (H.length+3),.q pb]) Ud Ud Ud Ud (.i n) (.i (top:Int)) Ud Ud (.i (q:Int)) (.i (q:Int)) (.g (l.map Qa)) (.i ((l.length:Nat):Int)) (.i (0:Int)))) s14 (b:=sn 7655412 B65))) (c:=sn 956926 B65)) (s15) (c:=sn 478463 B65)) (c:=sn 239231 B65)) (c:=sn 119615 B65)) (c:=sn 59807 B65)) (c:=sn 29903 B65)) (c:=sn 14951 B65)) (c:=sn 7475 B65)) (c:=sn 3737 B65)) (c:=sn 1868 B65)) (by kernel_rfl)) (s16) (c:=sn 467 B65)) (c:=sn 233 B65)) (c:=sn 116 B65),by kernel_rfl,hpre,d2⟩
end
end Go.Proofs.Ytiejmoglooaalaa
end
