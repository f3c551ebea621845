/- A part of the proof. -/
import Derived.Test.YtaibmipamkaljaaStC
set_option linter.unusedVariables false
set_option linter.unusedSimpArgs false
set_option linter.unnecessarySimpa false
section
namespace Go.Proofs.Ytaibmipamkaljaa
namespace Ol
abbrev V:=Int × Int × Int
def vadd (a b:V):V:=(a.1+b.1,a.2.1+b.2.1,a.2.2+b.2.2)
theorem vadd_rc (x a d:V):vadd (vadd x d) a=vadd (vadd x a) d:=by
  simp only [vadd]; refine Prod.ext (by show x.1+d.1+a.1=x.1+a.1+d.1; omega) (Prod.ext (by show x.2.1+d.2.1+a.2.1=x.2.1+a.2.1+d.2.1; omega) (by show x.2.2+d.2.2+a.2.2=x.2.2+a.2.2+d.2.2; omega))
theorem vadd_assoc (a b c:V):vadd (vadd a b) c=vadd a (vadd b c):=by
  simp only [vadd]; refine Prod.ext (by show a.1+b.1+c.1=a.1+(b.1+c.1); omega) (Prod.ext (by show a.2.1+b.2.1+c.2.1=a.2.1+(b.2.1+c.2.1); omega) (by show a.2.2+b.2.2+c.2.2=a.2.2+(b.2.2+c.2.2); omega))
theorem vadd_zero (a:V):vadd a (0,0,0)=a:=by simp [vadd]
theorem zero_vadd (a:V):vadd (0,0,0) a=a:=by simp [vadd]
def Dg:Nat → (V → Int) → Prop
  | 0,f=>∀ x,f x=0
  | k+1,f=>∀ h,Dg k (fun x=>f (vadd x h) - f x)
theorem Dg.congr {k:Nat} {f g:V → Int} (hf:Dg k f) (h:∀ x,f x=g x):Dg k g:=by
  have:f=g:=funext h
  exact this ▸ hf
theorem Dg.succ:∀ {k:Nat} {f:V → Int},Dg k f → Dg (k+1) f
  | 0,f,h=>fun d x=>by show f _ - f x=0; rw [h,h]; rfl
  | _+1,_,h=>fun d=>Dg.succ (h d)
theorem Dg.le {k m:Nat} {f:V → Int} (h:Dg k f) (hk:k ≤ m):Dg m f:=by
  induction hk with
  | refl=>exact h
  | step _ ih=>exact ih.succ
theorem Dg.add:∀ {k:Nat} {f g:V → Int},Dg k f → Dg k g → Dg k (fun x=>f x+g x)
  | 0,f,g,h1,h2=>fun x=>by show f x+g x=0; rw [h1,h2]; rfl
  | k+1,f,g,h1,h2=>fun d=>((h1 d).add (h2 d)).congr fun x=>by
    show f _ - f x+(g _ - g x)=f _+g _ - (f x+g x); omega
theorem Dg.shift:∀ {k:Nat} {f:V → Int} (a:V),Dg k f → Dg k (fun x=>f (vadd x a))
  | 0,f,a,h=>fun x=>h _
  | k+1,f,a,h=>fun d=>(Dg.shift a (h d)).congr fun x=>by
    show f (vadd (vadd x a) d) - f (vadd x a)=f (vadd (vadd x d) a) - f (vadd x a)
    rw [vadd_rc]
theorem Dg.mulA:∀ (n:Nat) {a b:Nat} {f g:V → Int},a+b ≤ n → Dg a f → Dg b g → Dg (a+b - 1) (fun x=>f x * g x)
  | n,0,b,f,g,_,h1,_=>Dg.le (k:=0) (fun x=>by show f x * g x=0; rw [h1 x,Int.zero_mul]) (Nat.zero_le _)
  | n,a+1,0,f,g,_,_,h2=>Dg.le (k:=0) (fun x=>by show f x * g x=0; rw [h2 x,Int.mul_zero]) (Nat.zero_le _)
  | 0,a+1,b+1,f,g,hn,_,_=>by omega
  | n+1,a+1,b+1,f,g,hn,h1,h2=>by
    rw [show a+1+(b+1) - 1=(a+b)+1 by omega]
    intro d
    have p:=Dg.mulA n (a:=a+1) (b:=b) (by omega) (h1.shift d) (h2 d)
    have q:=Dg.mulA n (a:=a) (b:=b+1) (by omega) (h1 d) h2
    rw [show a+1+b - 1=a+b by omega] at p
    rw [show a+(b+1) - 1=a+b by omega] at q
    exact (p.add q).congr fun x=>by
      show f (vadd x d) * (g (vadd x d) - g x)+(f (vadd x d) - f x) * g x=f (vadd x d) * g (vadd x d) - f x * g x
      rw [Int.mul_sub,Int.sub_mul]; omega
theorem Dg.mul {a b:Nat} {f g:V → Int} (h1:Dg a f) (h2:Dg b g):Dg (a+b - 1) (fun x=>f x * g x):=Dg.mulA _ (Nat.le_refl _) h1 h2
theorem Dg.const (c:Int):Dg 1 (fun _=>c):=fun d x=>by show c - c=0; omega
theorem Dg.co (f:V → Int) (h:∀ x d,f (vadd x d)=f x+f d):Dg 2 f:=fun d e x=>by
  show f (vadd (vadd x e) d) - f (vadd x e) - (f (vadd x d) - f x)=0
  rw [h,h,h]; omega
theorem Dg.pow {f:V → Int} (h:Dg 2 f):∀ n:Nat,Dg (n+1) (fun x=>f x ^ n)
  | 0=>(Dg.const 1).congr fun x=>(Int.pow_zero _).symm
  | n+1=>by
    have:=(Dg.pow h n).mul h
    rw [show n+1+2 - 1=n+1+1 by omega] at this
    exact this.congr fun x=>(Int.pow_succ _ _).symm
theorem Dg.neg {k:Nat} {f:V → Int} (h:Dg k f):Dg k (fun x=>- f x):=by
  have:=(Dg.const (-1)).mul h
  rw [show 1+k - 1=k by omega] at this
  exact this.congr fun x=>by omega
def fa (f:V → Int) (p:Nat) (x:V):Int:=1 - f x ^ (p - 1)
theorem Dg.fa {f:V → Int} (h:Dg 2 f) {p:Nat} (hp:1 ≤ p):Dg p (fa f p):=by
  have h1:=(h.pow (p - 1)).neg
  rw [show p - 1+1=p by omega] at h1
  exact (((Dg.const 1).le hp).add h1).congr fun x=>by show 1+- (f x ^ (p - 1))=1 - f x ^ (p - 1); omega
def altS (f:V → Int):List V → V → Int
  | [],a=>f a
  | x :: l,a=>altS f l a - altS f l (vadd a x)
theorem altS_sub (f:V → Int) (d:V):∀ (l:List V) (a:V),altS (fun x=>f (vadd x d) - f x) l a=altS f l (vadd a d) - altS f l a
  | [],a=>rfl
  | x :: l,a=>by
    rw [altS,altS_sub f d l a,altS_sub f d l (vadd a x),altS,altS,vadd_rc a d x]; omega
theorem altS_zero:∀ (l:List V) (f:V → Int),Dg l.length f → ∀ a,altS f l a=0
  | [],f,h,a=>h a
  | x :: l,f,h,a=>by
    have:=altS_zero l _ (h x) a
    rw [altS_sub] at this
    rw [altS]; omega
def vsum:List V → V
  | []=>(0,0,0)
  | x :: l=>vadd x (vsum l)
theorem altS_none {f:V → Int} {p:Int} {Z:V → Prop} (hf:∀ y,¬ Z y → f y % p=0):∀ (l:List V) (a:V),(∀ s,s.Sublist l → ¬ Z (vadd a (vsum s))) → altS f l a % p=0
  | [],a,h=>by
    have:=h [] (List.Sublist.refl _)
    rw [vsum,vadd_zero] at this
    exact hf a this
  | x :: l,a,h=>by
    have h1:=altS_none hf l a (fun s hs=>h s (hs.cons x))
    have h2:=altS_none hf l (vadd a x) (fun s hs=>by
      have:=h (x :: s) (hs.cons_cons x)
      rwa [vsum,← vadd_assoc] at this)
    rw [altS,Int.sub_emod,h1,h2]; rfl
theorem altS_one {f:V → Int} {p:Int} {Z:V → Prop} (hf:∀ y,¬ Z y → f y % p=0) (h0:f (0,0,0) % p=1):∀ (l:List V),(∀ s,s.Sublist l → s ≠ [] → ¬ Z (vsum s)) → altS f l (0,0,0) % p=1 % p
  | [],h=>by rw [altS,← h0,Int.emod_emod]
  | x :: l,h=>by
    have h1:=altS_one hf h0 l (fun s hs=>h s (hs.cons x))
    have h2:=altS_none hf l (vadd (0,0,0) x) (fun s hs=>by
      have:=h (x :: s) (hs.cons_cons x) (by simp)
      rwa [zero_vadd])
    rw [altS,Int.sub_emod,h1,h2,Int.sub_zero,Int.emod_emod]
theorem some_zero {f:V → Int} {p:Int} {Z:V → Prop} (hf:∀ y,¬ Z y → f y % p=0) (h0:f (0,0,0) % p=1) (hp:2 ≤ p) {k:Nat} (hd:Dg k f) {l:List V} (hl:k ≤ l.length):∃ s,s.Sublist l∧s ≠ []∧Z (vsum s):=by
  refine Classical.byContradiction fun hn=>?_
  have h1:=altS_one hf h0 l (fun s hs h=>fun hz=>hn ⟨s,hs,h,hz⟩)
  rw [altS_zero l f (hd.le hl)] at h1
  rw [Int.emod_eq_of_lt (show (0:Int) ≤ 1 by omega) (by omega)] at h1
  simp at h1
def PL:List Nat:=[2,3,5,7,11,13,17,19,23]
theorem fermB:(PL.all fun p=>(List.range p).all fun r=>decide ((1 - ((r:Nat):Int) ^ (p - 1)) % (p:Int)=if r=0 then 1 else 0))=true:=by decide +kernel
theorem pow_mod (y p:Int):∀ n:Nat,(y ^ n) % p=((y % p) ^ n) % p
  | 0=>by rw [Int.pow_zero,Int.pow_zero]
  | n+1=>by
    have h:((y % p) ^ n * (y % p)) % p=(((y % p) ^ n % p) * (y % p)) % p:=by rw [Int.mul_emod,Int.emod_emod,Int.mul_emod ((y % p) ^ n % p),Int.emod_emod,Int.emod_emod]
    rw [Int.pow_succ,Int.pow_succ,Int.mul_emod,pow_mod y p n,h]
theorem PL_two {p:Nat} (hp:p ∈ PL):2 ≤ p:=by
  simp only [PL,List.mem_cons,List.mem_nil_iff,or_false] at hp; omega
theorem ferm {p:Nat} (hp:p ∈ PL) (y:Int):(1 - y ^ (p - 1)) % (p:Int)=if y % (p:Int)=0 then 1 else 0:=by
  have h2:=PL_two hp
  have b0:=Int.emod_nonneg y (show (p:Int) ≠ 0 by omega)
  have b1:=Int.emod_lt_of_pos y (show (0:Int) < p by omega)
  have h:=List.all_eq_true.1 (List.all_eq_true.1 fermB p hp) (y % (p:Int)).toNat (by rw [List.mem_range]; omega)
  have h:=of_decide_eq_true h
  rw [Int.toNat_of_nonneg b0] at h
  rw [Int.sub_emod,pow_mod,← Int.sub_emod,h]
  by_cases c:y % (p:Int)=0
  · rw [if_pos c,if_pos (by omega)]
  · rw [if_neg c,if_neg (by omega)]
theorem fa_mod {p:Nat} (hp:p ∈ PL) (f:V → Int) (x:V):fa f p x % (p:Int)=if f x % (p:Int)=0 then 1 else 0:=ferm hp (f x)
theorem mul_mod0 {a b p:Int} (h:a % p=0 ∨ b % p=0):(a * b) % p=0:=by
  rw [Int.mul_emod]
  rcases h with h | h <;> rw [h] <;> simp
theorem mul_mod1 {a b p:Int} (hp:2 ≤ p) (h1:a % p=1) (h2:b % p=1):(a * b) % p=1:=by
  rw [Int.mul_emod,h1,h2]; exact Int.emod_eq_of_lt (by omega) (by omega)
abbrev c1:V → Int:=fun x=>x.1
abbrev c2:V → Int:=fun x=>x.2.1
abbrev c3:V → Int:=fun x=>x.2.2
theorem Dc1:Dg 2 c1:=Dg.co _ fun _ _=>rfl
theorem Dc2:Dg 2 c2:=Dg.co _ fun _ _=>rfl
theorem Dc3:Dg 2 c3:=Dg.co _ fun _ _=>rfl
def s1 (L:List (Int × Int)):Int:=(L.map Prod.fst).sum
def s2 (L:List (Int × Int)):Int:=(L.map Prod.snd).sum
def emb (q:Int × Int):V:=(q.1,q.2,1)
theorem vsum_emb:∀ L:List (Int × Int),vsum (L.map emb)=(s1 L,s2 L,(L.length:Int))
  | []=>rfl
  | q :: L=>by
    rw [List.map_cons,vsum,vsum_emb L]
    simp only [vadd,emb,s1,s2,List.map_cons,List.sum_cons,List.length_cons]
    refine Prod.ext rfl (Prod.ext rfl ?_)
    show 1+(L.length:Int)=((L.length+1:Nat):Int)
    omega
theorem of_emb {L:List (Int × Int)} {Z:V → Prop} (h:∃ s,s.Sublist (L.map emb)∧s ≠ []∧Z (vsum s)):∃ s,s.Sublist L∧s ≠ []∧Z (s1 s,s2 s,(s.length:Int)):=by
  obtain ⟨s,h1,h2,h3⟩:=h
  obtain ⟨t,t1,rfl⟩:=List.sublist_map_iff.1 h1
  exact ⟨t,t1,fun e=>h2 (by rw [e]; rfl),by rwa [vsum_emb] at h3⟩
section
variable {p:Nat} (hp:p ∈ PL)
include hp
theorem two_D {L:List (Int × Int)} (hl:2 * p - 1 ≤ L.length):∃ s,s.Sublist L∧s ≠ []∧s1 s % p=0∧s2 s % p=0:=by
  have h2:=PL_two hp
  have z1:fa c1 p (0,0,0) % (p:Int)=1:=by rw [fa_mod hp]; exact if_pos (Int.zero_emod _)
  have z2:fa c2 p (0,0,0) % (p:Int)=1:=by rw [fa_mod hp]; exact if_pos (Int.zero_emod _)
  refine of_emb (Z:=fun v=>v.1 % p=0∧v.2.1 % p=0) (some_zero (Z:=fun v=>v.1 % p=0∧v.2.1 % p=0) (f:=fun x=>fa c1 p x * fa c2 p x) (p:=p) (fun y hy=>?_) (mul_mod1 (by omega) z1 z2) (by omega) (((Dc1.fa (by omega)).mul (Dc2.fa (p:=p) (by omega))).le (m:=2 * p - 1) (by omega)) (l:=L.map emb) (by rw [List.length_map]; exact hl))
  refine mul_mod0 ?_
  rw [fa_mod hp,fa_mod hp]
  by_cases a:y.1 % (p:Int)=0
  · exact .inr (by rw [if_neg (fun b=>hy ⟨a,b⟩)])
  · exact .inl (by rw [if_neg a])
theorem three_D {L:List (Int × Int)} (hl:3 * p - 2 ≤ L.length):∃ s,s.Sublist L∧s ≠ []∧s1 s % p=0∧s2 s % p=0∧(s.length:Int) % p=0:=by
  have h2:=PL_two hp
  have z1:fa c1 p (0,0,0) % (p:Int)=1:=by rw [fa_mod hp]; exact if_pos (Int.zero_emod _)
  have z2:fa c2 p (0,0,0) % (p:Int)=1:=by rw [fa_mod hp]; exact if_pos (Int.zero_emod _)
  have z3:fa c3 p (0,0,0) % (p:Int)=1:=by rw [fa_mod hp]; exact if_pos (Int.zero_emod _)
  refine of_emb (Z:=fun v=>v.1 % p=0∧v.2.1 % p=0∧v.2.2 % p=0) (some_zero (Z:=fun v=>v.1 % p=0∧v.2.1 % p=0∧v.2.2 % p=0) (f:=fun x=>fa c1 p x * fa c2 p x * fa c3 p x) (p:=p) (fun y hy=>?_) (mul_mod1 (by omega) (mul_mod1 (by omega) z1 z2) z3) (by omega) ((((Dc1.fa (by omega)).mul (Dc2.fa (p:=p) (by omega))).mul (Dc3.fa (p:=p) (by omega))).le (m:=3 * p - 2) (by omega)) (l:=L.map emb) (by rw [List.length_map]; exact hl))
  by_cases a:y.1 % (p:Int)=0
  · by_cases b:y.2.1 % (p:Int)=0
    · exact mul_mod0 (.inr (by rw [fa_mod hp,if_neg (fun c=>hy ⟨a,b,c⟩)]))
    · exact mul_mod0 (.inl (mul_mod0 (.inr (by rw [fa_mod hp,if_neg b]))))
  · exact mul_mod0 (.inl (mul_mod0 (.inl (by rw [fa_mod hp,if_neg a]))))
end
theorem sub_compl {α:Type}:∀ {s l:List α},s.Sublist l → ∃ t,t.Sublist l∧(s ++ t).Perm l:=by
  intro s l h
  induction h with
  | slnil=>exact ⟨[],List.Sublist.refl _,List.Perm.refl _⟩
  | cons a _ ih =>
    obtain ⟨t,h1,h2⟩:=ih
    exact ⟨a :: t,h1.cons_cons a,(List.perm_middle).trans (h2.cons a)⟩
  | cons_cons a _ ih =>
    obtain ⟨t,h1,h2⟩:=ih
    exact ⟨t,h1.cons a,h2.cons a⟩
theorem psum {l m:List Int} (h:l.Perm m):l.sum=m.sum:=by
  induction h with
  | nil=>rfl
  | cons x _ ih=>rw [List.sum_cons,List.sum_cons,ih]
  | swap x y l=>simp only [List.sum_cons]; omega
  | trans _ _ h1 h2=>rw [h1,h2]
theorem s1_perm {l m:List (Int × Int)} (h:l.Perm m):s1 l=s1 m:=psum (h.map _)
theorem s2_perm {l m:List (Int × Int)} (h:l.Perm m):s2 l=s2 m:=psum (h.map _)
theorem s1_app (l m:List (Int × Int)):s1 (l ++ m)=s1 l+s1 m:=by simp [s1]
theorem s2_app (l m:List (Int × Int)):s2 (l ++ m)=s2 l+s2 m:=by simp [s2]
theorem mod_diff {a b p:Int} (h:(a+b) % p=0) (h1:a % p=0):b % p=0:=by
  rw [Int.add_emod,h1,Int.zero_add,Int.emod_emod] at h; exact h
theorem eta {p:Nat} (hp:p ∈ PL) {L:List (Int × Int)} (hl:3 * p - 2 ≤ L.length):∃ s,s.Sublist L∧s ≠ []∧s.length ≤ p∧s1 s % p=0∧s2 s % p=0:=by
  have h2:=PL_two hp
  obtain ⟨s,a1,a2,a3,a4,a5⟩:=three_D hp (L:=L.take (3 * p - 2)) (by rw [List.length_take]; omega)
  have sl:=a1.length_le
  rw [List.length_take] at sl
  have sL:s.Sublist L:=a1.trans (List.take_sublist _ _)
  have s0:s.length ≠ 0:=fun e=>a2 (List.length_eq_zero_iff.1 e)
  by_cases c:s.length ≤ p
  · exact ⟨s,sL,a2,c,a3,a4⟩
  · have e2:s.length=2 * p:=by
      obtain ⟨k,hk⟩:=Int.dvd_of_emod_eq_zero a5
      have k1:1 < k:=by
        refine Int.lt_of_mul_lt_mul_left (a:=(p:Int)) ?_ (by omega)
        omega
      have k2:k < 3:=by
        refine Int.lt_of_mul_lt_mul_left (a:=(p:Int)) ?_ (by omega)
        omega
      have:k=2:=by omega
      subst this
      omega
    obtain ⟨t,b1,b2,b3,b4⟩:=two_D hp (L:=s.take (2 * p - 1)) (by rw [List.length_take]; omega)
    have tl:=b1.length_le
    rw [List.length_take] at tl
    have ts:t.Sublist s:=b1.trans (List.take_sublist _ _)
    by_cases d:t.length ≤ p
    · exact ⟨t,ts.trans sL,b2,d,b3,b4⟩
    · obtain ⟨r,r1,r2⟩:=sub_compl ts
      have rl:=r2.length_eq
      rw [List.length_append] at rl
      have q1:=s1_perm r2
      have q2:=s2_perm r2
      rw [s1_app] at q1
      rw [s2_app] at q2
      exact ⟨r,r1.trans sL,fun e=>by rw [e] at rl; simp at rl; omega,by omega,mod_diff (by rw [q1]; exact a3) b3,mod_diff (by rw [q2]; exact a4) b4⟩
theorem blocks {p E F:Nat} {Z:Int → Int → Prop} (hE:∀ L:List (Int × Int),E ≤ L.length → ∃ s,s.Sublist L∧s ≠ []∧s.length ≤ p∧Z (s1 s) (s2 s))
    (hF:∀ L:List (Int × Int),F ≤ L.length → ∃ s,s.Sublist L∧s ≠ []∧Z (s1 s) (s2 s)) (hEF:E ≤ p+F):∀ (K:Nat) (L:List (Int × Int)),p * K+F ≤ L.length →
    ∃ B:List (List (Int × Int)),B.length=K+1∧(∀ b ∈ B,b ≠ []∧Z (s1 b) (s2 b))∧∃ r,(B.flatten ++ r).Perm L
  | 0,L,hl=>by
    obtain ⟨s,h1,h2,h3⟩:=hF L (by omega)
    obtain ⟨t,t1,t2⟩:=sub_compl h1
    exact ⟨[s],rfl,fun b hb=>by rw [List.mem_singleton] at hb; rw [hb]; exact ⟨h2,h3⟩,t,by simpa using t2⟩
  | K+1,L,hl=>by
    rw [Nat.mul_succ] at hl
    obtain ⟨s,h1,h2,h3,h4⟩:=hE L (by omega)
    obtain ⟨t,t1,t2⟩:=sub_compl h1
    have tl:=t2.length_eq
    rw [List.length_append] at tl
    obtain ⟨B,b1,b2,r,b3⟩:=blocks hE hF hEF K t (by omega)
    refine ⟨s :: B,by simp [b1],fun b hb=>?_,r,?_⟩
    · rcases List.mem_cons.1 hb with rfl | hb
      · exact ⟨h2,h4⟩
      · exact b2 b hb
    · rw [List.flatten_cons,List.append_assoc]
      exact (List.Perm.append_left s b3).trans t2
theorem sub_of_perm' {α:Type}:∀ {l m:List α},l.Perm m → ∀ {s:List α},s.Sublist m → ∃ t:List α,t.Perm s∧t.Sublist l:=by
  intro l m h
  induction h with
  | nil=>intro s hs; exact ⟨s,.refl _,hs⟩
  | cons x _ ih =>
    intro s hs
    cases hs with
    | cons _ h=>obtain ⟨t,h1,h2⟩:=ih h; exact ⟨t,h1,h2.cons x⟩
    | cons_cons _ h=>obtain ⟨t,h1,h2⟩:=ih h; exact ⟨x :: t,h1.cons x,h2.cons_cons x⟩
  | swap x y l =>
    intro s hs
    cases hs with
    | cons _ h =>
      cases h with
      | cons _ h=>exact ⟨s,.refl _,(h.cons x).cons y⟩
      | cons_cons _ h=>exact ⟨_,.refl _,(h.cons x).cons_cons y⟩
    | cons_cons _ h =>
      cases h with
      | cons _ h=>exact ⟨_,.refl _,(h.cons_cons x).cons y⟩
      | cons_cons _ h=>exact ⟨_,.swap _ _ _,(h.cons_cons x).cons_cons y⟩
  | trans _ _ h1 h2 =>
    intro s hs
    obtain ⟨t,t1,t2⟩:=h2 hs
    obtain ⟨u,u1,u2⟩:=h1 t2
    exact ⟨u,u1.trans t1,u2⟩
theorem sub_flat {α:Type} {C B:List (List α)} (h:C.Sublist B):C.flatten.Sublist B.flatten:=by
  induction h with
  | slnil=>exact List.Sublist.refl _
  | cons a _ ih=>rw [List.flatten_cons]; exact ih.trans (List.sublist_append_right _ _)
  | cons_cons a _ ih=>rw [List.flatten_cons,List.flatten_cons]; exact List.Sublist.append (List.Sublist.refl _) ih
def Dav (m n:Nat):Prop:=∀ L:List (Int × Int),m+n - 1 ≤ L.length → ∃ s,s.Sublist L∧s ≠ []∧s1 s % m=0∧s2 s % n=0
theorem s_flat {p:Int} (f:Int × Int → Int):∀ (B:List (List (Int × Int))),(∀ b ∈ B,((b.map f).sum) % p=0) → ((B.flatten).map f).sum=p * (B.map fun b=>(b.map f).sum / p).sum
  | [],_=>by simp
  | b :: B,h=>by
    have h1:=h b (by simp)
    have h2:=s_flat f B (fun c hc=>h c (by simp [hc]))
    rw [List.flatten_cons,List.map_append,List.sum_append,h2,List.map_cons,List.sum_cons,Int.mul_add]
    have:=Int.mul_ediv_add_emod ((b.map f).sum) p
    rw [h1] at this
    omega
theorem Dav.step {p m n:Nat} (hp:p ∈ PL) (hm:1 ≤ m) (hn:1 ≤ n) (h:Dav m n):Dav (p * m) (p * n):=by
  have h2:=PL_two hp
  intro L hl
  have hmn:p * m+p * n=p * (m+n - 2)+2 * p:=by
    have e:m+n=(m+n - 2)+2:=by omega
    generalize m+n - 2=k at *
    rw [← Nat.mul_add,e,Nat.mul_add]; omega
  obtain ⟨B,b1,b2,r,b3⟩:=blocks (p:=p) (E:=3 * p - 2) (F:=2 * p - 1) (Z:=fun a b=>a % p=0∧b % p=0) (fun L h=>eta hp h) (fun L h=>two_D hp h) (by omega) (m+n - 2) L (by omega)
  obtain ⟨s,q1,q2,q3,q4⟩:=h (B.map fun b=>(s1 b / p,s2 b / p)) (by rw [List.length_map]; omega)
  obtain ⟨C,e1,rfl⟩:=List.sublist_map_iff.1 q1
  have hC:∀ b ∈ C,b ≠ []∧s1 b % p=0∧s2 b % p=0:=fun b hb=>b2 b (e1.subset hb)
  have u:C.flatten.Sublist (B.flatten ++ r):=(sub_flat e1).trans (List.sublist_append_left _ _)
  obtain ⟨t,t1,t2⟩:=sub_of_perm' b3.symm u
  have f1:=s_flat (p:=(p:Int)) Prod.fst C (fun b hb=>(hC b hb).2.1)
  have f2:=s_flat (p:=(p:Int)) Prod.snd C (fun b hb=>(hC b hb).2.2)
  have g1:s1 t=p * s1 (C.map fun b=>(s1 b / p,s2 b / p)):=by
    rw [s1_perm t1]; show (C.flatten.map Prod.fst).sum=_
    rw [f1]; simp only [s1,List.map_map]; rfl
  have g2:s2 t=p * s2 (C.map fun b=>(s1 b / p,s2 b / p)):=by
    rw [s2_perm t1]; show (C.flatten.map Prod.snd).sum=_
    rw [f2]; simp only [s2,List.map_map]; rfl
  refine ⟨t,t2,fun e=>?_,?_,?_⟩
  · rw [e] at t1
    have hf:C.flatten=[]:=List.Perm.nil_eq t1 |>.symm
    cases C with
    | nil=>exact q2 rfl
    | cons b C =>
      rw [List.flatten_cons,List.append_eq_nil_iff] at hf
      exact (hC b (by simp)).1 hf.1
  · rw [g1]
    obtain ⟨k,hk⟩:=Int.dvd_of_emod_eq_zero q3
    rw [hk]; push_cast; rw [← Int.mul_assoc]; exact Int.mul_emod_right _ _
  · rw [g2]
    obtain ⟨k,hk⟩:=Int.dvd_of_emod_eq_zero q4
    rw [hk]; push_cast; rw [← Int.mul_assoc]; exact Int.mul_emod_right _ _
end Ol
end Go.Proofs.Ytaibmipamkaljaa
end
section
open Go Go.HL
namespace Go.Proofs.Ytaibmipamkaljaa
set_option maxRecDepth 100000
open Go.Proofs.Try renaming prog → Tp
open Go.HL.HV renaming undef → Ud
noncomputable def B27:Code:=Try.f27.body.getD .skip
abbrev env27 (v0 v1 v2 v6 v7 v8 v9 v10:HV):Env:=[(0,v0),(1,v1),(2,v2),(6,v6),(7,v7),(8,v8),(9,v9),(10,v10)]
theorem tta_a_0 (a:Int) (rw pl:List HV):RT pol 27 (sub [0] B27) [(0,.imm .arg 1 [.i a]),(1,.imm .arg 1 rw),(2,.imm .arg 1 pl)] [] .normal (env27 (.imm .arg 1 [.i a]) (.imm .arg 1 rw) (.imm .arg 1 pl) (.imm .lit 1 []) (.bool false) Ud Ud Ud) [] :=
  RunsTo.hin 0 60 [] fun kf hk=>⟨_,by kernel_rfl,.nil⟩
theorem tta_b_0 (a:Int) (rw pl:List HV):RT pol 27 (sub [1,0] B27) (env27 (.imm .arg 1 [.i a]) (.imm .arg 1 rw) (.imm .arg 1 pl) (.imm .lit 1 []) (.bool false) Ud Ud Ud) [] .normal (env27 (.imm .arg 1 [.i a]) (.imm .arg 1 rw) (.imm .arg 1 pl) (.imm .lit 1 []) (.bool false) (.sl 0 0 1 (some 1) 1 1) Ud Ud) [.arr 1 [.i 0] true 0] :=
  RunsTo.hin 0 60 [] fun kf hk=>⟨_,by kernel_rfl,.nil⟩
theorem tta_c_0 (a:Int) (rw pl:List HV) (o0:Int):RT pol 27 (sub [1,1,0,0] B27) (env27 (.imm .arg 1 [.i a]) (.imm .arg 1 rw) (.imm .arg 1 pl) (.imm .lit 1 []) (.bool false) (.sl 0 0 1 (some 1) 1 1) Ud Ud) [.arr 1 [.i o0] true 0] .normal (env27 (.imm .arg 1 [.i a]) (.imm .arg 1 rw) (.imm .arg 1 pl) (.imm .lit 1 []) (.bool false) (.sl 0 0 1 (some 1) 1 1) (.i 0) Ud) [.arr 1 [.i o0] true 0] :=
  RunsTo.hin 0 60 [] fun kf hk=>⟨_,by kernel_rfl,.nil⟩
theorem tta_d_3 (a:Int) (rw pl:List HV) (o0:Int) (i:Nat) {y10:HV} {x2:Int} {x3:Int} {x4:Int} {x5:Int} {x6:Int} {l0:List HV} {x7:Int} (g0:(i:Int) < (pl.length:Int)) (g1:idxV Tp 22 (.imm .arg 1 pl) (.i (i:Int))=some (.vptr (.i x2))) (g2:¬ (x2 < 0)) (g3:idxV Tp 22 (.imm .arg 1 pl) (.i (i:Int))=some (.vptr (.i x3))) (g4:¬ ((rw.length:Int) ≤ x3)) (g5:0 < (i:Int)) (g6:idxV Tp 22 (.imm .arg 1 pl) (.i (IntKind.i64.wrap ((i:Int) - 1)))=some (.vptr (.i x4))) (g7:idxV Tp 22 (.imm .arg 1 pl) (.i (i:Int))=some (.vptr (.i x5))) (g8:¬ (x5 ≤ x4)) (g9:idxV Tp 22 (.imm .arg 1 pl) (.i (i:Int))=some (.vptr (.i x6))) (g10:idxV Tp 35 (.imm .arg 1 rw) (.i x6)=some (.vptr (.imm .arg 1 l0))) (g11:idxV Tp 22 (.imm .arg 1 l0) (.i 0)=some (.vptr (.i x7))) (g12:binV Tp .rem 3 (.i (IntKind.i64.wrap (o0+x7))) (.i a)=some (.i ((IntKind.i64.wrap (o0+x7):Int).tmod a))):RT pol 27 (sub [1,1,0,1,0,0] B27) (env27 (.imm .arg 1 [.i a]) (.imm .arg 1 rw) (.imm .arg 1 pl) (.imm .lit 1 []) (.bool false) (.sl 0 0 1 (some 1) 1 1) (.i (i:Int)) y10) [.arr 1 [.i o0] true 0] .normal (env27 (.imm .arg 1 [.i a]) (.imm .arg 1 rw) (.imm .arg 1 pl) (.imm .lit 1 []) (.bool false) (.sl 0 0 1 (some 1) 1 1) (.i (IntKind.i64.wrap ((i:Int)+1))) (.i 1)) [.arr 1 [.i ((IntKind.i64.wrap (o0+x7):Int).tmod a)] true 0] :=
  RunsTo.hin 0 60 [⟨3,3,.bool true,[.arr 1 [.i o0] true 0]⟩,⟨5,2,.vptr (.i x2),[.arr 1 [.i o0] true 0]⟩,⟨5,4,.bool false,[.arr 1 [.i o0] true 0]⟩,⟨5,8,.vptr (.i x3),[.arr 1 [.i o0] true 0]⟩,⟨5,12,.bool false,[.arr 1 [.i o0] true 0]⟩,⟨5,16,.bool true,[.arr 1 [.i o0] true 0]⟩,⟨5,21,.vptr (.i x4),[.arr 1 [.i o0] true 0]⟩,⟨5,25,.vptr (.i x5),[.arr 1 [.i o0] true 0]⟩,⟨5,27,.bool false,[.arr 1 [.i o0] true 0]⟩,⟨10,9,.vptr (.i x6),[.arr 1 [.i o0] true 0]⟩,⟨10,11,.vptr (.imm .arg 1 l0),[.arr 1 [.i o0] true 0]⟩,⟨10,14,.vptr (.i x7),[.arr 1 [.i o0] true 0]⟩,⟨10,21,.i ((IntKind.i64.wrap (o0+x7):Int).tmod a),[.arr 1 [.i o0] true 0]⟩] fun kf hk=>⟨_,by kernel_rfl,(oB [.arr 1 [.i o0] true 0] (decide_eq_true g0) (oP [.arr 1 [.i o0] true 0] g1 (oB [.arr 1 [.i o0] true 0] (decide_eq_false g2) (oP [.arr 1 [.i o0] true 0] g3 (oB [.arr 1 [.i o0] true 0] (decide_eq_false g4) (oB [.arr 1 [.i o0] true 0] (decide_eq_true g5) (oP [.arr 1 [.i o0] true 0] g6 (oP [.arr 1 [.i o0] true 0] g7 (oB [.arr 1 [.i o0] true 0] (decide_eq_false g8) (oP [.arr 1 [.i o0] true 0] g9 (oP [.arr 1 [.i o0] true 0] g10 (oP [.arr 1 [.i o0] true 0] g11 (oP [.arr 1 [.i o0] true 0] g12 .nil)))))))))))))⟩
theorem tta_d_4 (a:Int) (rw pl:List HV) (o0:Int) (i:Nat) {y10:HV} {x2:Int} {x3:Int} {x4:Int} {l0:List HV} {x5:Int} (g0:(i:Int) < (pl.length:Int)) (g1:idxV Tp 22 (.imm .arg 1 pl) (.i (i:Int))=some (.vptr (.i x2))) (g2:¬ (x2 < 0)) (g3:idxV Tp 22 (.imm .arg 1 pl) (.i (i:Int))=some (.vptr (.i x3))) (g4:¬ ((rw.length:Int) ≤ x3)) (g5:¬ (0 < (i:Int))) (g6:idxV Tp 22 (.imm .arg 1 pl) (.i (i:Int))=some (.vptr (.i x4))) (g7:idxV Tp 35 (.imm .arg 1 rw) (.i x4)=some (.vptr (.imm .arg 1 l0))) (g8:idxV Tp 22 (.imm .arg 1 l0) (.i 0)=some (.vptr (.i x5))) (g9:binV Tp .rem 3 (.i (IntKind.i64.wrap (o0+x5))) (.i a)=some (.i ((IntKind.i64.wrap (o0+x5):Int).tmod a))):RT pol 27 (sub [1,1,0,1,0,0] B27) (env27 (.imm .arg 1 [.i a]) (.imm .arg 1 rw) (.imm .arg 1 pl) (.imm .lit 1 []) (.bool false) (.sl 0 0 1 (some 1) 1 1) (.i (i:Int)) y10) [.arr 1 [.i o0] true 0] .normal (env27 (.imm .arg 1 [.i a]) (.imm .arg 1 rw) (.imm .arg 1 pl) (.imm .lit 1 []) (.bool false) (.sl 0 0 1 (some 1) 1 1) (.i (IntKind.i64.wrap ((i:Int)+1))) (.i 1)) [.arr 1 [.i ((IntKind.i64.wrap (o0+x5):Int).tmod a)] true 0] :=
  RunsTo.hin 0 60 [⟨3,3,.bool true,[.arr 1 [.i o0] true 0]⟩,⟨5,2,.vptr (.i x2),[.arr 1 [.i o0] true 0]⟩,⟨5,4,.bool false,[.arr 1 [.i o0] true 0]⟩,⟨5,8,.vptr (.i x3),[.arr 1 [.i o0] true 0]⟩,⟨5,12,.bool false,[.arr 1 [.i o0] true 0]⟩,⟨5,16,.bool false,[.arr 1 [.i o0] true 0]⟩,⟨10,9,.vptr (.i x4),[.arr 1 [.i o0] true 0]⟩,⟨10,11,.vptr (.imm .arg 1 l0),[.arr 1 [.i o0] true 0]⟩,⟨10,14,.vptr (.i x5),[.arr 1 [.i o0] true 0]⟩,⟨10,21,.i ((IntKind.i64.wrap (o0+x5):Int).tmod a),[.arr 1 [.i o0] true 0]⟩] fun kf hk=>⟨_,by kernel_rfl,(oB [.arr 1 [.i o0] true 0] (decide_eq_true g0) (oP [.arr 1 [.i o0] true 0] g1 (oB [.arr 1 [.i o0] true 0] (decide_eq_false g2) (oP [.arr 1 [.i o0] true 0] g3 (oB [.arr 1 [.i o0] true 0] (decide_eq_false g4) (oB [.arr 1 [.i o0] true 0] (decide_eq_false g5) (oP [.arr 1 [.i o0] true 0] g6 (oP [.arr 1 [.i o0] true 0] g7 (oP [.arr 1 [.i o0] true 0] g8 (oP [.arr 1 [.i o0] true 0] g9 .nil))))))))))⟩
theorem tta_d_5 (a:Int) (rw pl:List HV) (o0:Int) (i:Nat) {y10:HV}(g0:¬ ((i:Int) < (pl.length:Int))):RT pol 27 (sub [1,1,0,1,0,0] B27) (env27 (.imm .arg 1 [.i a]) (.imm .arg 1 rw) (.imm .arg 1 pl) (.imm .lit 1 []) (.bool false) (.sl 0 0 1 (some 1) 1 1) (.i (i:Int)) y10) [.arr 1 [.i o0] true 0] (.exit 0) (env27 (.imm .arg 1 [.i a]) (.imm .arg 1 rw) (.imm .arg 1 pl) (.imm .lit 1 []) (.bool false) (.sl 0 0 1 (some 1) 1 1) (.i (i:Int)) y10) [.arr 1 [.i o0] true 0] :=
  RunsTo.hin 0 60 [⟨3,3,.bool false,[.arr 1 [.i o0] true 0]⟩] fun kf hk=>⟨_,by kernel_rfl,(oB [.arr 1 [.i o0] true 0] (decide_eq_false g0) .nil)⟩
theorem tta_e_0 (a:Int) (rw pl:List HV) (o0:Int) (y9 y10:HV):RT pol 27 (sub [1,1,1] B27) (env27 (.imm .arg 1 [.i a]) (.imm .arg 1 rw) (.imm .arg 1 pl) (.imm .lit 1 []) (.bool false) (.sl 0 0 1 (some 1) 1 1) y9 y10) [.arr 1 [.i o0] true 0] .ret (env27 (.imm .arg 1 [.i a]) (.imm .arg 1 rw) (.imm .arg 1 pl) (.sl 0 0 1 (some 1) 1 1) (.bool true) (.sl 0 0 1 (some 1) 1 1) y9 y10) [.arr 1 [.i o0] true 0] :=
  RunsTo.hin 0 60 [] fun kf hk=>⟨_,by kernel_rfl,.nil⟩
theorem ttb_a_0 (a b:Int) (rw pl:List HV):RT pol 27 (sub [0] B27) [(0,.imm .arg 1 [.i a,.i b]),(1,.imm .arg 1 rw),(2,.imm .arg 1 pl)] [] .normal (env27 (.imm .arg 1 [.i a,.i b]) (.imm .arg 1 rw) (.imm .arg 1 pl) (.imm .lit 1 []) (.bool false) Ud Ud Ud) [] :=
  RunsTo.hin 0 60 [] fun kf hk=>⟨_,by kernel_rfl,.nil⟩
theorem ttb_b_0 (a b:Int) (rw pl:List HV):RT pol 27 (sub [1,0] B27) (env27 (.imm .arg 1 [.i a,.i b]) (.imm .arg 1 rw) (.imm .arg 1 pl) (.imm .lit 1 []) (.bool false) Ud Ud Ud) [] .normal (env27 (.imm .arg 1 [.i a,.i b]) (.imm .arg 1 rw) (.imm .arg 1 pl) (.imm .lit 1 []) (.bool false) (.sl 0 0 2 (some 2) 2 1) Ud Ud) [.arr 1 [.i 0,.i 0] true 0] :=
  RunsTo.hin 0 60 [] fun kf hk=>⟨_,by kernel_rfl,.nil⟩
theorem ttb_c_0 (a b:Int) (rw pl:List HV) (o0:Int) (o1:Int):RT pol 27 (sub [1,1,0,0] B27) (env27 (.imm .arg 1 [.i a,.i b]) (.imm .arg 1 rw) (.imm .arg 1 pl) (.imm .lit 1 []) (.bool false) (.sl 0 0 2 (some 2) 2 1) Ud Ud) [.arr 1 [.i o0,.i o1] true 0] .normal (env27 (.imm .arg 1 [.i a,.i b]) (.imm .arg 1 rw) (.imm .arg 1 pl) (.imm .lit 1 []) (.bool false) (.sl 0 0 2 (some 2) 2 1) (.i 0) Ud) [.arr 1 [.i o0,.i o1] true 0] :=
  RunsTo.hin 0 60 [] fun kf hk=>⟨_,by kernel_rfl,.nil⟩
theorem ttb_d_3 (a b:Int) (rw pl:List HV) (o0:Int) (o1:Int) (i:Nat) {y10:HV} {x2:Int} {x3:Int} {x4:Int} {x5:Int} {x6:Int} {l0:List HV} {x7:Int} {x8:Int} {l1:List HV} {x9:Int} (g0:(i:Int) < (pl.length:Int)) (g1:idxV Tp 22 (.imm .arg 1 pl) (.i (i:Int))=some (.vptr (.i x2))) (g2:¬ (x2 < 0)) (g3:idxV Tp 22 (.imm .arg 1 pl) (.i (i:Int))=some (.vptr (.i x3))) (g4:¬ ((rw.length:Int) ≤ x3)) (g5:0 < (i:Int)) (g6:idxV Tp 22 (.imm .arg 1 pl) (.i (IntKind.i64.wrap ((i:Int) - 1)))=some (.vptr (.i x4))) (g7:idxV Tp 22 (.imm .arg 1 pl) (.i (i:Int))=some (.vptr (.i x5))) (g8:¬ (x5 ≤ x4)) (g9:idxV Tp 22 (.imm .arg 1 pl) (.i (i:Int))=some (.vptr (.i x6))) (g10:idxV Tp 35 (.imm .arg 1 rw) (.i x6)=some (.vptr (.imm .arg 1 l0))) (g11:idxV Tp 22 (.imm .arg 1 l0) (.i 0)=some (.vptr (.i x7))) (g12:binV Tp .rem 3 (.i (IntKind.i64.wrap (o0+x7))) (.i a)=some (.i ((IntKind.i64.wrap (o0+x7):Int).tmod a))) (g13:idxV Tp 22 (.imm .arg 1 pl) (.i (i:Int))=some (.vptr (.i x8))) (g14:idxV Tp 35 (.imm .arg 1 rw) (.i x8)=some (.vptr (.imm .arg 1 l1))) (g15:idxV Tp 22 (.imm .arg 1 l1) (.i 1)=some (.vptr (.i x9))) (g16:binV Tp .rem 3 (.i (IntKind.i64.wrap (o1+x9))) (.i b)=some (.i ((IntKind.i64.wrap (o1+x9):Int).tmod b))):RT pol 27 (sub [1,1,0,1,0,0] B27) (env27 (.imm .arg 1 [.i a,.i b]) (.imm .arg 1 rw) (.imm .arg 1 pl) (.imm .lit 1 []) (.bool false) (.sl 0 0 2 (some 2) 2 1) (.i (i:Int)) y10) [.arr 1 [.i o0,.i o1] true 0] .normal (env27 (.imm .arg 1 [.i a,.i b]) (.imm .arg 1 rw) (.imm .arg 1 pl) (.imm .lit 1 []) (.bool false) (.sl 0 0 2 (some 2) 2 1) (.i (IntKind.i64.wrap ((i:Int)+1))) (.i 2)) [.arr 1 [.i ((IntKind.i64.wrap (o0+x7):Int).tmod a),.i ((IntKind.i64.wrap (o1+x9):Int).tmod b)] true 0] :=
  RunsTo.hin 0 60 [⟨3,3,.bool true,[.arr 1 [.i o0,.i o1] true 0]⟩,⟨5,2,.vptr (.i x2),[.arr 1 [.i o0,.i o1] true 0]⟩,⟨5,4,.bool false,[.arr 1 [.i o0,.i o1] true 0]⟩,⟨5,8,.vptr (.i x3),[.arr 1 [.i o0,.i o1] true 0]⟩,⟨5,12,.bool false,[.arr 1 [.i o0,.i o1] true 0]⟩,⟨5,16,.bool true,[.arr 1 [.i o0,.i o1] true 0]⟩,⟨5,21,.vptr (.i x4),[.arr 1 [.i o0,.i o1] true 0]⟩,⟨5,25,.vptr (.i x5),[.arr 1 [.i o0,.i o1] true 0]⟩,⟨5,27,.bool false,[.arr 1 [.i o0,.i o1] true 0]⟩,⟨10,9,.vptr (.i x6),[.arr 1 [.i o0,.i o1] true 0]⟩,⟨10,11,.vptr (.imm .arg 1 l0),[.arr 1 [.i o0,.i o1] true 0]⟩,⟨10,14,.vptr (.i x7),[.arr 1 [.i o0,.i o1] true 0]⟩,⟨10,21,.i ((IntKind.i64.wrap (o0+x7):Int).tmod a),[.arr 1 [.i o0,.i o1] true 0]⟩,⟨10,9,.vptr (.i x8),[.arr 1 [.i ((IntKind.i64.wrap (o0+x7):Int).tmod a),.i o1] true 0]⟩,⟨10,11,.vptr (.imm .arg 1 l1),[.arr 1 [.i ((IntKind.i64.wrap (o0+x7):Int).tmod a),.i o1] true 0]⟩,⟨10,14,.vptr (.i x9),[.arr 1 [.i ((IntKind.i64.wrap (o0+x7):Int).tmod a),.i o1] true 0]⟩,⟨10,21,.i ((IntKind.i64.wrap (o1+x9):Int).tmod b),[.arr 1 [.i ((IntKind.i64.wrap (o0+x7):Int).tmod a),.i o1] true 0]⟩] fun kf hk=>⟨_,by kernel_rfl,(oB [.arr 1 [.i o0,.i o1] true 0] (decide_eq_true g0) (oP [.arr 1 [.i o0,.i o1] true 0] g1 (oB [.arr 1 [.i o0,.i o1] true 0] (decide_eq_false g2) (oP [.arr 1 [.i o0,.i o1] true 0] g3 (oB [.arr 1 [.i o0,.i o1] true 0] (decide_eq_false g4) (oB [.arr 1 [.i o0,.i o1] true 0] (decide_eq_true g5) (oP [.arr 1 [.i o0,.i o1] true 0] g6 (oP [.arr 1 [.i o0,.i o1] true 0] g7 (oB [.arr 1 [.i o0,.i o1] true 0] (decide_eq_false g8) (oP [.arr 1 [.i o0,.i o1] true 0] g9 (oP [.arr 1 [.i o0,.i o1] true 0] g10 (oP [.arr 1 [.i o0,.i o1] true 0] g11 (oP [.arr 1 [.i o0,.i o1] true 0] g12 (oP [.arr 1 [.i ((IntKind.i64.wrap (o0+x7):Int).tmod a),.i o1] true 0] g13 (oP [.arr 1 [.i ((IntKind.i64.wrap (o0+x7):Int).tmod a),.i o1] true 0] g14 (oP [.arr 1 [.i ((IntKind.i64.wrap (o0+x7):Int).tmod a),.i o1] true 0] g15 (oP [.arr 1 [.i ((IntKind.i64.wrap (o0+x7):Int).tmod a),.i o1] true 0] g16 .nil)))))))))))))))))⟩
theorem ttb_d_4 (a b:Int) (rw pl:List HV) (o0:Int) (o1:Int) (i:Nat) {y10:HV} {x2:Int} {x3:Int} {x4:Int} {l0:List HV} {x5:Int} {x6:Int} {l1:List HV} {x7:Int} (g0:(i:Int) < (pl.length:Int)) (g1:idxV Tp 22 (.imm .arg 1 pl) (.i (i:Int))=some (.vptr (.i x2))) (g2:¬ (x2 < 0)) (g3:idxV Tp 22 (.imm .arg 1 pl) (.i (i:Int))=some (.vptr (.i x3))) (g4:¬ ((rw.length:Int) ≤ x3)) (g5:¬ (0 < (i:Int))) (g6:idxV Tp 22 (.imm .arg 1 pl) (.i (i:Int))=some (.vptr (.i x4))) (g7:idxV Tp 35 (.imm .arg 1 rw) (.i x4)=some (.vptr (.imm .arg 1 l0))) (g8:idxV Tp 22 (.imm .arg 1 l0) (.i 0)=some (.vptr (.i x5))) (g9:binV Tp .rem 3 (.i (IntKind.i64.wrap (o0+x5))) (.i a)=some (.i ((IntKind.i64.wrap (o0+x5):Int).tmod a))) (g10:idxV Tp 22 (.imm .arg 1 pl) (.i (i:Int))=some (.vptr (.i x6))) (g11:idxV Tp 35 (.imm .arg 1 rw) (.i x6)=some (.vptr (.imm .arg 1 l1))) (g12:idxV Tp 22 (.imm .arg 1 l1) (.i 1)=some (.vptr (.i x7))) (g13:binV Tp .rem 3 (.i (IntKind.i64.wrap (o1+x7))) (.i b)=some (.i ((IntKind.i64.wrap (o1+x7):Int).tmod b))):RT pol 27 (sub [1,1,0,1,0,0] B27) (env27 (.imm .arg 1 [.i a,.i b]) (.imm .arg 1 rw) (.imm .arg 1 pl) (.imm .lit 1 []) (.bool false) (.sl 0 0 2 (some 2) 2 1) (.i (i:Int)) y10) [.arr 1 [.i o0,.i o1] true 0] .normal (env27 (.imm .arg 1 [.i a,.i b]) (.imm .arg 1 rw) (.imm .arg 1 pl) (.imm .lit 1 []) (.bool false) (.sl 0 0 2 (some 2) 2 1) (.i (IntKind.i64.wrap ((i:Int)+1))) (.i 2)) [.arr 1 [.i ((IntKind.i64.wrap (o0+x5):Int).tmod a),.i ((IntKind.i64.wrap (o1+x7):Int).tmod b)] true 0] :=
  RunsTo.hin 0 60 [⟨3,3,.bool true,[.arr 1 [.i o0,.i o1] true 0]⟩,⟨5,2,.vptr (.i x2),[.arr 1 [.i o0,.i o1] true 0]⟩,⟨5,4,.bool false,[.arr 1 [.i o0,.i o1] true 0]⟩,⟨5,8,.vptr (.i x3),[.arr 1 [.i o0,.i o1] true 0]⟩,⟨5,12,.bool false,[.arr 1 [.i o0,.i o1] true 0]⟩,⟨5,16,.bool false,[.arr 1 [.i o0,.i o1] true 0]⟩,⟨10,9,.vptr (.i x4),[.arr 1 [.i o0,.i o1] true 0]⟩,⟨10,11,.vptr (.imm .arg 1 l0),[.arr 1 [.i o0,.i o1] true 0]⟩,⟨10,14,.vptr (.i x5),[.arr 1 [.i o0,.i o1] true 0]⟩,⟨10,21,.i ((IntKind.i64.wrap (o0+x5):Int).tmod a),[.arr 1 [.i o0,.i o1] true 0]⟩,⟨10,9,.vptr (.i x6),[.arr 1 [.i ((IntKind.i64.wrap (o0+x5):Int).tmod a),.i o1] true 0]⟩,⟨10,11,.vptr (.imm .arg 1 l1),[.arr 1 [.i ((IntKind.i64.wrap (o0+x5):Int).tmod a),.i o1] true 0]⟩,⟨10,14,.vptr (.i x7),[.arr 1 [.i ((IntKind.i64.wrap (o0+x5):Int).tmod a),.i o1] true 0]⟩,⟨10,21,.i ((IntKind.i64.wrap (o1+x7):Int).tmod b),[.arr 1 [.i ((IntKind.i64.wrap (o0+x5):Int).tmod a),.i o1] true 0]⟩] fun kf hk=>⟨_,by kernel_rfl,(oB [.arr 1 [.i o0,.i o1] true 0] (decide_eq_true g0) (oP [.arr 1 [.i o0,.i o1] true 0] g1 (oB [.arr 1 [.i o0,.i o1] true 0] (decide_eq_false g2) (oP [.arr 1 [.i o0,.i o1] true 0] g3 (oB [.arr 1 [.i o0,.i o1] true 0] (decide_eq_false g4) (oB [.arr 1 [.i o0,.i o1] true 0] (decide_eq_false g5) (oP [.arr 1 [.i o0,.i o1] true 0] g6 (oP [.arr 1 [.i o0,.i o1] true 0] g7 (oP [.arr 1 [.i o0,.i o1] true 0] g8 (oP [.arr 1 [.i o0,.i o1] true 0] g9 (oP [.arr 1 [.i ((IntKind.i64.wrap (o0+x5):Int).tmod a),.i o1] true 0] g10 (oP [.arr 1 [.i ((IntKind.i64.wrap (o0+x5):Int).tmod a),.i o1] true 0] g11 (oP [.arr 1 [.i ((IntKind.i64.wrap (o0+x5):Int).tmod a),.i o1] true 0] g12 (oP [.arr 1 [.i ((IntKind.i64.wrap (o0+x5):Int).tmod a),.i o1] true 0] g13 .nil))))))))))))))⟩
theorem ttb_d_5 (a b:Int) (rw pl:List HV) (o0:Int) (o1:Int) (i:Nat) {y10:HV}(g0:¬ ((i:Int) < (pl.length:Int))):RT pol 27 (sub [1,1,0,1,0,0] B27) (env27 (.imm .arg 1 [.i a,.i b]) (.imm .arg 1 rw) (.imm .arg 1 pl) (.imm .lit 1 []) (.bool false) (.sl 0 0 2 (some 2) 2 1) (.i (i:Int)) y10) [.arr 1 [.i o0,.i o1] true 0] (.exit 0) (env27 (.imm .arg 1 [.i a,.i b]) (.imm .arg 1 rw) (.imm .arg 1 pl) (.imm .lit 1 []) (.bool false) (.sl 0 0 2 (some 2) 2 1) (.i (i:Int)) y10) [.arr 1 [.i o0,.i o1] true 0] :=
  RunsTo.hin 0 60 [⟨3,3,.bool false,[.arr 1 [.i o0,.i o1] true 0]⟩] fun kf hk=>⟨_,by kernel_rfl,(oB [.arr 1 [.i o0,.i o1] true 0] (decide_eq_false g0) .nil)⟩
theorem ttb_e_0 (a b:Int) (rw pl:List HV) (o0:Int) (o1:Int) (y9 y10:HV):RT pol 27 (sub [1,1,1] B27) (env27 (.imm .arg 1 [.i a,.i b]) (.imm .arg 1 rw) (.imm .arg 1 pl) (.imm .lit 1 []) (.bool false) (.sl 0 0 2 (some 2) 2 1) y9 y10) [.arr 1 [.i o0,.i o1] true 0] .ret (env27 (.imm .arg 1 [.i a,.i b]) (.imm .arg 1 rw) (.imm .arg 1 pl) (.sl 0 0 2 (some 2) 2 1) (.bool true) (.sl 0 0 2 (some 2) 2 1) y9 y10) [.arr 1 [.i o0,.i o1] true 0] :=
  RunsTo.hin 0 60 [] fun kf hk=>⟨_,by kernel_rfl,.nil⟩
end Go.Proofs.Ytaibmipamkaljaa
end
section
open Go Go.HL
namespace Go.Proofs.Ytaibmipamkaljaa
open Go.Proofs.Try renaming prog → Tp
open Go.HL.HV renaming undef → Ud
def addL:List Int → List Int → List Int → List Int | [a],[o],[x]=>[(o+x) % a] | [a,b],[o,u],[x,y]=>[(o+x) % a,(u+y) % b] | _,_,_=>[]
def totF (gl:List Int) (R:List (List Int)):List Int → List Int → List Int
  | acc,[]=>acc
  | acc,q :: ps=>totF gl R (addL gl acc (R.getD q.toNat [])) ps
def okP (n:Nat) (p:List Int):Bool:=p.all (fun q=>decide (0 ≤ q∧q < (n:Int))) && (List.range (p.length - 1)).all fun i=>decide (p.getD i 0 < p.getD (i+1) 0)
theorem okP_iff {n:Nat} {p:List Int}:okP n p=true ↔ (∀ i,i < p.length → 0 ≤ p.getD i 0∧p.getD i 0 < (n:Int))∧∀ i,i+1 < p.length → p.getD i 0 < p.getD (i+1) 0:=by
  simp only [okP,Bool.and_eq_true,List.all_eq_true,decide_eq_true_eq,List.mem_range]
  constructor
  · rintro ⟨h1,h2⟩
    exact ⟨fun i hi=>h1 _ (by rw [List.getD,List.getElem?_eq_getElem hi]; exact List.getElem_mem hi),fun i hi=>h2 i (by omega)⟩
  · rintro ⟨h1,h2⟩
    refine ⟨fun q hq=>?_,fun i hi=>h2 i (by omega)⟩
    obtain ⟨i,hi,rfl⟩:=List.getElem_of_mem hq
    have:=h1 i hi
    rwa [List.getD,List.getElem?_eq_getElem hi] at this
theorem res27:Try.f27.results.toList=[.tmp 6,.tmp 7]:=by kernel_rfl
def total27:List HV → Option HV
  | [.imm .arg 1 la,.imm .arg 1 ra,.imm .arg 1 pa]=>(match mapO decI la,mapO decR ra,mapO decI pa with
    | some gl,some R,some p=>if ((newGroupT gl).2 && R.all (elB gl) && decide (p.length ≤ 1000) && okP R.length p)=true then some (.tuple [.own 1 ((totF gl R (List.replicate gl.length 0) p).map encI),.bool true]) else none
    | _,_,_=>none)
  | _=>none
theorem total_inv {args:List HV} {res:HV} (h:total27 args=some res):∃ (gl:List Int) (R:List (List Int)) (p:List Int),args=[.imm .arg 1 (gl.map encI),.imm .arg 1 (R.map encR),.imm .arg 1 (p.map encI)]∧((newGroupT gl).2=true∧(∀ x ∈ R,elB gl x=true)∧p.length ≤ 1000∧okP R.length p=true)∧res=.tuple [.own 1 ((totF gl R (List.replicate gl.length 0) p).map encI),.bool true]:=by
  unfold total27 at h
  split at h
  · split at h
    · rename_i gl R p h1 h2 h3
      split at h
      · rename_i hk
        cases h
        simp only [Bool.and_eq_true,decide_eq_true_eq,List.all_eq_true] at hk
        exact ⟨gl,R,p,by rw [mapO_inv decI_inv h1,mapO_inv decR_inv h2,mapO_inv decI_inv h3],⟨hk.1.1.1,hk.1.1.2,hk.1.2,hk.2⟩,rfl⟩
      · cases h
    · cases h
  · cases h
abbrev ttE (gl:List Int) (R:List (List Int)) (p:List Int) (n:Nat) (v9 v10:HV):Env:=(env27 (.imm .arg 1 (gl.map encI)) (.imm .arg 1 (R.map encR)) (.imm .arg 1 (p.map encI)) (.imm .lit 1 []) (.bool false) (.sl 0 0 n (some n) n 1) v9 v10)
section
variable {R:List (List Int)} {p:List Int}
theorem tt_loopA {a:Int} (h1:2 ≤ a) (h2:a ≤ 24) (hR:∀ x ∈ R,elB [a] x=true) (hl:p.length ≤ 1000) (hp:okP R.length p=true):∀ k i o,i+k=p.length → (0 ≤ o∧o < a) →
    ∃ y9 y10,RT pol 27 (sub [1,1,0,1,0] B27) (ttE [a] R p 1 (.int .i64 (i:Int)) Ud) [bI [o]] (.exit 0) (ttE [a] R p 1 y9 y10) [bI (totF [a] R [o] (p.drop i))]:=by
  obtain ⟨p1,p2⟩:=okP_iff.1 hp
  intro k
  induction k with
  | zero =>
    intro i o hi ho
    have s:=tta_d_5 a (R.map encR) (p.map encI) o i (y10:=Ud) (by rw [List.length_map]; omega)
    rw [List.drop_of_length_le (by omega)]
    exact ⟨_,_,lpo (s)⟩
  | succ k ih =>
    intro i o hi ho
    have hlt:i < p.length:=by omega
    have hcons:p.drop i=p.getD i 0 :: p.drop (i+1):=by
      rw [List.drop_eq_getElem_cons hlt]; simp [List.getD,List.getElem?_eq_getElem hlt]
    have q1:=p1 i hlt
    have hq:(p.getD i 0).toNat < R.length:=by omega
    obtain ⟨u,hu,k1,k2⟩:=el_one (hR _ (show R.getD (p.getD i 0).toNat [] ∈ R by rw [List.getD,List.getElem?_eq_getElem hq]; exact List.getElem_mem hq))
    have hgr:=gri (R:=R) q1.1 hq
    have hgx:=gx (l:=p) hlt
    have hg0:idxV Tp 22 (.imm .arg 1 ((R.getD (p.getD i 0).toNat []).map encI)) (.int .i64 0)=some (.vptr (.int .i64 u)):=by
      have:=gx (l:=R.getD (p.getD i 0).toNat []) (y:=0) (by rw [hu]; simp)
      rw [hu] at this ⊢; exact this
    have w:IntKind.i64.wrap (o+u)=o+u:=wrap_id (by omega) (by omega)
    have t:(o+u).tmod a=(o+u) % a:=Int.tmod_eq_emod_of_nonneg (by omega)
    have m:=mod_in (m:=a) (by omega) (o+u)
    obtain ⟨y9,y10,r⟩:=ih (i+1) ((o+u) % a) (by omega) m
    have et:totF [a] R [o] (p.drop i)=totF [a] R [(o+u) % a] (p.drop (i+1)):=by rw [hcons,totF,hu]; rfl
    rw [et]
    by_cases h0:0 < i
    · have q0:=p2 (i - 1) (by omega)
      rw [show i - 1+1=i by omega] at q0
      have hgp:=gx (l:=p) (y:=i - 1) (by omega)
      rw [← wrap_pred h0 (by omega)] at hgp
      have s:=tta_d_3 a (R.map encR) (p.map encI) o i (y10:=Ud) (by rw [List.length_map]; omega) hgx (by omega) hgx (by rw [List.length_map]; omega) (by omega) hgp hgx (by omega) hgx hgr hg0 (rem3 (by omega))
      rw [wrap_succ (by omega),w,t] at s
      exact ⟨y9,y10,lop (s) (gc_eq _ rfl) (r)⟩
    · have s:=tta_d_4 a (R.map encR) (p.map encI) o i (y10:=Ud) (by rw [List.length_map]; omega) hgx (by omega) hgx (by rw [List.length_map]; omega) (by omega) hgx hgr hg0 (rem3 (by omega))
      rw [wrap_succ (by omega),w,t] at s
      exact ⟨y9,y10,lop (s) (gc_eq _ rfl) (r)⟩
theorem tt_loopB {a b:Int} (h1:2 ≤ a) (h2:a ≤ 24) (h3:2 ≤ b) (h4:b ≤ 24) (hR:∀ x ∈ R,elB [a,b] x=true) (hl:p.length ≤ 1000) (hp:okP R.length p=true):∀ k i o o',i+k=p.length → (0 ≤ o∧o < a) → (0 ≤ o'∧o' < b) →
    ∃ y9 y10,RT pol 27 (sub [1,1,0,1,0] B27) (ttE [a,b] R p 2 (.int .i64 (i:Int)) Ud) [bI [o,o']] (.exit 0) (ttE [a,b] R p 2 y9 y10) [bI (totF [a,b] R [o,o'] (p.drop i))]:=by
  obtain ⟨p1,p2⟩:=okP_iff.1 hp
  intro k
  induction k with
  | zero =>
    intro i o o' hi ho ho'
    have s:=ttb_d_5 a b (R.map encR) (p.map encI) o o' i (y10:=Ud) (by rw [List.length_map]; omega)
    rw [List.drop_of_length_le (by omega)]
    exact ⟨_,_,lpo (s)⟩
  | succ k ih =>
    intro i o o' hi ho ho'
    have hlt:i < p.length:=by omega
    have hcons:p.drop i=p.getD i 0 :: p.drop (i+1):=by
      rw [List.drop_eq_getElem_cons hlt]; simp [List.getD,List.getElem?_eq_getElem hlt]
    have q1:=p1 i hlt
    have hq:(p.getD i 0).toNat < R.length:=by omega
    obtain ⟨u,v,hu,hk1,hk2⟩:=el_two (hR _ (show R.getD (p.getD i 0).toNat [] ∈ R by rw [List.getD,List.getElem?_eq_getElem hq]; exact List.getElem_mem hq))
    have hgr:=gri (R:=R) q1.1 hq
    have hgx:=gx (l:=p) hlt
    have hg0:idxV Tp 22 (.imm .arg 1 ((R.getD (p.getD i 0).toNat []).map encI)) (.int .i64 0)=some (.vptr (.int .i64 u)):=by
      have:=gx (l:=R.getD (p.getD i 0).toNat []) (y:=0) (by rw [hu]; simp)
      rw [hu] at this ⊢; exact this
    have hg1:idxV Tp 22 (.imm .arg 1 ((R.getD (p.getD i 0).toNat []).map encI)) (.int .i64 1)=some (.vptr (.int .i64 v)):=by
      have:=gx (l:=R.getD (p.getD i 0).toNat []) (y:=1) (by rw [hu]; simp)
      rw [hu] at this ⊢; exact this
    have w:IntKind.i64.wrap (o+u)=o+u:=wrap_id (by omega) (by omega)
    have t:(o+u).tmod a=(o+u) % a:=Int.tmod_eq_emod_of_nonneg (by omega)
    have w':IntKind.i64.wrap (o'+v)=o'+v:=wrap_id (by omega) (by omega)
    have t':(o'+v).tmod b=(o'+v) % b:=Int.tmod_eq_emod_of_nonneg (by omega)
    have m:=mod_in (m:=a) (by omega) (o+u)
    have m':=mod_in (m:=b) (by omega) (o'+v)
    obtain ⟨y9,y10,r⟩:=ih (i+1) ((o+u) % a) ((o'+v) % b) (by omega) m m'
    have et:totF [a,b] R [o,o'] (p.drop i)=totF [a,b] R [(o+u) % a,(o'+v) % b] (p.drop (i+1)):=by rw [hcons,totF,hu]; rfl
    rw [et]
    by_cases h0:0 < i
    · have q0:=p2 (i - 1) (by omega)
      rw [show i - 1+1=i by omega] at q0
      have hgp:=gx (l:=p) (y:=i - 1) (by omega)
      rw [← wrap_pred h0 (by omega)] at hgp
      have s:=ttb_d_3 a b (R.map encR) (p.map encI) o o' i (y10:=Ud) (by rw [List.length_map]; omega) hgx (by omega) hgx (by rw [List.length_map]; omega) (by omega) hgp hgx (by omega) hgx hgr hg0 (rem3 (by omega)) hgx hgr hg1 (rem3 (by omega))
      rw [wrap_succ (by omega),w,t,w',t'] at s
      exact ⟨y9,y10,lop (s) (gc_eq _ rfl) (r)⟩
    · have s:=ttb_d_4 a b (R.map encR) (p.map encI) o o' i (y10:=Ud) (by rw [List.length_map]; omega) hgx (by omega) hgx (by rw [List.length_map]; omega) (by omega) hgx hgr hg0 (rem3 (by omega)) hgx hgr hg1 (rem3 (by omega))
      rw [wrap_succ (by omega),w,t,w',t'] at s
      exact ⟨y9,y10,lop (s) (gc_eq _ rfl) (r)⟩
end
theorem totF_len {gl:List Int} (hg:(newGroupT gl).2=true) {R:List (List Int)} (hR:∀ x ∈ R,elB gl x=true):∀ (p acc:List Int),(∀ q ∈ p,0 ≤ q∧q < (R.length:Int)) → acc.length=gl.length → (totF gl R acc p).length=gl.length
  | [],acc,_,h=>h
  | q :: p,acc,hp,h=>by
    rw [totF]
    have hq:=hp q (by simp)
    refine totF_len hg hR p _ (fun r hr=>hp r (by simp [hr])) ?_
    have hx:=hR _ (show R.getD q.toNat [] ∈ R by rw [List.getD,List.getElem?_eq_getElem (show q.toNat < R.length by omega)]; exact List.getElem_mem _)
    rcases grp_cases hg with ⟨a,rfl,h1,h2⟩ | ⟨a,b,rfl,h1,h2,h3,h4,h5,h6⟩
    · obtain ⟨u,hu,_⟩:=el_one hx
      rw [hu]
      match acc,h with
      | [o],_=>rfl
    · obtain ⟨u,v,hu,_⟩:=el_two hx
      rw [hu]
      match acc,h with
      | [o,o'],_=>rfl
theorem okP_mem {n:Nat} {p:List Int} (h:okP n p=true):∀ q ∈ p,0 ≤ q∧q < (n:Int):=by
  intro q hq
  obtain ⟨i,hi,rfl⟩:=List.getElem_of_mem hq
  have:=(okP_iff.1 h).1 i hi
  rwa [List.getD,List.getElem?_eq_getElem hi] at this
theorem total_ok:PrimOk Tp 27 total27:=by
  refine primOk_pure (pol:=pol) (fn:=Try.f27) (cd:=B27) follows_mixed sound (by kernel_rfl) (by kernel_rfl) (fnok pol.prim _ _ (by kernel_rfl)) (by kernel_rfl) ?_
  intro args res h
  obtain ⟨gl,R,p,rfl,⟨hg,hR,hl,hp⟩,rfl⟩:=total_inv h
  have tl:=totF_len hg hR p (List.replicate gl.length 0) (okP_mem hp) (by simp)
  rcases grp_cases hg with ⟨a,rfl,h1,h2⟩ | ⟨a,b,rfl,h1,h2,h3,h4,h5,h6⟩
  · have s1:=tta_a_0 a (R.map encR) (p.map encI)
    have s2:=tta_b_0 a (R.map encR) (p.map encI)
    have s3:=tta_c_0 a (R.map encR) (p.map encI) 0
    obtain ⟨y9,y10,r⟩:=tt_loopA h1 h2 hR hl hp p.length 0 0 (by omega) (by omega)
    rw [List.drop_zero] at r
    have e:totF [a] R (List.replicate [a].length 0) p=totF [a] R [0] p:=rfl
    rw [e] at tl ⊢
    match hT:totF [a] R [0] p,tl with
    | [o],_ =>
      rw [hT] at r
      have s5:RT pol 27 (sub [1,1,1] B27) (ttE [a] R p 1 y9 y10) [bI [o]] .ret (env27 (.imm .arg 1 ([a].map encI)) (.imm .arg 1 (R.map encR)) (.imm .arg 1 (p.map encI)) (.sl 0 0 1 (some 1) 1 1) (.bool true) (.sl 0 0 1 (some 1) 1 1) y9 y10) [bI [o]]:=tta_e_0 a (R.map encR) (p.map encI) o y9 y10
      have u:=sq (s1) (sq (s2) (sq (sq (s3) (bke (c:=sub [1,1,0,1] B27) (lpi (e0:=(ttE [a] R p 1 (.int .i64 ((0:Nat):Int)) Ud)) r (b:=sub [1,1,0,1,0,0] B27))) (c:=sub [1,1,0] B27)) (s5) (c:=sub [1,1] B27)) (c:=sub [1] B27)) (c:=B27)
      exact ⟨_,_,_,.tuple [.sl 0 0 1 (some 1) 1 1,.bool true],u,by simp,by simp only [resultsV,res27]; rfl,toRes_lb (o:=[o]) rfl rfl true⟩
  · have s1:=ttb_a_0 a b (R.map encR) (p.map encI)
    have s2:=ttb_b_0 a b (R.map encR) (p.map encI)
    have s3:=ttb_c_0 a b (R.map encR) (p.map encI) 0 0
    obtain ⟨y9,y10,r⟩:=tt_loopB h1 h2 h3 h4 hR hl hp p.length 0 0 0 (by omega) (by omega) (by omega)
    rw [List.drop_zero] at r
    have e:totF [a,b] R (List.replicate [a,b].length 0) p=totF [a,b] R [0,0] p:=rfl
    rw [e] at tl ⊢
    match hT:totF [a,b] R [0,0] p,tl with
    | [o,o'],_ =>
      rw [hT] at r
      have s5:RT pol 27 (sub [1,1,1] B27) (ttE [a,b] R p 2 y9 y10) [bI [o,o']] .ret (env27 (.imm .arg 1 ([a,b].map encI)) (.imm .arg 1 (R.map encR)) (.imm .arg 1 (p.map encI)) (.sl 0 0 2 (some 2) 2 1) (.bool true) (.sl 0 0 2 (some 2) 2 1) y9 y10) [bI [o,o']]:=ttb_e_0 a b (R.map encR) (p.map encI) o o' y9 y10
      have u:=sq (s1) (sq (s2) (sq (sq (s3) (bke (c:=sub [1,1,0,1] B27) (lpi (e0:=(ttE [a,b] R p 2 (.int .i64 ((0:Nat):Int)) Ud)) r (b:=sub [1,1,0,1,0,0] B27))) (c:=sub [1,1,0] B27)) (s5) (c:=sub [1,1] B27)) (c:=sub [1] B27)) (c:=B27)
      exact ⟨_,_,_,.tuple [.sl 0 0 2 (some 2) 2 1,.bool true],u,by simp,by simp only [resultsV,res27]; rfl,toRes_lb (o:=[o,o']) rfl rfl true⟩
end Go.Proofs.Ytaibmipamkaljaa
end
section
open Go Go.HL
namespace Go.Proofs.Ytaibmipamkaljaa
def sumG (g:Gr) (l:List El):El:=((l.map Prod.fst).sum % g.1,(l.map Prod.snd).sum % g.2.1)
theorem sumG_cons {g:Gr} (x:El) (l:List El):sumG g (x :: l)=addT g (sumG g l) x:=by
  simp only [sumG,addT,List.map_cons,List.sum_cons]
  rw [Int.emod_add_emod,Int.emod_add_emod,Int.add_comm x.1,Int.add_comm x.2]
theorem sumG_nil (g:Gr):sumG g []=(0,0):=by simp [sumG]
theorem sumG_add {g:Gr} (l:List El) (x:El):addT g (sumG g l) x=sumG g (l ++ [x]):=by
  simp only [sumG,addT,List.map_append,List.sum_append,List.map_cons,List.map_nil,List.sum_cons,List.sum_nil,Int.add_zero]
  rw [Int.emod_add_emod,Int.emod_add_emod]
theorem rch_gen {g:Gr}:∀ (l:List El) (k:Int) (t:El),(k,t) ∈ (rchT g l).headD [] ↔ ∃ s:List El,s.Sublist l∧k=(s.length:Int)∧t=sumG g s
  | [],k,t=>by
    simp only [rchT,List.headD_cons,List.mem_singleton,List.sublist_nil]
    constructor
    · intro h
      exact ⟨[],rfl,congrArg Prod.fst h,(congrArg Prod.snd h).trans (sumG_nil g).symm⟩
    · rintro ⟨s,rfl,rfl,rfl⟩
      rw [sumG_nil]; rfl
  | x :: l,k,t=>by
    show (k,t) ∈ rchStep g x ((rchT g l).headD []) ↔ _
    rw [mem_step]
    constructor
    · rintro ⟨u,h1,h2⟩
      obtain ⟨s,hs,e1,e2⟩:=(rch_gen l u.1 u.2).1 h1
      rcases h2 with h2 | h2
      · subst h2; exact ⟨s,hs.cons x,e1,e2⟩
      · have a1:k=u.1+1:=congrArg Prod.fst h2
        have a2:t=addT g u.2 x:=congrArg Prod.snd h2
        exact ⟨x :: s,hs.cons_cons x,by rw [a1,e1]; simp,by rw [a2,e2,sumG_cons]⟩
    · rintro ⟨s,hs,e1,e2⟩
      cases hs with
      | cons _ h=>exact ⟨(k,t),(rch_gen l k t).2 ⟨s,h,e1,e2⟩,.inl rfl⟩
      | cons_cons _ h =>
        rename_i s'
        refine ⟨((s'.length:Int),sumG g s'),(rch_gen l _ _).2 ⟨s',h,rfl,rfl⟩,.inr ?_⟩
        rw [e1,e2,sumG_cons]
        simp only [rchW,List.length_cons]
        refine Prod.ext ?_ rfl
        show ((s'.length+1:Nat):Int)=(s'.length:Int)+1
        omega
theorem part_gen {g:Gr} (hg:grOk g):∀ (l:List El) (i:Nat) (w:Wt),(∀ x ∈ l,elOk g x) → w ∈ (rchT g l).headD [] →
    (∀ q ∈ partT g l i w,i ≤ q∧q < i+l.length)∧(partT g l i w).Pairwise (· < ·)∧((partT g l i w).map fun q=>l.getD (q - i) (0,0)).Sublist l∧sumG g ((partT g l i w).map fun q=>l.getD (q - i) (0,0))=w.2
  | [],i,w,_,h=>by
    simp only [rchT,List.headD_cons,List.mem_singleton] at h
    subst h
    refine ⟨by simp [partT],by simp [partT],by simp [partT],by simp [partT,sumG]⟩
  | x :: l,i,w,hl,h=>by
    have hx:=hl x (by simp)
    have hl':∀ y ∈ l,elOk g y:=fun y hy=>hl y (by simp [hy])
    have hok:=head_ok hg (x :: l) w h
    rw [partT]
    split
    · rename_i c
      obtain ⟨s,s1,s2,s3⟩:=(rch_gen (x :: l) w.1 w.2).1 h
      have:s=[]:=List.length_eq_zero_iff.1 (by omega)
      subst this
      exact ⟨by simp,by simp,by simp,by rw [List.map_nil]; exact s3.symm⟩
    · rename_i c0
      have key:∀ q,i+1 ≤ q → (x :: l).getD (q - i) (0,0)=l.getD (q - (i+1)) (0,0):=fun q hq=>by
        rw [show q - i=q - (i+1)+1 by omega]; rfl
      have mp:∀ P:List Nat,(∀ q ∈ P,i+1 ≤ q∧q < i+1+l.length) → (P.map fun q=>(x :: l).getD (q - i) (0,0))=P.map fun q=>l.getD (q - (i+1)) (0,0):=fun P hP=>List.map_congr_left fun q hq=>key q (hP q hq).1
      split
      · rename_i c
        obtain ⟨p1,p2,p3,p4⟩:=part_gen hg l (i+1) _ hl' c
        refine ⟨fun q hq=>?_,List.Pairwise.cons (fun q hq=>by have:=p1 q hq; omega) p2,?_,?_⟩
        · rcases List.mem_cons.1 hq with rfl | hq
          · simp only [List.length_cons]; omega
          · have:=p1 q hq; simp only [List.length_cons]; omega
        · rw [List.map_cons,mp _ p1,Nat.sub_self]; exact p3.cons_cons x
        · rw [List.map_cons,mp _ p1,Nat.sub_self]
          show sumG g (x :: _)=_
          rw [sumG_cons,p4]
          exact add_subT hg hok.1
      · rename_i c
        rcases part_next hg hx h with h' | h'
        · exact absurd h' c
        · obtain ⟨p1,p2,p3,p4⟩:=part_gen hg l (i+1) w hl' h'
          refine ⟨fun q hq=>by have:=p1 q hq; simp only [List.length_cons]; omega,p2,?_,?_⟩
          · rw [mp _ p1]; exact p3.cons x
          · rw [mp _ p1]; exact p4
section
variable {gl:List Int} (hg:(newGroupT gl).2=true)
include hg
theorem eE_inj {x y:List Int} (hx:elB gl x=true) (hy:elB gl y=true) (h:eE gl x=eE gl y):x=y:=by
  rcases grp_cases hg with ⟨a,rfl,h1,h2⟩ | ⟨a,b,rfl,h1,h2,h3,h4,h5,h6⟩
  · obtain ⟨u,rfl,k1,k2⟩:=el_one hx
    obtain ⟨v,rfl,j1,j2⟩:=el_one hy
    have:u=v:=congrArg Prod.fst h
    rw [this]
  · obtain ⟨u,v,rfl,k1,k2⟩:=el_two hx
    obtain ⟨u',v',rfl,j1,j2⟩:=el_two hy
    simp only [eE,codeT,tE_two k2,tE_two j2,Prod.mk.injEq] at h
    rw [h.1,h.2]
theorem eE_add {x y:List Int} (hx:elB gl x=true) (hy:elB gl y=true):elB gl (addL gl x y)=true∧eE gl (addL gl x y)=addT (grG gl) (eE gl x) (eE gl y):=by
  rcases grp_cases hg with ⟨a,rfl,h1,h2⟩ | ⟨a,b,rfl,h1,h2,h3,h4,h5,h6⟩
  · obtain ⟨u,rfl,k1,k2⟩:=el_one hx
    obtain ⟨v,rfl,j1,j2⟩:=el_one hy
    refine ⟨el_mk1 (mod_in (by omega) _),?_⟩
    simp only [grG,new_one h1 h2]
    exact Prod.ext rfl (by show (0:Int)=(0+0) % 1; decide)
  · obtain ⟨u,v,rfl,k1,k2⟩:=el_two hx
    obtain ⟨u',v',rfl,j1,j2⟩:=el_two hy
    refine ⟨el_mk2 (mod_in (by omega) _) (mod_in (by omega) _),?_⟩
    simp only [grG,new_two h1 h2 h3 h4 h5 h6,eE,codeT,addL,tE_two k2,tE_two j2]
    rw [tE_two (mod_in (by omega) _)]; rfl
theorem totF_el {R:List (List Int)} (hR:∀ x ∈ R,elB gl x=true):∀ (p acc:List Int) (L:List El),(∀ q ∈ p,0 ≤ q∧q < (R.length:Int)) → elB gl acc=true → eE gl acc=sumG (grG gl) L →
    elB gl (totF gl R acc p)=true∧eE gl (totF gl R acc p)=sumG (grG gl) (L ++ p.map fun q=>(els gl R).getD q.toNat (0,0))
  | [],acc,L,_,h1,h2=>by rw [totF,List.map_nil,List.append_nil]; exact ⟨h1,h2⟩
  | q :: p,acc,L,hp,h1,h2=>by
    have hq:=hp q (by simp)
    have hlt:q.toNat < R.length:=by omega
    have hx:elB gl (R.getD q.toNat [])=true:=hR _ (by rw [List.getD,List.getElem?_eq_getElem hlt]; exact List.getElem_mem _)
    obtain ⟨e1,e2⟩:=eE_add hg h1 hx
    have e3:(els gl R).getD q.toNat (0,0)=eE gl (R.getD q.toNat []):=by simp [List.getD,List.getElem?_map,List.getElem?_eq_getElem hlt]
    obtain ⟨r1,r2⟩:=totF_el hR p (addL gl acc (R.getD q.toNat [])) (L ++ [(els gl R).getD q.toNat (0,0)]) (fun r hr=>hp r (by simp [hr])) e1 (by rw [e2,h2,e3,sumG_add])
    rw [totF,List.map_cons]
    refine ⟨r1,r2.trans ?_⟩
    rw [List.append_assoc]; rfl
theorem tot_part {R:List (List Int)} (hR:∀ x ∈ R,elB gl x=true) {k:Int} {x:List Int} (hx:elB gl x=true) (h:(k,eE gl x) ∈ (rchT (grG gl) (els gl R)).headD []) :
    okP R.length (partI (grG gl) (els gl R) (k,eE gl x))=true∧totF gl R (List.replicate gl.length 0) (partI (grG gl) (els gl R) (k,eE gl x))=x:=by
  have hall:∀ y ∈ els gl R,elOk (grG gl) y:=fun y hy=>by
    obtain ⟨z,hz,rfl⟩:=List.mem_map.1 hy
    exact eE_ok hg (hR z hz)
  obtain ⟨p1,p2,p3,p4⟩:=part_gen (grG_ok hg) (els gl R) 0 (k,eE gl x) hall h
  have ok:okP R.length (partI (grG gl) (els gl R) (k,eE gl x))=true:=by
    refine okP_iff.2 ⟨fun i hi=>?_,fun i hi=>?_⟩
    · simp only [partI,List.length_map] at hi ⊢
      simp only [List.getD,List.getElem?_map,List.getElem?_eq_getElem hi,Option.map_some,Option.getD_some]
      have:=p1 _ (List.getElem_mem hi)
      have hL:(els gl R).length=R.length:=List.length_map ..
      rw [hL] at this
      omega
    · simp only [partI,List.length_map] at hi ⊢
      simp only [List.getD,List.getElem?_map,List.getElem?_eq_getElem hi,List.getElem?_eq_getElem (show i < (partT (grG gl) (els gl R) 0 (k,eE gl x)).length by omega),Option.map_some,Option.getD_some]
      have:=List.pairwise_iff_getElem.1 p2 i (i+1) (by omega) hi (by omega)
      omega
  refine ⟨ok,?_⟩
  obtain ⟨z1,z2⟩:=zero_el hg
  obtain ⟨t1,t2⟩:=totF_el hg hR (partI (grG gl) (els gl R) (k,eE gl x)) (List.replicate gl.length 0) [] (okP_mem ok) z1 (by rw [z2,sumG_nil])
  refine eE_inj hg t1 hx (t2.trans ?_)
  rw [List.nil_append,partI,List.map_map]
  have:(partT (grG gl) (els gl R) 0 (k,eE gl x)).map ((fun q:Int=>(els gl R).getD q.toNat (0,0)) ∘ fun q:Nat=>(q:Int))=(partT (grG gl) (els gl R) 0 (k,eE gl x)).map fun q=>(els gl R).getD (q - 0) (0,0):=List.map_congr_left fun q _=>rfl
  rw [this,p4]
end
end Go.Proofs.Ytaibmipamkaljaa
end
section
open Go Go.HL
namespace Go.Proofs.Ytaibmipamkaljaa
open Go.Proofs.Try renaming prog → Tp
open Go.HL.HV renaming undef → Ud
theorem ints_at {pol':Pol} (hp:pol'.prim 17=some ints17) {a b:List Int} {v1 v2:HV} {H:Heap} (h1:argI H v1 a) (h2:argI H v2 b) (hl:a.length ≤ 1000) :
    ∀ k,callN Tp pol' (k+1) 17 [v1,v2] H=some (.bool (decide (a=b)),H):=fun k=>by
  have hd:mapO decI (a.map encI)=some a:=mapO_map decI_enc a
  have hd2:mapO decI (b.map encI)=some b:=mapO_map decI_enc b
  unfold argI at h1 h2
  rw [prim_call (pol:=pol') (g:=17) (F:=ints17) hp (rs:=[.imm .arg 1 (a.map encI),.imm .arg 1 (b.map encI)]) (by simp only [mapO,h1,h2]) (res:=.bool (decide (a=b))) (by simp only [ints17,llF,hd,hd2]; rw [if_pos hl])]
  rfl
end Go.Proofs.Ytaibmipamkaljaa
end
section
open Go Go.HL
namespace Go.Proofs.Ytaibmipamkaljaa
open Go.Proofs.Try renaming prog → Tp
open Go.HL.HV renaming undef → Ud
def argR (H:Heap) (v:HV) (R:List (List Int)):Prop:=toArg H 6 v=some (.imm .arg 1 (R.map encR))
theorem argR_imm (H:Heap) (R:List (List Int)):argR H (.imm .arg 1 (R.map encR)) R:=arg_rw H R
theorem argR_sl {H:Heap} {R:List (List Int)} {b m mx:Nat} (hm:R.length=m) (hb:H[b]?=some (.arr 1 (R.map encO) true mx)):argR H (.sl b 0 m none m 1) R:=arg_rs hm hb
theorem argI_sl {H:Heap} {l:List Int} {b m:Nat} (hm:l.length=m) (hb:H[b]?=some (bI l)):argI H (.sl b 0 m none m 1) l:=arg_sl hm hb
abbrev bR (R:List (List Int)):Blk:=.arr 1 (R.map encO) true 0
theorem part34_at {pol':Pol} (hp:pol'.prim 34=some part34) {l x:List Int} {R:List (List Int)} {v1 v2 v3:HV} {H:Heap} (h1:argI H v1 l) (h2:argR H v2 R) (h3:argI H v3 x) (hR:R.length ≤ 1000) :
    ∀ k,callN Tp pol' (k+1) 34 [v1,v2,v3] H=some (.tuple [.sl H.length 0 (partTT l R x).1.length none (partTT l R x).1.length 1,.int .i64 (partTT l R x).2],H ++ [bI (partTT l R x).1]):=fun k=>by
  have hd:mapO decI (l.map encI)=some l:=mapO_map decI_enc l
  have hd2:mapO decR (R.map encR)=some R:=mapO_map decR_enc R
  have hd3:mapO decI (x.map encI)=some x:=mapO_map decI_enc x
  unfold argI at h1 h3
  unfold argR at h2
  rw [prim_call (pol:=pol') (g:=34) (F:=part34) hp (rs:=[.imm .arg 1 (l.map encI),.imm .arg 1 (R.map encR),.imm .arg 1 (x.map encI)]) (by simp only [mapO,h1,h2,h3]) (res:=.tuple [.own 1 ((partTT l R x).1.map encI),.int .i64 (partTT l R x).2]) (by simp only [part34,hd,hd2,hd3]; rw [if_pos hR]),recv_li1]
theorem recv_lb (l:List Int) (x:Bool) (H:Heap):recv (.tuple [.own 1 (l.map encI),.bool x]) H=(.tuple [.sl H.length 0 l.length none l.length 1,.bool x],H ++ [bI l]):=by
  have h:recvCell (.own 1 (l.map encI)) H=(.sl H.length 0 l.length none l.length 1,H ++ [bI l]):=by
    simp only [recvCell,encI_any,List.length_map]; rfl
  simp only [recv,recvVals,recvVal,h]; rfl
end Go.Proofs.Ytaibmipamkaljaa
end
section
open Go Go.HL
namespace Go.Proofs.Ytaibmipamkaljaa
open Go.Proofs.Try renaming prog → Tp
open Go.HL.HV renaming undef → Ud
theorem el_of_row {gl r:List Int} (h:rowOk gl r):elB gl r=true:=by
  simp only [elB,Bool.and_eq_true,decide_eq_true_eq,List.all_eq_true,List.mem_range,cellB]
  exact ⟨h.1,fun j hj=>h.2 j hj⟩
theorem rowsE_el {gl:List Int} {g:Gr} {e:Int} (h:GrL gl g e) (R:List (List Int)) (c:Int):∀ x ∈ rowsE gl R c,elB gl x=true:=by
  intro x hx
  obtain ⟨y,_,rfl⟩:=List.mem_map.1 hx
  exact el_of_row (row_ok h y)
theorem rowsE_len (gl:List Int) (R:List (List Int)) (c:Int):(rowsE gl R c).length ≤ c.toNat:=by
  simp only [rowsE,List.length_map,List.length_take]; omega
theorem shT_inv {g:Gr} {l:List El} {t:El}:∀ (f j:Nat),(shT g l t f j=none∧∀ k:Nat,j ≤ k → k < j+f → ((k:Int),t) ∉ (rchT g l).headD []) ∨
    ∃ o,j ≤ o∧o < j+f∧((o:Int),t) ∈ (rchT g l).headD []∧(∀ k:Nat,j ≤ k → k < o → ((k:Int),t) ∉ (rchT g l).headD [])∧shT g l t f j=some (partI g l ((o:Int),t))
  | 0,j=>.inl ⟨rfl,fun k h1 h2=>by omega⟩
  | f+1,j=>by
    by_cases c:((j:Int),t) ∈ (rchT g l).headD []
    · exact .inr ⟨j,Nat.le_refl _,by omega,c,fun k h1 h2=>by omega,by rw [shT,if_pos c]⟩
    · rcases shT_inv (g:=g) (l:=l) (t:=t) f (j+1) with ⟨h1,h2⟩ | ⟨o,h1,h2,h3,h4,h5⟩
      · refine .inl ⟨by rw [shT,if_neg c]; exact h1,fun k a b=>?_⟩
        by_cases e:k=j
        · rw [e]; exact c
        · exact h2 k (by omega) (by omega)
      · refine .inr ⟨o,by omega,by omega,h3,fun k a b=>?_,by rw [shT,if_neg c]; exact h5⟩
        by_cases e:k=j
        · rw [e]; exact c
        · exact h4 k (by omega) b
theorem zero_cases {gl:List Int} (hg:(newGroupT gl).2=true) {R:List (List Int)} (hR:∀ x ∈ R,elB gl x=true) (hl:R.length ≤ 60) :
    (zeroT gl R=([],6)∧∀ s:List El,s.Sublist (els gl R) → s ≠ [] → sumG (grG gl) s ≠ (0,0)) ∨
    ∃ o:Nat,1 ≤ o∧o ≤ R.length∧((o:Int),(0,0)) ∈ (rchT (grG gl) (els gl R)).headD []∧(∀ s:List El,s.Sublist (els gl R) → s ≠ [] → sumG (grG gl) s=(0,0) → o ≤ s.length)∧zeroT gl R=(partI (grG gl) (els gl R) ((o:Int),(0,0)),0):=by
  have e:=elems_B hg (listB_iff.2 ⟨hR,hl⟩)
  have ez:zeroT gl R=shP (shT (grG gl) (els gl R) (0,0) R.length 1):=by
    unfold zeroT
    rw [if_pos hg]
    unfold grG at e ⊢
    rw [e]
    simp only [els,List.length_map]
  have sl:∀ s:List El,s.Sublist (els gl R) → s ≠ [] → 1 ≤ s.length∧s.length ≤ R.length:=fun s hs h0=>by
    have:=hs.length_le
    simp only [els,List.length_map] at this
    exact ⟨by rcases s with _ | _; exact absurd rfl h0; simp,this⟩
  rcases shT_inv (g:=grG gl) (l:=els gl R) (t:=(0,0)) R.length 1 with ⟨h1,h2⟩ | ⟨o,h1,h2,h3,h4,h5⟩
  · refine .inl ⟨by rw [ez,h1]; rfl,fun s hs h0 hz=>?_⟩
    have:=sl s hs h0
    exact h2 s.length (by omega) (by omega) ((rch_gen _ _ _).2 ⟨s,hs,rfl,hz.symm⟩)
  · refine .inr ⟨o,h1,by omega,h3,fun s hs h0 hz=>?_,by rw [ez,h5]; rfl⟩
    have:=sl s hs h0
    rcases Nat.lt_or_ge s.length o with c | c
    · exact absurd ((rch_gen _ _ _).2 ⟨s,hs,rfl,hz.symm⟩) (h4 s.length (by omega) c)
    · exact c
section
variable {gl:List Int} {g:Gr} {e:Int} (h:GrL gl g e)
include h
theorem grG_eq:grG gl=g∧(newGroupT gl).2=true:=by
  have:=h.new
  exact ⟨by rw [grG,this],by rw [this]⟩
end
theorem total_at {pol':Pol} (hp:pol'.prim 27=some total27) {gl p:List Int} {R:List (List Int)} {v1 v2 v3:HV} {H:Heap} (h1:argI H v1 gl) (h2:argR H v2 R) (h3:argI H v3 p) (hg:(newGroupT gl).2=true) (hR:∀ x ∈ R,elB gl x=true) (hl:p.length ≤ 1000) (hok:okP R.length p=true) {x:List Int} (hx:totF gl R (List.replicate gl.length 0) p=x) :
    ∀ k,callN Tp pol' (k+1) 27 [v1,v2,v3] H=some (.tuple [.sl H.length 0 x.length none x.length 1,.bool true],H ++ [bI x]):=fun k=>by
  have hd:mapO decI (gl.map encI)=some gl:=mapO_map decI_enc gl
  have hd2:mapO decR (R.map encR)=some R:=mapO_map decR_enc R
  have hd3:mapO decI (p.map encI)=some p:=mapO_map decI_enc p
  unfold argI at h1 h3
  unfold argR at h2
  have hk:((newGroupT gl).2 && R.all (elB gl) && decide (p.length ≤ 1000) && okP R.length p)=true:=by rw [hg,List.all_eq_true.2 hR,decide_eq_true hl,hok]; rfl
  rw [prim_call (pol:=pol') (g:=27) (F:=total27) hp (rs:=[.imm .arg 1 (gl.map encI),.imm .arg 1 (R.map encR),.imm .arg 1 (p.map encI)]) (by simp only [mapO,h1,h2,h3]) (res:=.tuple [.own 1 (x.map encI),.bool true]) (by simp only [total27,hd,hd2,hd3]; rw [if_pos hk,hx]),recv_lb]
end Go.Proofs.Ytaibmipamkaljaa
end
section
open Go Go.HL
namespace Go.Proofs.Ytaibmipamkaljaa
open Go.Proofs.Try renaming prog → Tp
open Go.HL.HV renaming undef → Ud
theorem sum_one {g:Gr} {x:El} (hx:elOk g x):sumG g [x]=x:=by
  obtain ⟨⟨a1,a2⟩,a3,a4⟩:=hx
  simp only [sumG,List.map_cons,List.map_nil,List.sum_cons,List.sum_nil,Int.add_zero]
  rw [Int.emod_eq_of_lt a1 a2,Int.emod_eq_of_lt a3 a4]
theorem addT_comm (g:Gr) (x y:El):addT g x y=addT g y x:=by
  simp only [addT]; rw [Int.add_comm x.1,Int.add_comm x.2]
theorem mem_sumS {g:Gr}:∀ (l:List El),(∀ x ∈ l,elOk g x) → ∀ w,w ∈ sumS g l ↔ ∃ s:List El,s.Sublist l∧s ≠ []∧w=sumG g s:=by
  refine snocInd (fun _ w=>?_) (fun l x ih hl w=>?_)
  · simp only [sumS,List.foldl_nil,List.not_mem_nil,List.sublist_nil,false_iff]
    rintro ⟨s,rfl,h,_⟩
    exact h rfl
  · have hx:=hl x (by simp)
    have ih:=ih fun z hz=>hl z (by simp [hz])
    rw [sumS_app,mem_sStep]
    constructor
    · rintro (rfl | ⟨u,hu,h⟩)
      · exact ⟨[w],List.sublist_append_right l [w],by simp,(sum_one hx).symm⟩
      · obtain ⟨s,s1,s2,s3⟩:=(ih u).1 hu
        rcases h with rfl | rfl
        · exact ⟨s,s1.trans (List.sublist_append_left _ _),s2,s3⟩
        · exact ⟨s ++ [x],List.Sublist.append s1 (List.Sublist.refl _),by simp,by rw [addT_comm,s3,sumG_add]⟩
    · rintro ⟨s,s1,s2,s3⟩
      obtain ⟨a,b,rfl,ha,hb⟩:=List.sublist_append_iff.1 s1
      have hb':b=[] ∨ b=[x]:=by
        cases hb with
        | cons _ h=>exact .inl (List.sublist_nil.1 h)
        | cons_cons _ h=>rw [List.sublist_nil.1 h]; exact .inr rfl
      rcases hb' with rfl | rfl
      · rw [List.append_nil] at s2 s3
        exact .inr ⟨w,(ih w).2 ⟨a,ha,s2,s3⟩,.inl rfl⟩
      · by_cases h0:a=[]
        · subst h0
          rw [List.nil_append,sum_one hx] at s3
          exact .inl s3
        · exact .inr ⟨sumG g a,(ih _).2 ⟨a,ha,h0,rfl⟩,.inr (by rw [s3,addT_comm,sumG_add])⟩
theorem part_cases {gl:List Int} (hg:(newGroupT gl).2=true) {R:List (List Int)} (hR:∀ x ∈ R,elB gl x=true) (hl:R.length ≤ 60) {x:List Int} (hx:elB gl x=true) :
    (partTT gl R x=([],6)∧∀ s:List El,s.Sublist (els gl R) → sumG (grG gl) s ≠ eE gl x) ∨
    ∃ o:Nat,o ≤ R.length∧((o:Int),eE gl x) ∈ (rchT (grG gl) (els gl R)).headD []∧(∀ s:List El,s.Sublist (els gl R) → sumG (grG gl) s=eE gl x → o ≤ s.length)∧partTT gl R x=(partI (grG gl) (els gl R) ((o:Int),eE gl x),0):=by
  have e:=elems_B hg (listB_iff.2 ⟨hR,hl⟩)
  have e2:=el_E hg hx
  have ez:partTT gl R x=shP (shT (grG gl) (els gl R) (eE gl x) (R.length+1) 0):=by
    unfold partTT
    rw [if_pos hg]
    unfold grG at e e2 ⊢
    rw [e,e2]
    simp only [els,List.length_map,if_true]
  have sl:∀ s:List El,s.Sublist (els gl R) → s.length ≤ R.length:=fun s hs=>by
    have:=hs.length_le
    simp only [els,List.length_map] at this
    exact this
  rcases shT_inv (g:=grG gl) (l:=els gl R) (t:=eE gl x) (R.length+1) 0 with ⟨h1,h2⟩ | ⟨o,h1,h2,h3,h4,h5⟩
  · refine .inl ⟨by rw [ez,h1]; rfl,fun s hs hz=>?_⟩
    have:=sl s hs
    exact h2 s.length (by omega) (by omega) ((rch_gen _ _ _).2 ⟨s,hs,rfl,hz.symm⟩)
  · refine .inr ⟨o,by omega,h3,fun s hs hz=>?_,by rw [ez,h5]; rfl⟩
    have:=sl s hs
    rcases Nat.lt_or_ge s.length o with c | c
    · exact absurd ((rch_gen _ _ _).2 ⟨s,hs,rfl,hz.symm⟩) (h4 s.length (by omega) c)
    · exact c
theorem filt_at (f:Nat → Bool) {n c:Nat} (hc:c < n) (hf:f c=true):((List.range n).filter f)[((List.range c).filter f).length]?=some c:=by
  have e:List.range n=List.range c ++ c :: List.range' (c+1) (n - c - 1):=by
    rw [List.range_eq_range',List.range_eq_range',← List.range'_succ,show n - c - 1+1=n - c by omega]
    have:=List.range'_append (s:=0) (m:=c) (n:=n - c) (step:=1)
    simp only [Nat.one_mul,Nat.zero_add,show c+(n - c)=n by omega] at this
    exact this.symm
  rw [e,List.filter_append,List.getElem?_append_right (Nat.le_refl _),Nat.sub_self,List.filter_cons,if_pos hf]
  rfl
theorem filt_succ (f:Nat → Bool) (c:Nat):((List.range (c+1)).filter f).length=((List.range c).filter f).length+if f c=true then 1 else 0:=by
  rw [List.range_succ,List.filter_append,List.length_append]
  congr 1
  by_cases h:f c=true
  · rw [if_pos h,List.filter_cons,if_pos h]; rfl
  · rw [if_neg h,List.filter_cons,if_neg h]; rfl
theorem recvRs {H:Heap} (R:List (List Int)) (x:Int):recv (.tuple [.own 1 (R.map encO),.int .i64 x]) H=(.tuple [.sl H.length 0 R.length none R.length 1,.int .i64 x],H ++ [bR R]):=by
  have h:recvCell (.own 1 (R.map encO)) H=(.sl H.length 0 R.length none R.length 1,H ++ [bR R]):=by
    simp only [recvCell,encO_any,List.length_map]; rfl
  simp only [recv,recvVals,recvVal,h]; rfl
theorem sums_at {pol':Pol} (hp:pol'.prim 39=some sums39) {l:List Int} {R:List (List Int)} {v1 v2:HV} {H:Heap} (h1:argI H v1 l) (h2:argR H v2 R) (hR:R.length ≤ 1000) :
    ∀ k,callN Tp pol' (k+1) 39 [v1,v2] H=some (.tuple [.sl H.length 0 (sumsT l R).1.length none (sumsT l R).1.length 1,.int .i64 (sumsT l R).2],H ++ [bR (sumsT l R).1]):=fun k=>by
  have hd:mapO decI (l.map encI)=some l:=mapO_map decI_enc l
  have hd2:mapO decR (R.map encR)=some R:=mapO_map decR_enc R
  unfold argI at h1
  unfold argR at h2
  rw [prim_call (pol:=pol') (g:=39) (F:=sums39) hp (rs:=[.imm .arg 1 (l.map encI),.imm .arg 1 (R.map encR)]) (by simp only [mapO,h1,h2]) (res:=.tuple [.own 1 ((sumsT l R).1.map encO),.int .i64 (sumsT l R).2]) (by simp only [sums39,hd,hd2]; rw [if_pos hR]),recvRs]
theorem sumsT_B {gl:List Int} (hg:(newGroupT gl).2=true) {R:List (List Int)} (h:listB gl R=true):sumsT gl R=(sumsL gl (sumS (grG gl) (els gl R)),0):=by
  have e:=elems_B hg h
  unfold sumsT
  rw [if_pos hg]
  unfold grG at e ⊢
  rw [e]
theorem decA_at {pol':Pol} (hp:pol'.prim 41=some decoded41) {l:List Int} {c:Int} {v:HV} {H:Heap} (h1:argI H v l) (hk:(newGroupT l).2=true∧0 ≤ c∧c < 1000) :
    ∀ k,callN Tp pol' (k+1) 41 [v,.int .i64 c] H=some (.sl H.length 0 (decT l c).length none (decT l c).length 1,H ++ [bI (decT l c)]):=fun k=>by
  have hd:mapO decI (l.map encI)=some l:=mapO_map decI_enc l
  have hN:toArg H 6 (.int .i64 c)=some (.int .i64 c):=rfl
  unfold argI at h1
  rw [prim_call (pol:=pol') (g:=41) (F:=decoded41) hp (rs:=[.imm .arg 1 (l.map encI),.int .i64 c]) (by simp only [mapO,h1,hN]) (res:=.own 1 ((decT l c).map encI)) (by simp only [decoded41,lnF,hd]; rw [if_pos hk]),recv_ints]
theorem sizeA_at {pol':Pol} (hp:pol'.prim 40=some size40) {l:List Int} {v:HV} {H:Heap} (h1:argI H v l) (hg:(newGroupT l).2=true):∀ k,callN Tp pol' (k+1) 40 [v] H=some (.int .i64 (sizeT l),H):=fun k=>by
  have hd:mapO decI (l.map encI)=some l:=mapO_map decI_enc l
  unfold argI at h1
  rw [prim_call (pol:=pol') (g:=40) (F:=size40) hp (rs:=[.imm .arg 1 (l.map encI)]) (by simp only [mapO,h1]) (res:=.int .i64 (sizeT l)) (by simp only [size40,liF,hd]; rw [if_pos hg])]
  rfl
end Go.Proofs.Ytaibmipamkaljaa
end
section
open Go Go.HL
namespace Go.Proofs.Ytaibmipamkaljaa
open Go.Proofs.Try renaming prog → Tp
open Go.HL.HV renaming undef → Ud
def prL10:FuncId → Option (List HV → Option HV):=fun g=>if g == 16 then some awakeF else if g == 23 then some group23 else if g == 24 then some elements24 else if g == 39 then some sums39 else if g == 26 then some zero26 else if g == 40 then some size40 else if g == 41 then some decoded41 else if g == 34 then some part34 else if g == 27 then some total27 else if g == 17 then some ints17 else none
def polL10:Pol:={ pol with prim:=prL10 }
theorem soundL10 (n:Nat):CallSound Tp (callN Tp polL10 n):=sound_prim prL10 (fun g f h=>by
  unfold prL10 at h
  split at h
  · rename_i hg; cases h; rw [eq_of_beq hg]; exact awake_prim
  split at h
  · rename_i hg; cases h; rw [eq_of_beq hg]; exact group_ok
  split at h
  · rename_i hg; cases h; rw [eq_of_beq hg]; exact elements24_ok
  split at h
  · rename_i hg; cases h; rw [eq_of_beq hg]; exact sums_ok
  split at h
  · rename_i hg; cases h; rw [eq_of_beq hg]; exact zero_ok
  split at h
  · rename_i hg; cases h; rw [eq_of_beq hg]; exact size_ok
  split at h
  · rename_i hg; cases h; rw [eq_of_beq hg]; exact decoded_ok
  split at h
  · rename_i hg; cases h; rw [eq_of_beq hg]; exact part34_ok
  split at h
  · rename_i hg; cases h; rw [eq_of_beq hg]; exact total_ok
  split at h
  · rename_i hg; cases h; rw [eq_of_beq hg]; exact ints_ok
  · cases h) n
end Go.Proofs.Ytaibmipamkaljaa
end
section
open Go Go.HL
namespace Go.Proofs.Ytaibmipamkaljaa
set_option maxRecDepth 100000
open Go.Proofs.Try renaming prog → Tp
open Go.HL.HV renaming undef → Ud
noncomputable def B10:Code:=Try.f10.body.getD .skip
abbrev env10 (v0 v1 v4 v5 v6 v7 v8 v10 v11 v12 v13 v14 v15 v16 v17 v18:HV):Env:=[(0,v0),(1,v1),(4,v4),(5,v5),(6,v6),(7,v7),(8,v8),(10,v10),(11,v11),(12,v12),(13,v13),(14,v14),(15,v15),(16,v16),(17,v17),(18,v18)]
theorem sd_a_0 (l0 rw:List HV) (p0:Nat) (h0:List HV) (p1:Nat) (h1:List HV) (p2:Nat) (h2:List HV) (p3:Nat) (h3:List HV) (p4:Nat) (h4:List HV) (p5:Nat) (h5:List HV) (p6:Nat) (h6:List HV) (e1 e2 e3 sz:Int) :RT polL10 10 (sub [0] B10) [(0,.imm .arg 1 l0),(1,.imm .arg 1 rw)] [] .normal (env10 (.imm .arg 1 l0) (.imm .arg 1 rw) (.bool false) Ud Ud Ud Ud Ud Ud Ud Ud Ud Ud Ud Ud Ud) [] :=
  RunsTo.hin 0 60 [] fun kf hk=>⟨_,by kernel_rfl,.nil⟩
theorem sd_b_0 (l0 rw:List HV) (p0:Nat) (h0:List HV) (p1:Nat) (h1:List HV) (p2:Nat) (h2:List HV) (p3:Nat) (h3:List HV) (p4:Nat) (h4:List HV) (p5:Nat) (h5:List HV) (p6:Nat) (h6:List HV) (e1 e2 e3 sz:Int)  {y5 y6 y7 y8 y10 y11 y12 y13 y14 y15 y16 y17 y18:HV}(g0:∀ kf,callN Tp polL10 (kf+1) 23 [.imm .arg 1 l0] []=some (.sl 0 0 p0 none p0 1,[.arr 1 h0 true 0])):RT polL10 10 (sub [1,0] B10) (env10 (.imm .arg 1 l0) (.imm .arg 1 rw) (.bool false) y5 y6 y7 y8 y10 y11 y12 y13 y14 y15 y16 y17 y18) [] .normal (env10 (.imm .arg 1 l0) (.imm .arg 1 rw) (.bool false) (.sl 0 0 p0 none p0 1) y6 y7 y8 y10 y11 y12 y13 y14 y15 y16 y17 y18) [.arr 1 h0 true 0] :=
  RunsTo.hin 0 60 [⟨1,1,.sl 0 0 p0 none p0 1,[.arr 1 h0 true 0]⟩] fun kf hk=>⟨_,by kernel_rfl,(oC (g0 kf) .nil)⟩
theorem sd_c_0 (l0 rw:List HV) (p0:Nat) (h0:List HV) (p1:Nat) (h1:List HV) (p2:Nat) (h2:List HV) (p3:Nat) (h3:List HV) (p4:Nat) (h4:List HV) (p5:Nat) (h5:List HV) (p6:Nat) (h6:List HV) (e1 e2 e3 sz:Int)  {y6 y7 y8 y10 y11 y12 y13 y14 y15 y16 y17 y18:HV}(g0:∀ kf,callN Tp polL10 (kf+1) 24 [.sl 0 0 p0 none p0 1,.imm .arg 1 rw,.i 12] [.arr 1 h0 true 0]=some (.sl 1 0 p1 none p1 1,[.arr 1 h0 true 0,.arr 1 h1 true 0])):RT polL10 10 (sub [1,1,0] B10) (env10 (.imm .arg 1 l0) (.imm .arg 1 rw) (.bool false) (.sl 0 0 p0 none p0 1) y6 y7 y8 y10 y11 y12 y13 y14 y15 y16 y17 y18) [.arr 1 h0 true 0] .normal (env10 (.imm .arg 1 l0) (.imm .arg 1 rw) (.bool false) (.sl 0 0 p0 none p0 1) (.sl 1 0 p1 none p1 1) y7 y8 y10 y11 y12 y13 y14 y15 y16 y17 y18) [.arr 1 h0 true 0,.arr 1 h1 true 0] :=
  RunsTo.hin 0 60 [⟨2,2,.sl 1 0 p1 none p1 1,[.arr 1 h0 true 0,.arr 1 h1 true 0]⟩] fun kf hk=>⟨_,by kernel_rfl,(oC (g0 kf) .nil)⟩
theorem sd_d_0 (l0 rw:List HV) (p0:Nat) (h0:List HV) (p1:Nat) (h1:List HV) (p2:Nat) (h2:List HV) (p3:Nat) (h3:List HV) (p4:Nat) (h4:List HV) (p5:Nat) (h5:List HV) (p6:Nat) (h6:List HV) (e1 e2 e3 sz:Int)  {y7 y8 y10 y11 y12 y13 y14 y15 y16 y17 y18:HV}(g0:∀ kf,callN Tp polL10 (kf+1) 39 [.sl 0 0 p0 none p0 1,.sl 1 0 p1 none p1 1] [.arr 1 h0 true 0,.arr 1 h1 true 0]=some (.tuple [.sl 2 0 p2 none p2 1,.i e1],[.arr 1 h0 true 0,.arr 1 h1 true 0,.arr 1 h2 true 0])):RT polL10 10 (sub [1,1,1,0] B10) (env10 (.imm .arg 1 l0) (.imm .arg 1 rw) (.bool false) (.sl 0 0 p0 none p0 1) (.sl 1 0 p1 none p1 1) y7 y8 y10 y11 y12 y13 y14 y15 y16 y17 y18) [.arr 1 h0 true 0,.arr 1 h1 true 0] .normal (env10 (.imm .arg 1 l0) (.imm .arg 1 rw) (.bool false) (.sl 0 0 p0 none p0 1) (.sl 1 0 p1 none p1 1) (.sl 2 0 p2 none p2 1) (.i e1) y10 y11 y12 y13 y14 y15 y16 y17 y18) [.arr 1 h0 true 0,.arr 1 h1 true 0,.arr 1 h2 true 0] :=
  RunsTo.hin 0 60 [⟨3,2,.tuple [.sl 2 0 p2 none p2 1,.i e1],[.arr 1 h0 true 0,.arr 1 h1 true 0,.arr 1 h2 true 0]⟩] fun kf hk=>⟨_,by kernel_rfl,(oC (g0 kf) .nil)⟩
theorem sd_e_0 (l0 rw:List HV) (p0:Nat) (h0:List HV) (p1:Nat) (h1:List HV) (p2:Nat) (h2:List HV) (p3:Nat) (h3:List HV) (p4:Nat) (h4:List HV) (p5:Nat) (h5:List HV) (p6:Nat) (h6:List HV) (e1 e2 e3 sz:Int)  {y10 y11 y12 y13 y14 y15 y16 y17 y18:HV}(g0:∀ kf,callN Tp polL10 (kf+1) 26 [.sl 0 0 p0 none p0 1,.sl 1 0 p1 none p1 1] [.arr 1 h0 true 0,.arr 1 h1 true 0,.arr 1 h2 true 0]=some (.tuple [.sl 3 0 p3 none p3 1,.i e2],[.arr 1 h0 true 0,.arr 1 h1 true 0,.arr 1 h2 true 0,.arr 1 h3 true 0])):RT polL10 10 (sub [1,1,1,1,0] B10) (env10 (.imm .arg 1 l0) (.imm .arg 1 rw) (.bool false) (.sl 0 0 p0 none p0 1) (.sl 1 0 p1 none p1 1) (.sl 2 0 p2 none p2 1) (.i e1) y10 y11 y12 y13 y14 y15 y16 y17 y18) [.arr 1 h0 true 0,.arr 1 h1 true 0,.arr 1 h2 true 0] .normal (env10 (.imm .arg 1 l0) (.imm .arg 1 rw) (.bool false) (.sl 0 0 p0 none p0 1) (.sl 1 0 p1 none p1 1) (.sl 2 0 p2 none p2 1) (.i e1) (.i e2) y11 y12 y13 y14 y15 y16 y17 y18) [.arr 1 h0 true 0,.arr 1 h1 true 0,.arr 1 h2 true 0,.arr 1 h3 true 0] :=
  RunsTo.hin 0 60 [⟨4,2,.tuple [.sl 3 0 p3 none p3 1,.i e2],[.arr 1 h0 true 0,.arr 1 h1 true 0,.arr 1 h2 true 0,.arr 1 h3 true 0]⟩] fun kf hk=>⟨_,by kernel_rfl,(oC (g0 kf) .nil)⟩
theorem sd_f_0 (l0 rw:List HV) (p0:Nat) (h0:List HV) (p1:Nat) (h1:List HV) (p2:Nat) (h2:List HV) (p3:Nat) (h3:List HV) (p4:Nat) (h4:List HV) (p5:Nat) (h5:List HV) (p6:Nat) (h6:List HV) (e1 e2 e3 sz:Int)  {y11 y12 y13 y14 y15 y16 y17 y18:HV}(g0:e1=0) (g1:e2=0):RT polL10 10 (sub [1,1,1,1,1,0] B10) (env10 (.imm .arg 1 l0) (.imm .arg 1 rw) (.bool false) (.sl 0 0 p0 none p0 1) (.sl 1 0 p1 none p1 1) (.sl 2 0 p2 none p2 1) (.i e1) (.i e2) y11 y12 y13 y14 y15 y16 y17 y18) [.arr 1 h0 true 0,.arr 1 h1 true 0,.arr 1 h2 true 0,.arr 1 h3 true 0] .normal (env10 (.imm .arg 1 l0) (.imm .arg 1 rw) (.bool false) (.sl 0 0 p0 none p0 1) (.sl 1 0 p1 none p1 1) (.sl 2 0 p2 none p2 1) (.i e1) (.i e2) y11 y12 y13 y14 y15 y16 y17 y18) [.arr 1 h0 true 0,.arr 1 h1 true 0,.arr 1 h2 true 0,.arr 1 h3 true 0] :=
  RunsTo.hin 0 60 [⟨5,1,.bool false,[.arr 1 h0 true 0,.arr 1 h1 true 0,.arr 1 h2 true 0,.arr 1 h3 true 0]⟩,⟨5,4,.bool false,[.arr 1 h0 true 0,.arr 1 h1 true 0,.arr 1 h2 true 0,.arr 1 h3 true 0]⟩] fun kf hk=>⟨_,by kernel_rfl,(oB [.arr 1 h0 true 0,.arr 1 h1 true 0,.arr 1 h2 true 0,.arr 1 h3 true 0] (congrArg not (decide_eq_true g0)) (oB [.arr 1 h0 true 0,.arr 1 h1 true 0,.arr 1 h2 true 0,.arr 1 h3 true 0] (congrArg not (decide_eq_true g1)) .nil))⟩
theorem sd_f_1 (l0 rw:List HV) (p0:Nat) (h0:List HV) (p1:Nat) (h1:List HV) (p2:Nat) (h2:List HV) (p3:Nat) (h3:List HV) (p4:Nat) (h4:List HV) (p5:Nat) (h5:List HV) (p6:Nat) (h6:List HV) (e1 e2 e3 sz:Int)  {y11 y12 y13 y14 y15 y16 y17 y18:HV}(g0:e1=0) (g1:¬ (e2=0)) (g2:e2=6):RT polL10 10 (sub [1,1,1,1,1,0] B10) (env10 (.imm .arg 1 l0) (.imm .arg 1 rw) (.bool false) (.sl 0 0 p0 none p0 1) (.sl 1 0 p1 none p1 1) (.sl 2 0 p2 none p2 1) (.i e1) (.i e2) y11 y12 y13 y14 y15 y16 y17 y18) [.arr 1 h0 true 0,.arr 1 h1 true 0,.arr 1 h2 true 0,.arr 1 h3 true 0] .normal (env10 (.imm .arg 1 l0) (.imm .arg 1 rw) (.bool false) (.sl 0 0 p0 none p0 1) (.sl 1 0 p1 none p1 1) (.sl 2 0 p2 none p2 1) (.i e1) (.i e2) y11 y12 y13 y14 y15 y16 y17 y18) [.arr 1 h0 true 0,.arr 1 h1 true 0,.arr 1 h2 true 0,.arr 1 h3 true 0] :=
  RunsTo.hin 0 60 [⟨5,1,.bool false,[.arr 1 h0 true 0,.arr 1 h1 true 0,.arr 1 h2 true 0,.arr 1 h3 true 0]⟩,⟨5,4,.bool true,[.arr 1 h0 true 0,.arr 1 h1 true 0,.arr 1 h2 true 0,.arr 1 h3 true 0]⟩,⟨5,7,.bool false,[.arr 1 h0 true 0,.arr 1 h1 true 0,.arr 1 h2 true 0,.arr 1 h3 true 0]⟩] fun kf hk=>⟨_,by kernel_rfl,(oB [.arr 1 h0 true 0,.arr 1 h1 true 0,.arr 1 h2 true 0,.arr 1 h3 true 0] (congrArg not (decide_eq_true g0)) (oB [.arr 1 h0 true 0,.arr 1 h1 true 0,.arr 1 h2 true 0,.arr 1 h3 true 0] (congrArg not (decide_eq_false g1)) (oB [.arr 1 h0 true 0,.arr 1 h1 true 0,.arr 1 h2 true 0,.arr 1 h3 true 0] (congrArg not (decide_eq_true g2)) .nil)))⟩
theorem sd_g_0 (l0 rw:List HV) (p0:Nat) (h0:List HV) (p1:Nat) (h1:List HV) (p2:Nat) (h2:List HV) (p3:Nat) (h3:List HV) (p4:Nat) (h4:List HV) (p5:Nat) (h5:List HV) (p6:Nat) (h6:List HV) (e1 e2 e3 sz:Int)  {y8 y11 y12 y13 y14 y15 y16 y17 y18:HV}:RT polL10 10 (sub [1,1,1,1,1,1,0] B10) (env10 (.imm .arg 1 l0) (.imm .arg 1 rw) (.bool false) (.sl 0 0 p0 none p0 1) (.sl 1 0 p1 none p1 1) (.sl 2 0 p2 none p2 1) y8 (.i e2) y11 y12 y13 y14 y15 y16 y17 y18) [.arr 1 h0 true 0,.arr 1 h1 true 0,.arr 1 h2 true 0,.arr 1 h3 true 0] .normal (env10 (.imm .arg 1 l0) (.imm .arg 1 rw) (.bool false) (.sl 0 0 p0 none p0 1) (.sl 1 0 p1 none p1 1) (.sl 2 0 p2 none p2 1) y8 (.i e2) (.i 0) y12 y13 y14 y15 y16 y17 y18) [.arr 1 h0 true 0,.arr 1 h1 true 0,.arr 1 h2 true 0,.arr 1 h3 true 0] :=
  RunsTo.hin 0 60 [] fun kf hk=>⟨_,by kernel_rfl,.nil⟩
theorem sd_h_0 (l0 rw:List HV) (p0:Nat) (h0:List HV) (p1:Nat) (h1:List HV) (p2:Nat) (h2:List HV) (p3:Nat) (h3:List HV) (p4:Nat) (h4:List HV) (p5:Nat) (h5:List HV) (p6:Nat) (h6:List HV) (e1 e2 e3 sz:Int) (k:Nat) {y8 y12 y13 y14 y15 y16 y17 y18:HV}:RT polL10 10 (sub [1,1,1,1,1,1,1,0,0] B10) (env10 (.imm .arg 1 l0) (.imm .arg 1 rw) (.bool false) (.sl 0 0 p0 none p0 1) (.sl 1 0 p1 none p1 1) (.sl 2 0 p2 none p2 1) y8 (.i e2) (.i (k:Int)) y12 y13 y14 y15 y16 y17 y18) [.arr 1 h0 true 0,.arr 1 h1 true 0,.arr 1 h2 true 0,.arr 1 h3 true 0] .normal (env10 (.imm .arg 1 l0) (.imm .arg 1 rw) (.bool false) (.sl 0 0 p0 none p0 1) (.sl 1 0 p1 none p1 1) (.sl 2 0 p2 none p2 1) y8 (.i e2) (.i (k:Int)) (.i 0) y13 y14 y15 y16 y17 y18) [.arr 1 h0 true 0,.arr 1 h1 true 0,.arr 1 h2 true 0,.arr 1 h3 true 0] :=
  RunsTo.hin 0 60 [] fun kf hk=>⟨_,by kernel_rfl,.nil⟩
theorem sd_i_1 (l0 rw:List HV) (p0:Nat) (h0:List HV) (p1:Nat) (h1:List HV) (p2:Nat) (h2:List HV) (p3:Nat) (h3:List HV) (p4:Nat) (h4:List HV) (p5:Nat) (h5:List HV) (p6:Nat) (h6:List HV) (e1 e2 e3 sz:Int) (k c:Nat) {y8 y13 y14 y15 y16 y17 y18:HV} {l1:List HV} (g0:∀ kf,callN Tp polL10 (kf+1) 40 [.sl 0 0 p0 none p0 1] [.arr 1 h0 true 0,.arr 1 h1 true 0,.arr 1 h2 true 0,.arr 1 h3 true 0]=some (.i sz,[.arr 1 h0 true 0,.arr 1 h1 true 0,.arr 1 h2 true 0,.arr 1 h3 true 0])) (g1:(c:Int) < sz) (g2:∀ kf,callN Tp polL10 (kf+1) 41 [.sl 0 0 p0 none p0 1,.i (c:Int)] [.arr 1 h0 true 0,.arr 1 h1 true 0,.arr 1 h2 true 0,.arr 1 h3 true 0]=some (.sl 4 0 p4 none p4 1,[.arr 1 h0 true 0,.arr 1 h1 true 0,.arr 1 h2 true 0,.arr 1 h3 true 0,.arr 1 h4 true 0])) (g3:∀ kf,callN Tp polL10 (kf+1) 34 [.sl 0 0 p0 none p0 1,.sl 1 0 p1 none p1 1,.sl 4 0 p4 none p4 1] [.arr 1 h0 true 0,.arr 1 h1 true 0,.arr 1 h2 true 0,.arr 1 h3 true 0,.arr 1 h4 true 0]=some (.tuple [.sl 5 0 p5 none p5 1,.i e3],[.arr 1 h0 true 0,.arr 1 h1 true 0,.arr 1 h2 true 0,.arr 1 h3 true 0,.arr 1 h4 true 0,.arr 1 h5 true 0])) (g4:e3=0) (g5:∀ kf,callN Tp polL10 (kf+1) 27 [.sl 0 0 p0 none p0 1,.sl 1 0 p1 none p1 1,.sl 5 0 p5 none p5 1] [.arr 1 h0 true 0,.arr 1 h1 true 0,.arr 1 h2 true 0,.arr 1 h3 true 0,.arr 1 h4 true 0,.arr 1 h5 true 0]=some (.tuple [.sl 6 0 p6 none p6 1,.bool true],[.arr 1 h0 true 0,.arr 1 h1 true 0,.arr 1 h2 true 0,.arr 1 h3 true 0,.arr 1 h4 true 0,.arr 1 h5 true 0,.arr 1 h6 true 0])) (g6:∀ kf,callN Tp polL10 (kf+1) 17 [.sl 6 0 p6 none p6 1,.sl 4 0 p4 none p4 1] [.arr 1 h0 true 0,.arr 1 h1 true 0,.arr 1 h2 true 0,.arr 1 h3 true 0,.arr 1 h4 true 0,.arr 1 h5 true 0,.arr 1 h6 true 0]=some (.bool true,[.arr 1 h0 true 0,.arr 1 h1 true 0,.arr 1 h2 true 0,.arr 1 h3 true 0,.arr 1 h4 true 0,.arr 1 h5 true 0,.arr 1 h6 true 0])) (g7:e3=0) (g8:0 < (p5:Int)) (g9:¬ ((p2:Int) ≤ (k:Int))) (g10:idxV Tp 35 (.sl 2 0 p2 none p2 1) (.i (k:Int))=some (.ptr 2 k 0 p2)) (g11:loadV Tp [.arr 1 h0 true 0,.arr 1 h1 true 0,.arr 1 h2 true 0,.arr 1 h3 true 0,.arr 1 h4 true 0,.arr 1 h5 true 0,.arr 1 h6 true 0] 22 (.ptr 2 k 0 p2)=some (.imm .own 1 l1)) (g12:∀ kf,callN Tp polL10 (kf+1) 17 [.imm .own 1 l1,.sl 4 0 p4 none p4 1] [.arr 1 h0 true 0,.arr 1 h1 true 0,.arr 1 h2 true 0,.arr 1 h3 true 0,.arr 1 h4 true 0,.arr 1 h5 true 0,.arr 1 h6 true 0]=some (.bool true,[.arr 1 h0 true 0,.arr 1 h1 true 0,.arr 1 h2 true 0,.arr 1 h3 true 0,.arr 1 h4 true 0,.arr 1 h5 true 0,.arr 1 h6 true 0])):RT polL10 10 (sub [1,1,1,1,1,1,1,0,1,0,0] B10) (env10 (.imm .arg 1 l0) (.imm .arg 1 rw) (.bool false) (.sl 0 0 p0 none p0 1) (.sl 1 0 p1 none p1 1) (.sl 2 0 p2 none p2 1) y8 (.i e2) (.i (k:Int)) (.i (c:Int)) y13 y14 y15 y16 y17 y18) [.arr 1 h0 true 0,.arr 1 h1 true 0,.arr 1 h2 true 0,.arr 1 h3 true 0] .normal (env10 (.imm .arg 1 l0) (.imm .arg 1 rw) (.bool false) (.sl 0 0 p0 none p0 1) (.sl 1 0 p1 none p1 1) (.sl 2 0 p2 none p2 1) y8 (.i e2) (.i (IntKind.i64.wrap ((k:Int)+1))) (.i (IntKind.i64.wrap ((c:Int)+1))) (.sl 4 0 p4 none p4 1) (.sl 5 0 p5 none p5 1) (.i e3) (.sl 6 0 p6 none p6 1) (.bool true) (.bool true)) [.arr 1 h0 true 0,.arr 1 h1 true 0,.arr 1 h2 true 0,.arr 1 h3 true 0,.arr 1 h4 true 0,.arr 1 h5 true 0,.arr 1 h6 true 0] :=
  RunsTo.hin 0 60 [⟨9,2,.i sz,[.arr 1 h0 true 0,.arr 1 h1 true 0,.arr 1 h2 true 0,.arr 1 h3 true 0]⟩,⟨9,3,.bool true,[.arr 1 h0 true 0,.arr 1 h1 true 0,.arr 1 h2 true 0,.arr 1 h3 true 0]⟩,⟨11,2,.sl 4 0 p4 none p4 1,[.arr 1 h0 true 0,.arr 1 h1 true 0,.arr 1 h2 true 0,.arr 1 h3 true 0,.arr 1 h4 true 0]⟩,⟨12,3,.tuple [.sl 5 0 p5 none p5 1,.i e3],[.arr 1 h0 true 0,.arr 1 h1 true 0,.arr 1 h2 true 0,.arr 1 h3 true 0,.arr 1 h4 true 0,.arr 1 h5 true 0]⟩,⟨13,1,.bool true,[.arr 1 h0 true 0,.arr 1 h1 true 0,.arr 1 h2 true 0,.arr 1 h3 true 0,.arr 1 h4 true 0,.arr 1 h5 true 0]⟩,⟨14,3,.tuple [.sl 6 0 p6 none p6 1,.bool true],[.arr 1 h0 true 0,.arr 1 h1 true 0,.arr 1 h2 true 0,.arr 1 h3 true 0,.arr 1 h4 true 0,.arr 1 h5 true 0,.arr 1 h6 true 0]⟩,⟨15,5,.bool true,[.arr 1 h0 true 0,.arr 1 h1 true 0,.arr 1 h2 true 0,.arr 1 h3 true 0,.arr 1 h4 true 0,.arr 1 h5 true 0,.arr 1 h6 true 0]⟩,⟨19,1,.bool true,[.arr 1 h0 true 0,.arr 1 h1 true 0,.arr 1 h2 true 0,.arr 1 h3 true 0,.arr 1 h4 true 0,.arr 1 h5 true 0,.arr 1 h6 true 0]⟩,⟨19,5,.bool true,[.arr 1 h0 true 0,.arr 1 h1 true 0,.arr 1 h2 true 0,.arr 1 h3 true 0,.arr 1 h4 true 0,.arr 1 h5 true 0,.arr 1 h6 true 0]⟩,⟨21,3,.bool false,[.arr 1 h0 true 0,.arr 1 h1 true 0,.arr 1 h2 true 0,.arr 1 h3 true 0,.arr 1 h4 true 0,.arr 1 h5 true 0,.arr 1 h6 true 0]⟩,⟨21,7,.ptr 2 k 0 p2,[.arr 1 h0 true 0,.arr 1 h1 true 0,.arr 1 h2 true 0,.arr 1 h3 true 0,.arr 1 h4 true 0,.arr 1 h5 true 0,.arr 1 h6 true 0]⟩,⟨21,8,.imm .own 1 l1,[.arr 1 h0 true 0,.arr 1 h1 true 0,.arr 1 h2 true 0,.arr 1 h3 true 0,.arr 1 h4 true 0,.arr 1 h5 true 0,.arr 1 h6 true 0]⟩,⟨21,10,.bool true,[.arr 1 h0 true 0,.arr 1 h1 true 0,.arr 1 h2 true 0,.arr 1 h3 true 0,.arr 1 h4 true 0,.arr 1 h5 true 0,.arr 1 h6 true 0]⟩] fun kf hk=>⟨_,by kernel_rfl,(oC (g0 kf) (oB [.arr 1 h0 true 0,.arr 1 h1 true 0,.arr 1 h2 true 0,.arr 1 h3 true 0] (decide_eq_true g1) (oC (g2 kf) (oC (g3 kf) (oB [.arr 1 h0 true 0,.arr 1 h1 true 0,.arr 1 h2 true 0,.arr 1 h3 true 0,.arr 1 h4 true 0,.arr 1 h5 true 0] (decide_eq_true g4) (oC (g5 kf) (oC (g6 kf) (oB [.arr 1 h0 true 0,.arr 1 h1 true 0,.arr 1 h2 true 0,.arr 1 h3 true 0,.arr 1 h4 true 0,.arr 1 h5 true 0,.arr 1 h6 true 0] (decide_eq_true g7) (oB [.arr 1 h0 true 0,.arr 1 h1 true 0,.arr 1 h2 true 0,.arr 1 h3 true 0,.arr 1 h4 true 0,.arr 1 h5 true 0,.arr 1 h6 true 0] (decide_eq_true g8) (oB [.arr 1 h0 true 0,.arr 1 h1 true 0,.arr 1 h2 true 0,.arr 1 h3 true 0,.arr 1 h4 true 0,.arr 1 h5 true 0,.arr 1 h6 true 0] (decide_eq_false g9) (oP [.arr 1 h0 true 0,.arr 1 h1 true 0,.arr 1 h2 true 0,.arr 1 h3 true 0,.arr 1 h4 true 0,.arr 1 h5 true 0,.arr 1 h6 true 0] g10 (oP [.arr 1 h0 true 0,.arr 1 h1 true 0,.arr 1 h2 true 0,.arr 1 h3 true 0,.arr 1 h4 true 0,.arr 1 h5 true 0,.arr 1 h6 true 0] g11 (oC (g12 kf) .nil)))))))))))))⟩
theorem sd_i_3 (l0 rw:List HV) (p0:Nat) (h0:List HV) (p1:Nat) (h1:List HV) (p2:Nat) (h2:List HV) (p3:Nat) (h3:List HV) (p4:Nat) (h4:List HV) (p5:Nat) (h5:List HV) (p6:Nat) (h6:List HV) (e1 e2 e3 sz:Int) (k c:Nat) {y8 y13 y14 y15 y16 y17 y18:HV} {l1:List HV} (g0:∀ kf,callN Tp polL10 (kf+1) 40 [.sl 0 0 p0 none p0 1] [.arr 1 h0 true 0,.arr 1 h1 true 0,.arr 1 h2 true 0,.arr 1 h3 true 0]=some (.i sz,[.arr 1 h0 true 0,.arr 1 h1 true 0,.arr 1 h2 true 0,.arr 1 h3 true 0])) (g1:(c:Int) < sz) (g2:∀ kf,callN Tp polL10 (kf+1) 41 [.sl 0 0 p0 none p0 1,.i (c:Int)] [.arr 1 h0 true 0,.arr 1 h1 true 0,.arr 1 h2 true 0,.arr 1 h3 true 0]=some (.sl 4 0 p4 none p4 1,[.arr 1 h0 true 0,.arr 1 h1 true 0,.arr 1 h2 true 0,.arr 1 h3 true 0,.arr 1 h4 true 0])) (g3:∀ kf,callN Tp polL10 (kf+1) 34 [.sl 0 0 p0 none p0 1,.sl 1 0 p1 none p1 1,.sl 4 0 p4 none p4 1] [.arr 1 h0 true 0,.arr 1 h1 true 0,.arr 1 h2 true 0,.arr 1 h3 true 0,.arr 1 h4 true 0]=some (.tuple [.sl 5 0 p5 none p5 1,.i e3],[.arr 1 h0 true 0,.arr 1 h1 true 0,.arr 1 h2 true 0,.arr 1 h3 true 0,.arr 1 h4 true 0,.arr 1 h5 true 0])) (g4:e3=0) (g5:∀ kf,callN Tp polL10 (kf+1) 27 [.sl 0 0 p0 none p0 1,.sl 1 0 p1 none p1 1,.sl 5 0 p5 none p5 1] [.arr 1 h0 true 0,.arr 1 h1 true 0,.arr 1 h2 true 0,.arr 1 h3 true 0,.arr 1 h4 true 0,.arr 1 h5 true 0]=some (.tuple [.sl 6 0 p6 none p6 1,.bool true],[.arr 1 h0 true 0,.arr 1 h1 true 0,.arr 1 h2 true 0,.arr 1 h3 true 0,.arr 1 h4 true 0,.arr 1 h5 true 0,.arr 1 h6 true 0])) (g6:∀ kf,callN Tp polL10 (kf+1) 17 [.sl 6 0 p6 none p6 1,.sl 4 0 p4 none p4 1] [.arr 1 h0 true 0,.arr 1 h1 true 0,.arr 1 h2 true 0,.arr 1 h3 true 0,.arr 1 h4 true 0,.arr 1 h5 true 0,.arr 1 h6 true 0]=some (.bool true,[.arr 1 h0 true 0,.arr 1 h1 true 0,.arr 1 h2 true 0,.arr 1 h3 true 0,.arr 1 h4 true 0,.arr 1 h5 true 0,.arr 1 h6 true 0])) (g7:e3=0) (g8:¬ (0 < (p5:Int))) (g9:(c:Int)=0) (g10:e2=0) (g11:¬ ((p2:Int) ≤ (k:Int))) (g12:idxV Tp 35 (.sl 2 0 p2 none p2 1) (.i (k:Int))=some (.ptr 2 k 0 p2)) (g13:loadV Tp [.arr 1 h0 true 0,.arr 1 h1 true 0,.arr 1 h2 true 0,.arr 1 h3 true 0,.arr 1 h4 true 0,.arr 1 h5 true 0,.arr 1 h6 true 0] 22 (.ptr 2 k 0 p2)=some (.imm .own 1 l1)) (g14:∀ kf,callN Tp polL10 (kf+1) 17 [.imm .own 1 l1,.sl 4 0 p4 none p4 1] [.arr 1 h0 true 0,.arr 1 h1 true 0,.arr 1 h2 true 0,.arr 1 h3 true 0,.arr 1 h4 true 0,.arr 1 h5 true 0,.arr 1 h6 true 0]=some (.bool true,[.arr 1 h0 true 0,.arr 1 h1 true 0,.arr 1 h2 true 0,.arr 1 h3 true 0,.arr 1 h4 true 0,.arr 1 h5 true 0,.arr 1 h6 true 0])):RT polL10 10 (sub [1,1,1,1,1,1,1,0,1,0,0] B10) (env10 (.imm .arg 1 l0) (.imm .arg 1 rw) (.bool false) (.sl 0 0 p0 none p0 1) (.sl 1 0 p1 none p1 1) (.sl 2 0 p2 none p2 1) y8 (.i e2) (.i (k:Int)) (.i (c:Int)) y13 y14 y15 y16 y17 y18) [.arr 1 h0 true 0,.arr 1 h1 true 0,.arr 1 h2 true 0,.arr 1 h3 true 0] .normal (env10 (.imm .arg 1 l0) (.imm .arg 1 rw) (.bool false) (.sl 0 0 p0 none p0 1) (.sl 1 0 p1 none p1 1) (.sl 2 0 p2 none p2 1) y8 (.i e2) (.i (IntKind.i64.wrap ((k:Int)+1))) (.i (IntKind.i64.wrap ((c:Int)+1))) (.sl 4 0 p4 none p4 1) (.sl 5 0 p5 none p5 1) (.i e3) (.sl 6 0 p6 none p6 1) (.bool true) (.bool true)) [.arr 1 h0 true 0,.arr 1 h1 true 0,.arr 1 h2 true 0,.arr 1 h3 true 0,.arr 1 h4 true 0,.arr 1 h5 true 0,.arr 1 h6 true 0] :=
  RunsTo.hin 0 60 [⟨9,2,.i sz,[.arr 1 h0 true 0,.arr 1 h1 true 0,.arr 1 h2 true 0,.arr 1 h3 true 0]⟩,⟨9,3,.bool true,[.arr 1 h0 true 0,.arr 1 h1 true 0,.arr 1 h2 true 0,.arr 1 h3 true 0]⟩,⟨11,2,.sl 4 0 p4 none p4 1,[.arr 1 h0 true 0,.arr 1 h1 true 0,.arr 1 h2 true 0,.arr 1 h3 true 0,.arr 1 h4 true 0]⟩,⟨12,3,.tuple [.sl 5 0 p5 none p5 1,.i e3],[.arr 1 h0 true 0,.arr 1 h1 true 0,.arr 1 h2 true 0,.arr 1 h3 true 0,.arr 1 h4 true 0,.arr 1 h5 true 0]⟩,⟨13,1,.bool true,[.arr 1 h0 true 0,.arr 1 h1 true 0,.arr 1 h2 true 0,.arr 1 h3 true 0,.arr 1 h4 true 0,.arr 1 h5 true 0]⟩,⟨14,3,.tuple [.sl 6 0 p6 none p6 1,.bool true],[.arr 1 h0 true 0,.arr 1 h1 true 0,.arr 1 h2 true 0,.arr 1 h3 true 0,.arr 1 h4 true 0,.arr 1 h5 true 0,.arr 1 h6 true 0]⟩,⟨15,5,.bool true,[.arr 1 h0 true 0,.arr 1 h1 true 0,.arr 1 h2 true 0,.arr 1 h3 true 0,.arr 1 h4 true 0,.arr 1 h5 true 0,.arr 1 h6 true 0]⟩,⟨19,1,.bool true,[.arr 1 h0 true 0,.arr 1 h1 true 0,.arr 1 h2 true 0,.arr 1 h3 true 0,.arr 1 h4 true 0,.arr 1 h5 true 0,.arr 1 h6 true 0]⟩,⟨19,5,.bool false,[.arr 1 h0 true 0,.arr 1 h1 true 0,.arr 1 h2 true 0,.arr 1 h3 true 0,.arr 1 h4 true 0,.arr 1 h5 true 0,.arr 1 h6 true 0]⟩,⟨19,9,.bool true,[.arr 1 h0 true 0,.arr 1 h1 true 0,.arr 1 h2 true 0,.arr 1 h3 true 0,.arr 1 h4 true 0,.arr 1 h5 true 0,.arr 1 h6 true 0]⟩,⟨19,12,.bool true,[.arr 1 h0 true 0,.arr 1 h1 true 0,.arr 1 h2 true 0,.arr 1 h3 true 0,.arr 1 h4 true 0,.arr 1 h5 true 0,.arr 1 h6 true 0]⟩,⟨21,3,.bool false,[.arr 1 h0 true 0,.arr 1 h1 true 0,.arr 1 h2 true 0,.arr 1 h3 true 0,.arr 1 h4 true 0,.arr 1 h5 true 0,.arr 1 h6 true 0]⟩,⟨21,7,.ptr 2 k 0 p2,[.arr 1 h0 true 0,.arr 1 h1 true 0,.arr 1 h2 true 0,.arr 1 h3 true 0,.arr 1 h4 true 0,.arr 1 h5 true 0,.arr 1 h6 true 0]⟩,⟨21,8,.imm .own 1 l1,[.arr 1 h0 true 0,.arr 1 h1 true 0,.arr 1 h2 true 0,.arr 1 h3 true 0,.arr 1 h4 true 0,.arr 1 h5 true 0,.arr 1 h6 true 0]⟩,⟨21,10,.bool true,[.arr 1 h0 true 0,.arr 1 h1 true 0,.arr 1 h2 true 0,.arr 1 h3 true 0,.arr 1 h4 true 0,.arr 1 h5 true 0,.arr 1 h6 true 0]⟩] fun kf hk=>⟨_,by kernel_rfl,(oC (g0 kf) (oB [.arr 1 h0 true 0,.arr 1 h1 true 0,.arr 1 h2 true 0,.arr 1 h3 true 0] (decide_eq_true g1) (oC (g2 kf) (oC (g3 kf) (oB [.arr 1 h0 true 0,.arr 1 h1 true 0,.arr 1 h2 true 0,.arr 1 h3 true 0,.arr 1 h4 true 0,.arr 1 h5 true 0] (decide_eq_true g4) (oC (g5 kf) (oC (g6 kf) (oB [.arr 1 h0 true 0,.arr 1 h1 true 0,.arr 1 h2 true 0,.arr 1 h3 true 0,.arr 1 h4 true 0,.arr 1 h5 true 0,.arr 1 h6 true 0] (decide_eq_true g7) (oB [.arr 1 h0 true 0,.arr 1 h1 true 0,.arr 1 h2 true 0,.arr 1 h3 true 0,.arr 1 h4 true 0,.arr 1 h5 true 0,.arr 1 h6 true 0] (decide_eq_false g8) (oB [.arr 1 h0 true 0,.arr 1 h1 true 0,.arr 1 h2 true 0,.arr 1 h3 true 0,.arr 1 h4 true 0,.arr 1 h5 true 0,.arr 1 h6 true 0] (decide_eq_true g9) (oB [.arr 1 h0 true 0,.arr 1 h1 true 0,.arr 1 h2 true 0,.arr 1 h3 true 0,.arr 1 h4 true 0,.arr 1 h5 true 0,.arr 1 h6 true 0] (decide_eq_true g10) (oB [.arr 1 h0 true 0,.arr 1 h1 true 0,.arr 1 h2 true 0,.arr 1 h3 true 0,.arr 1 h4 true 0,.arr 1 h5 true 0,.arr 1 h6 true 0] (decide_eq_false g11) (oP [.arr 1 h0 true 0,.arr 1 h1 true 0,.arr 1 h2 true 0,.arr 1 h3 true 0,.arr 1 h4 true 0,.arr 1 h5 true 0,.arr 1 h6 true 0] g12 (oP [.arr 1 h0 true 0,.arr 1 h1 true 0,.arr 1 h2 true 0,.arr 1 h3 true 0,.arr 1 h4 true 0,.arr 1 h5 true 0,.arr 1 h6 true 0] g13 (oC (g14 kf) .nil)))))))))))))))⟩
theorem sd_i_4 (l0 rw:List HV) (p0:Nat) (h0:List HV) (p1:Nat) (h1:List HV) (p2:Nat) (h2:List HV) (p3:Nat) (h3:List HV) (p4:Nat) (h4:List HV) (p5:Nat) (h5:List HV) (p6:Nat) (h6:List HV) (e1 e2 e3 sz:Int) (k c:Nat) {y8 y13 y14 y15 y16 y17 y18:HV}(g0:∀ kf,callN Tp polL10 (kf+1) 40 [.sl 0 0 p0 none p0 1] [.arr 1 h0 true 0,.arr 1 h1 true 0,.arr 1 h2 true 0,.arr 1 h3 true 0]=some (.i sz,[.arr 1 h0 true 0,.arr 1 h1 true 0,.arr 1 h2 true 0,.arr 1 h3 true 0])) (g1:(c:Int) < sz) (g2:∀ kf,callN Tp polL10 (kf+1) 41 [.sl 0 0 p0 none p0 1,.i (c:Int)] [.arr 1 h0 true 0,.arr 1 h1 true 0,.arr 1 h2 true 0,.arr 1 h3 true 0]=some (.sl 4 0 p4 none p4 1,[.arr 1 h0 true 0,.arr 1 h1 true 0,.arr 1 h2 true 0,.arr 1 h3 true 0,.arr 1 h4 true 0])) (g3:∀ kf,callN Tp polL10 (kf+1) 34 [.sl 0 0 p0 none p0 1,.sl 1 0 p1 none p1 1,.sl 4 0 p4 none p4 1] [.arr 1 h0 true 0,.arr 1 h1 true 0,.arr 1 h2 true 0,.arr 1 h3 true 0,.arr 1 h4 true 0]=some (.tuple [.sl 5 0 p5 none p5 1,.i e3],[.arr 1 h0 true 0,.arr 1 h1 true 0,.arr 1 h2 true 0,.arr 1 h3 true 0,.arr 1 h4 true 0,.arr 1 h5 true 0])) (g4:e3=0) (g5:∀ kf,callN Tp polL10 (kf+1) 27 [.sl 0 0 p0 none p0 1,.sl 1 0 p1 none p1 1,.sl 5 0 p5 none p5 1] [.arr 1 h0 true 0,.arr 1 h1 true 0,.arr 1 h2 true 0,.arr 1 h3 true 0,.arr 1 h4 true 0,.arr 1 h5 true 0]=some (.tuple [.sl 6 0 p6 none p6 1,.bool true],[.arr 1 h0 true 0,.arr 1 h1 true 0,.arr 1 h2 true 0,.arr 1 h3 true 0,.arr 1 h4 true 0,.arr 1 h5 true 0,.arr 1 h6 true 0])) (g6:∀ kf,callN Tp polL10 (kf+1) 17 [.sl 6 0 p6 none p6 1,.sl 4 0 p4 none p4 1] [.arr 1 h0 true 0,.arr 1 h1 true 0,.arr 1 h2 true 0,.arr 1 h3 true 0,.arr 1 h4 true 0,.arr 1 h5 true 0,.arr 1 h6 true 0]=some (.bool true,[.arr 1 h0 true 0,.arr 1 h1 true 0,.arr 1 h2 true 0,.arr 1 h3 true 0,.arr 1 h4 true 0,.arr 1 h5 true 0,.arr 1 h6 true 0])) (g7:e3=0) (g8:¬ (0 < (p5:Int))) (g9:(c:Int)=0) (g10:¬ (e2=0)):RT polL10 10 (sub [1,1,1,1,1,1,1,0,1,0,0] B10) (env10 (.imm .arg 1 l0) (.imm .arg 1 rw) (.bool false) (.sl 0 0 p0 none p0 1) (.sl 1 0 p1 none p1 1) (.sl 2 0 p2 none p2 1) y8 (.i e2) (.i (k:Int)) (.i (c:Int)) y13 y14 y15 y16 y17 y18) [.arr 1 h0 true 0,.arr 1 h1 true 0,.arr 1 h2 true 0,.arr 1 h3 true 0] .normal (env10 (.imm .arg 1 l0) (.imm .arg 1 rw) (.bool false) (.sl 0 0 p0 none p0 1) (.sl 1 0 p1 none p1 1) (.sl 2 0 p2 none p2 1) y8 (.i e2) (.i (k:Int)) (.i (IntKind.i64.wrap ((c:Int)+1))) (.sl 4 0 p4 none p4 1) (.sl 5 0 p5 none p5 1) (.i e3) (.sl 6 0 p6 none p6 1) (.bool true) (.bool false)) [.arr 1 h0 true 0,.arr 1 h1 true 0,.arr 1 h2 true 0,.arr 1 h3 true 0,.arr 1 h4 true 0,.arr 1 h5 true 0,.arr 1 h6 true 0] :=
  RunsTo.hin 0 60 [⟨9,2,.i sz,[.arr 1 h0 true 0,.arr 1 h1 true 0,.arr 1 h2 true 0,.arr 1 h3 true 0]⟩,⟨9,3,.bool true,[.arr 1 h0 true 0,.arr 1 h1 true 0,.arr 1 h2 true 0,.arr 1 h3 true 0]⟩,⟨11,2,.sl 4 0 p4 none p4 1,[.arr 1 h0 true 0,.arr 1 h1 true 0,.arr 1 h2 true 0,.arr 1 h3 true 0,.arr 1 h4 true 0]⟩,⟨12,3,.tuple [.sl 5 0 p5 none p5 1,.i e3],[.arr 1 h0 true 0,.arr 1 h1 true 0,.arr 1 h2 true 0,.arr 1 h3 true 0,.arr 1 h4 true 0,.arr 1 h5 true 0]⟩,⟨13,1,.bool true,[.arr 1 h0 true 0,.arr 1 h1 true 0,.arr 1 h2 true 0,.arr 1 h3 true 0,.arr 1 h4 true 0,.arr 1 h5 true 0]⟩,⟨14,3,.tuple [.sl 6 0 p6 none p6 1,.bool true],[.arr 1 h0 true 0,.arr 1 h1 true 0,.arr 1 h2 true 0,.arr 1 h3 true 0,.arr 1 h4 true 0,.arr 1 h5 true 0,.arr 1 h6 true 0]⟩,⟨15,5,.bool true,[.arr 1 h0 true 0,.arr 1 h1 true 0,.arr 1 h2 true 0,.arr 1 h3 true 0,.arr 1 h4 true 0,.arr 1 h5 true 0,.arr 1 h6 true 0]⟩,⟨19,1,.bool true,[.arr 1 h0 true 0,.arr 1 h1 true 0,.arr 1 h2 true 0,.arr 1 h3 true 0,.arr 1 h4 true 0,.arr 1 h5 true 0,.arr 1 h6 true 0]⟩,⟨19,5,.bool false,[.arr 1 h0 true 0,.arr 1 h1 true 0,.arr 1 h2 true 0,.arr 1 h3 true 0,.arr 1 h4 true 0,.arr 1 h5 true 0,.arr 1 h6 true 0]⟩,⟨19,9,.bool true,[.arr 1 h0 true 0,.arr 1 h1 true 0,.arr 1 h2 true 0,.arr 1 h3 true 0,.arr 1 h4 true 0,.arr 1 h5 true 0,.arr 1 h6 true 0]⟩,⟨19,12,.bool false,[.arr 1 h0 true 0,.arr 1 h1 true 0,.arr 1 h2 true 0,.arr 1 h3 true 0,.arr 1 h4 true 0,.arr 1 h5 true 0,.arr 1 h6 true 0]⟩] fun kf hk=>⟨_,by kernel_rfl,(oC (g0 kf) (oB [.arr 1 h0 true 0,.arr 1 h1 true 0,.arr 1 h2 true 0,.arr 1 h3 true 0] (decide_eq_true g1) (oC (g2 kf) (oC (g3 kf) (oB [.arr 1 h0 true 0,.arr 1 h1 true 0,.arr 1 h2 true 0,.arr 1 h3 true 0,.arr 1 h4 true 0,.arr 1 h5 true 0] (decide_eq_true g4) (oC (g5 kf) (oC (g6 kf) (oB [.arr 1 h0 true 0,.arr 1 h1 true 0,.arr 1 h2 true 0,.arr 1 h3 true 0,.arr 1 h4 true 0,.arr 1 h5 true 0,.arr 1 h6 true 0] (decide_eq_true g7) (oB [.arr 1 h0 true 0,.arr 1 h1 true 0,.arr 1 h2 true 0,.arr 1 h3 true 0,.arr 1 h4 true 0,.arr 1 h5 true 0,.arr 1 h6 true 0] (decide_eq_false g8) (oB [.arr 1 h0 true 0,.arr 1 h1 true 0,.arr 1 h2 true 0,.arr 1 h3 true 0,.arr 1 h4 true 0,.arr 1 h5 true 0,.arr 1 h6 true 0] (decide_eq_true g9) (oB [.arr 1 h0 true 0,.arr 1 h1 true 0,.arr 1 h2 true 0,.arr 1 h3 true 0,.arr 1 h4 true 0,.arr 1 h5 true 0,.arr 1 h6 true 0] (decide_eq_false g10) .nil)))))))))))⟩
theorem sd_i_9 (l0 rw:List HV) (p0:Nat) (h0:List HV) (p1:Nat) (h1:List HV) (p2:Nat) (h2:List HV) (p3:Nat) (h3:List HV) (p4:Nat) (h4:List HV) (p5:Nat) (h5:List HV) (p6:Nat) (h6:List HV) (e1 e2 e3 sz:Int) (k c:Nat) {y8 y13 y14 y15 y16 y17 y18:HV}(g0:∀ kf,callN Tp polL10 (kf+1) 40 [.sl 0 0 p0 none p0 1] [.arr 1 h0 true 0,.arr 1 h1 true 0,.arr 1 h2 true 0,.arr 1 h3 true 0]=some (.i sz,[.arr 1 h0 true 0,.arr 1 h1 true 0,.arr 1 h2 true 0,.arr 1 h3 true 0])) (g1:(c:Int) < sz) (g2:∀ kf,callN Tp polL10 (kf+1) 41 [.sl 0 0 p0 none p0 1,.i (c:Int)] [.arr 1 h0 true 0,.arr 1 h1 true 0,.arr 1 h2 true 0,.arr 1 h3 true 0]=some (.sl 4 0 p4 none p4 1,[.arr 1 h0 true 0,.arr 1 h1 true 0,.arr 1 h2 true 0,.arr 1 h3 true 0,.arr 1 h4 true 0])) (g3:∀ kf,callN Tp polL10 (kf+1) 34 [.sl 0 0 p0 none p0 1,.sl 1 0 p1 none p1 1,.sl 4 0 p4 none p4 1] [.arr 1 h0 true 0,.arr 1 h1 true 0,.arr 1 h2 true 0,.arr 1 h3 true 0,.arr 1 h4 true 0]=some (.tuple [.sl 5 0 p5 none p5 1,.i e3],[.arr 1 h0 true 0,.arr 1 h1 true 0,.arr 1 h2 true 0,.arr 1 h3 true 0,.arr 1 h4 true 0,.arr 1 h5 true 0])) (g4:¬ (e3=0)) (g5:e3=6) (g6:¬ (e3=0)) (g7:¬ ((c:Int)=0)):RT polL10 10 (sub [1,1,1,1,1,1,1,0,1,0,0] B10) (env10 (.imm .arg 1 l0) (.imm .arg 1 rw) (.bool false) (.sl 0 0 p0 none p0 1) (.sl 1 0 p1 none p1 1) (.sl 2 0 p2 none p2 1) y8 (.i e2) (.i (k:Int)) (.i (c:Int)) y13 y14 y15 y16 y17 y18) [.arr 1 h0 true 0,.arr 1 h1 true 0,.arr 1 h2 true 0,.arr 1 h3 true 0] .normal (env10 (.imm .arg 1 l0) (.imm .arg 1 rw) (.bool false) (.sl 0 0 p0 none p0 1) (.sl 1 0 p1 none p1 1) (.sl 2 0 p2 none p2 1) y8 (.i e2) (.i (k:Int)) (.i (IntKind.i64.wrap ((c:Int)+1))) (.sl 4 0 p4 none p4 1) (.sl 5 0 p5 none p5 1) (.i e3) y16 y17 (.bool false)) [.arr 1 h0 true 0,.arr 1 h1 true 0,.arr 1 h2 true 0,.arr 1 h3 true 0,.arr 1 h4 true 0,.arr 1 h5 true 0] :=
  RunsTo.hin 0 60 [⟨9,2,.i sz,[.arr 1 h0 true 0,.arr 1 h1 true 0,.arr 1 h2 true 0,.arr 1 h3 true 0]⟩,⟨9,3,.bool true,[.arr 1 h0 true 0,.arr 1 h1 true 0,.arr 1 h2 true 0,.arr 1 h3 true 0]⟩,⟨11,2,.sl 4 0 p4 none p4 1,[.arr 1 h0 true 0,.arr 1 h1 true 0,.arr 1 h2 true 0,.arr 1 h3 true 0,.arr 1 h4 true 0]⟩,⟨12,3,.tuple [.sl 5 0 p5 none p5 1,.i e3],[.arr 1 h0 true 0,.arr 1 h1 true 0,.arr 1 h2 true 0,.arr 1 h3 true 0,.arr 1 h4 true 0,.arr 1 h5 true 0]⟩,⟨13,1,.bool false,[.arr 1 h0 true 0,.arr 1 h1 true 0,.arr 1 h2 true 0,.arr 1 h3 true 0,.arr 1 h4 true 0,.arr 1 h5 true 0]⟩,⟨17,1,.bool false,[.arr 1 h0 true 0,.arr 1 h1 true 0,.arr 1 h2 true 0,.arr 1 h3 true 0,.arr 1 h4 true 0,.arr 1 h5 true 0]⟩,⟨19,1,.bool false,[.arr 1 h0 true 0,.arr 1 h1 true 0,.arr 1 h2 true 0,.arr 1 h3 true 0,.arr 1 h4 true 0,.arr 1 h5 true 0]⟩,⟨19,9,.bool false,[.arr 1 h0 true 0,.arr 1 h1 true 0,.arr 1 h2 true 0,.arr 1 h3 true 0,.arr 1 h4 true 0,.arr 1 h5 true 0]⟩] fun kf hk=>⟨_,by kernel_rfl,(oC (g0 kf) (oB [.arr 1 h0 true 0,.arr 1 h1 true 0,.arr 1 h2 true 0,.arr 1 h3 true 0] (decide_eq_true g1) (oC (g2 kf) (oC (g3 kf) (oB [.arr 1 h0 true 0,.arr 1 h1 true 0,.arr 1 h2 true 0,.arr 1 h3 true 0,.arr 1 h4 true 0,.arr 1 h5 true 0] (decide_eq_false g4) (oB [.arr 1 h0 true 0,.arr 1 h1 true 0,.arr 1 h2 true 0,.arr 1 h3 true 0,.arr 1 h4 true 0,.arr 1 h5 true 0] (congrArg not (decide_eq_true g5)) (oB [.arr 1 h0 true 0,.arr 1 h1 true 0,.arr 1 h2 true 0,.arr 1 h3 true 0,.arr 1 h4 true 0,.arr 1 h5 true 0] (decide_eq_false g6) (oB [.arr 1 h0 true 0,.arr 1 h1 true 0,.arr 1 h2 true 0,.arr 1 h3 true 0,.arr 1 h4 true 0,.arr 1 h5 true 0] (decide_eq_false g7) .nil))))))))⟩
theorem sd_i_11 (l0 rw:List HV) (p0:Nat) (h0:List HV) (p1:Nat) (h1:List HV) (p2:Nat) (h2:List HV) (p3:Nat) (h3:List HV) (p4:Nat) (h4:List HV) (p5:Nat) (h5:List HV) (p6:Nat) (h6:List HV) (e1 e2 e3 sz:Int) (k c:Nat) {y8 y13 y14 y15 y16 y17 y18:HV}(g0:∀ kf,callN Tp polL10 (kf+1) 40 [.sl 0 0 p0 none p0 1] [.arr 1 h0 true 0,.arr 1 h1 true 0,.arr 1 h2 true 0,.arr 1 h3 true 0]=some (.i sz,[.arr 1 h0 true 0,.arr 1 h1 true 0,.arr 1 h2 true 0,.arr 1 h3 true 0])) (g1:¬ ((c:Int) < sz)):RT polL10 10 (sub [1,1,1,1,1,1,1,0,1,0,0] B10) (env10 (.imm .arg 1 l0) (.imm .arg 1 rw) (.bool false) (.sl 0 0 p0 none p0 1) (.sl 1 0 p1 none p1 1) (.sl 2 0 p2 none p2 1) y8 (.i e2) (.i (k:Int)) (.i (c:Int)) y13 y14 y15 y16 y17 y18) [.arr 1 h0 true 0,.arr 1 h1 true 0,.arr 1 h2 true 0,.arr 1 h3 true 0] (.exit 0) (env10 (.imm .arg 1 l0) (.imm .arg 1 rw) (.bool false) (.sl 0 0 p0 none p0 1) (.sl 1 0 p1 none p1 1) (.sl 2 0 p2 none p2 1) y8 (.i e2) (.i (k:Int)) (.i (c:Int)) y13 y14 y15 y16 y17 y18) [.arr 1 h0 true 0,.arr 1 h1 true 0,.arr 1 h2 true 0,.arr 1 h3 true 0] :=
  RunsTo.hin 0 60 [⟨9,2,.i sz,[.arr 1 h0 true 0,.arr 1 h1 true 0,.arr 1 h2 true 0,.arr 1 h3 true 0]⟩,⟨9,3,.bool false,[.arr 1 h0 true 0,.arr 1 h1 true 0,.arr 1 h2 true 0,.arr 1 h3 true 0]⟩] fun kf hk=>⟨_,by kernel_rfl,(oC (g0 kf) (oB [.arr 1 h0 true 0,.arr 1 h1 true 0,.arr 1 h2 true 0,.arr 1 h3 true 0] (decide_eq_false g1) .nil))⟩
theorem sd_j_0 (l0 rw:List HV) (p0:Nat) (h0:List HV) (p1:Nat) (h1:List HV) (p2:Nat) (h2:List HV) (p3:Nat) (h3:List HV) (p4:Nat) (h4:List HV) (p5:Nat) (h5:List HV) (p6:Nat) (h6:List HV) (e1 e2 e3 sz:Int) (k c:Nat) {y8 y13 y14 y15 y16 y17 y18:HV}(g0:(k:Int)=(p2:Int)) (g1:∀ kf,callN Tp polL10 (kf+1) 16 [] [.arr 1 h0 true 0,.arr 1 h1 true 0,.arr 1 h2 true 0,.arr 1 h3 true 0]=some (.bool true,[.arr 1 h0 true 0,.arr 1 h1 true 0,.arr 1 h2 true 0,.arr 1 h3 true 0])):RT polL10 10 (sub [1,1,1,1,1,1,1,1] B10) (env10 (.imm .arg 1 l0) (.imm .arg 1 rw) (.bool false) (.sl 0 0 p0 none p0 1) (.sl 1 0 p1 none p1 1) (.sl 2 0 p2 none p2 1) y8 (.i e2) (.i (k:Int)) (.i (c:Int)) y13 y14 y15 y16 y17 y18) [.arr 1 h0 true 0,.arr 1 h1 true 0,.arr 1 h2 true 0,.arr 1 h3 true 0] .ret (env10 (.imm .arg 1 l0) (.imm .arg 1 rw) (.bool true) (.sl 0 0 p0 none p0 1) (.sl 1 0 p1 none p1 1) (.sl 2 0 p2 none p2 1) y8 (.i e2) (.i (k:Int)) (.i (c:Int)) y13 y14 y15 y16 y17 y18) [.arr 1 h0 true 0,.arr 1 h1 true 0,.arr 1 h2 true 0,.arr 1 h3 true 0] :=
  RunsTo.hin 0 60 [⟨24,3,.bool true,[.arr 1 h0 true 0,.arr 1 h1 true 0,.arr 1 h2 true 0,.arr 1 h3 true 0]⟩,⟨24,5,.bool true,[.arr 1 h0 true 0,.arr 1 h1 true 0,.arr 1 h2 true 0,.arr 1 h3 true 0]⟩] fun kf hk=>⟨_,by kernel_rfl,(oB [.arr 1 h0 true 0,.arr 1 h1 true 0,.arr 1 h2 true 0,.arr 1 h3 true 0] (decide_eq_true g0) (oC (g1 kf) .nil))⟩
end Go.Proofs.Ytaibmipamkaljaa
end
section
open Go Go.HL
namespace Go.Proofs.Ytaibmipamkaljaa
open Go.Proofs.Try renaming prog → Tp
open Go.HL.HV renaming undef → Ud
theorem res10:Try.f10.results.toList=[.tmp 4]:=by kernel_rfl
abbrev sdE (l0:List Int) (R1:List (List Int)) (n0 n1 n2:Nat) (e2:Int) (v8 v11 v12 v13 v14 v15 v16 v17 v18:HV):Env:=(env10 (.imm .arg 1 (l0.map encI)) (.imm .arg 1 (R1.map encR)) (.bool false) (.sl 0 0 n0 none n0 1) (.sl 1 0 n1 none n1 1) (.sl 2 0 n2 none n2 1) v8 (.int .i64 e2) v11 v12 v13 v14 v15 v16 v17 v18)
abbrev sdH (G:List Int) (O S:List (List Int)) (Z:List Int):Heap:=[bI G,bR O,bR S,bI Z]
theorem gc4s {G Z X P T:List Int} {O S:List (List Int)} {r:Nat} (h:r ≤ 4):gc 4 r [bI G,bR O,bR S,bI Z,bI X,bI P,bI T]=[bI G,bR O,bR S,bI Z]:=by
  unfold gc
  have:mxs [bI G,bR O,bR S,bI Z,bI X,bI P,bI T]=0:=rfl
  rw [this,show max 4 (max r 0)=4 by omega]; rfl
theorem gc4t {G Z X P:List Int} {O S:List (List Int)} {r:Nat} (h:r ≤ 4):gc 4 r [bI G,bR O,bR S,bI Z,bI X,bI P]=[bI G,bR O,bR S,bI Z]:=by
  unfold gc
  have:mxs [bI G,bR O,bR S,bI Z,bI X,bI P]=0:=rfl
  rw [this,show max 4 (max r 0)=4 by omega]; rfl
section
variable {l0:List Int} {R1:List (List Int)} {G Z:List Int} {O:List (List Int)}
theorem ixq10 {t e b m i:Nat} (ht:Tp.underlying t=some (.slice e)) (hs:tySize Tp e=some 1) (h:i < m):idxV Tp t (.sl b 0 m none m 1) (.int .i64 (i:Int))=some (.ptr b i 0 m):=by
  have:=idx_sl (P:=Tp) (t:=t) (b:=b) (len:=m) (tot:=m) (cap:=none) (ik:=.i64) (n:=(i:Int)) ht hs (by omega) (by omega)
  rwa [Int.toNat_natCast] at this
def inT (G:List Int) (O:List (List Int)) (c:Nat):Bool:=decide (tE G (c:Int) ∈ sumS (grG G) (els G O))
theorem sd_loop (hg:(newGroupT G).2=true) (hR:∀ x ∈ O,elB G x=true) (hl:O.length ≤ 60) {e2:Int}
    (hz:(e2=6∧∀ s:List El,s.Sublist (els G O) → s ≠ [] → sumG (grG G) s ≠ (0,0)) ∨ (e2=0∧∃ s:List El,s.Sublist (els G O)∧s ≠ []∧sumG (grG G) s=(0,0))):∀ d c,c+d=(sizeT G).toNat →
    ∃ y8 y13 y14 y15 y16 y17 y18,RT polL10 10 (sub [1,1,1,1,1,1,1,0,1,0] B10) (sdE l0 R1 G.length O.length (sumsL G (sumS (grG G) (els G O))).length e2 Ud (.int .i64 ((((List.range c).filter (inT G O)).length:Nat):Int)) (.int .i64 (c:Int)) Ud Ud Ud Ud Ud Ud) (sdH G O (sumsL G (sumS (grG G) (els G O))) Z) (.exit 0)
      (sdE l0 R1 G.length O.length (sumsL G (sumS (grG G) (els G O))).length e2 y8 (.int .i64 ((((List.range (sizeT G).toNat).filter (inT G O)).length:Nat):Int)) (.int .i64 ((sizeT G).toNat:Nat)) y13 y14 y15 y16 y17 y18) (sdH G O (sumsL G (sumS (grG G) (els G O))) Z):=by
  have hs:=size_bnd hg
  have hall:∀ y ∈ els G O,elOk (grG G) y:=fun y hy=>by
    obtain ⟨z,hz,rfl⟩:=List.mem_map.1 hy
    exact eE_ok hg (hR z hz)
  have hmem:=mem_sumS (els G O) hall
  have eS:(sumsL G (sumS (grG G) (els G O))).length=((List.range (sizeT G).toNat).filter (inT G O)).length:=by rw [sumsL,List.length_map]; rfl
  have hSat:∀ c,c < (sizeT G).toNat → inT G O c=true → ((List.range c).filter (inT G O)).length < (sumsL G (sumS (grG G) (els G O))).length∧(sumsL G (sumS (grG G) (els G O))).getD ((List.range c).filter (inT G O)).length []=decT G (c:Int):=fun c hc hin=>by
    have h1:=filt_at (inT G O) hc hin
    have h2:=lt_of_get h1
    refine ⟨by rw [eS]; exact h2,?_⟩
    have:(sumsL G (sumS (grG G) (els G O)))[((List.range c).filter (inT G O)).length]?=some (decT G (c:Int)):=by
      show (((List.range (sizeT G).toNat).filter (inT G O)).map fun (c:Nat)=>decT G (c:Int))[((List.range c).filter (inT G O)).length]?=_
      rw [List.getElem?_map,h1]; rfl
    simp [List.getD,this]
  generalize hSS:sumsL G (sumS (grG G) (els G O))=S at *
  intro d
  induction d with
  | zero =>
    intro c hc
    have:c=(sizeT G).toNat:=by omega
    subst this
    have c40:=sizeA_at (pol':=polL10) (by kernel_rfl) (v:=.sl 0 0 G.length none G.length 1) (H:=sdH G O S Z) (argI_sl rfl rfl) hg
    have s:=sd_i_11 (l0.map encI) (R1.map encR) G.length (G.map encI) O.length (O.map encO) S.length (S.map encO) 0 (Z.map encI) 0 [] 0 [] 0 [] 0 e2 0 (sizeT G) ((List.range (sizeT G).toNat).filter (inT G O)).length (sizeT G).toNat (y8:=Ud) (y13:=Ud) (y14:=Ud) (y15:=Ud) (y16:=Ud) (y17:=Ud) (y18:=Ud) c40 (by omega)
    exact ⟨_,_,_,_,_,_,_,lpo (s) (c:=sub [1,1,1,1,1,1,1,0,1,0] B10)⟩
  | succ d ih =>
    intro c hc
    have hcl:c < (sizeT G).toNat:=by omega
    obtain ⟨d1,d2⟩:=code_dec hg (c:=(c:Int)) ⟨by omega,by omega⟩
    have dE:eE G (decT G (c:Int))=tE G (c:Int):=by rw [eE,d1]
    have c40:=sizeA_at (pol':=polL10) (by kernel_rfl) (v:=.sl 0 0 G.length none G.length 1) (H:=sdH G O S Z) (argI_sl rfl rfl) hg
    have c41:=decA_at (pol':=polL10) (by kernel_rfl) (c:=(c:Int)) (v:=.sl 0 0 G.length none G.length 1) (H:=sdH G O S Z) (argI_sl rfl rfl) ⟨hg,by omega,by omega⟩
    have c34:=part34_at (pol':=polL10) (by kernel_rfl) (l:=G) (R:=O) (x:=decT G (c:Int)) (v1:=.sl 0 0 G.length none G.length 1) (v2:=.sl 1 0 O.length none O.length 1) (v3:=.sl 4 0 (decT G (c:Int)).length none (decT G (c:Int)).length 1) (H:=sdH G O S Z ++ [bI (decT G (c:Int))]) (argI_sl rfl rfl) (argR_sl rfl rfl) (argI_sl rfl rfl) (by omega)
    have hdl:(decT G (c:Int)).length ≤ 1000:=by
      have:=(lst_len hg (tE G (c:Int)))
      rw [lst_tE hg] at this
      have:=grp_len hg
      omega
    obtain ⟨y8,y13,y14,y15,y16,y17,y18,r⟩:=ih (c+1) (by omega)
    rcases part_cases hg hR hl d2 with ⟨p1,p2⟩ | ⟨o,p1,p2,p3,p4⟩
    · -- no part
      rw [p1] at c34
      have hn:inT G O c=false:=by
        refine decide_eq_false fun h=>?_
        obtain ⟨s,s1,_,s3⟩:=(hmem _).1 h
        exact p2 s s1 (by rw [dE]; exact s3.symm)
      have hc0:¬ (c:Int)=0:=fun e=>p2 [] (List.nil_sublist _) (by rw [sumG_nil,dE,e]; exact ((tE_zero hg ⟨by omega,by omega⟩).2 rfl).symm)
      have s:=sd_i_9 (l0.map encI) (R1.map encR) G.length (G.map encI) O.length (O.map encO) S.length (S.map encO) 0 (Z.map encI) (decT G (c:Int)).length ((decT G (c:Int)).map encI) 0 [] 0 [] 0 e2 6 (sizeT G) ((List.range c).filter (inT G O)).length c (y8:=Ud) (y13:=Ud) (y14:=Ud) (y15:=Ud) (y16:=Ud) (y17:=Ud) (y18:=Ud) c40 (by omega) c41 c34 (by omega) rfl (by omega) hc0
      rw [wrap_succ (by omega)] at s
      rw [filt_succ,hn] at r
      exact ⟨y8,y13,y14,y15,y16,y17,y18,lop (s) (gc4t (P:=[]) (by simp only [bndE,bnd]; decide)) (r)⟩
    · -- a part
      rw [p4] at c34
      obtain ⟨t1,t2⟩:=tot_part hg hR (k:=(o:Int)) d2 p2
      have pl:=partT_len (grG_ok hg) (els G O) 0 ((o:Int),eE G (decT G (c:Int))) hall p2
      have hPl:(partI (grG G) (els G O) ((o:Int),eE G (decT G (c:Int)))).length=o:=by rw [partI,List.length_map]; simp only at pl; omega
      generalize hP:partI (grG G) (els G O) ((o:Int),eE G (decT G (c:Int)))=P at *
      have c27:=total_at (pol':=polL10) (by kernel_rfl) (gl:=G) (R:=O) (p:=P) (v1:=.sl 0 0 G.length none G.length 1) (v2:=.sl 1 0 O.length none O.length 1) (v3:=.sl 5 0 P.length none P.length 1) (H:=sdH G O S Z ++ [bI (decT G (c:Int)),bI P]) (argI_sl rfl rfl) (argR_sl rfl rfl) (argI_sl rfl rfl) hg hR (by omega) t1 t2
      have it:=ints_at (pol':=polL10) (by kernel_rfl) (a:=decT G (c:Int)) (b:=decT G (c:Int)) (v1:=.sl 6 0 (decT G (c:Int)).length none (decT G (c:Int)).length 1) (v2:=.sl 4 0 (decT G (c:Int)).length none (decT G (c:Int)).length 1) (H:=sdH G O S Z ++ [bI (decT G (c:Int)),bI P,bI (decT G (c:Int))]) (argI_sl rfl rfl) (argI_sl rfl rfl) hdl
      rw [decide_eq_true rfl] at it
      have yes:inT G O c=true → ∃ ix:idxV Tp 35 (.sl 2 0 S.length none S.length 1) (.int .i64 ((((List.range c).filter (inT G O)).length:Nat):Int))=some (.ptr 2 ((List.range c).filter (inT G O)).length 0 S.length),loadV Tp (sdH G O S Z ++ [bI (decT G (c:Int)),bI P,bI (decT G (c:Int))]) 22 (.ptr 2 ((List.range c).filter (inT G O)).length 0 S.length)=some (.imm .own 1 ((decT G (c:Int)).map encI))∧¬ ((S.length:Int) ≤ (((List.range c).filter (inT G O)).length:Nat)) ∧
          (∀ kf,callN Tp polL10 (kf+1) 17 [.imm .own 1 ((decT G (c:Int)).map encI),.sl 4 0 (decT G (c:Int)).length none (decT G (c:Int)).length 1] (sdH G O S Z ++ [bI (decT G (c:Int)),bI P,bI (decT G (c:Int))])=some (.bool true,sdH G O S Z ++ [bI (decT G (c:Int)),bI P,bI (decT G (c:Int))])):=fun hin=>by
        obtain ⟨q1,q2⟩:=hSat c hcl hin
        refine ⟨ixq10 u35 z22 q1,?_,by omega,?_⟩
        · have:=load_elem (P:=Tp) (H:=sdH G O S Z ++ [bI (decT G (c:Int)),bI P,bI (decT G (c:Int))]) (t:=22) (b:=2) (i:=((List.range c).filter (inT G O)).length) (tot:=S.length) (k:=1) (mx:=0) (els:=S.map encO) (w:=true) (v:=encO (S.getD ((List.range c).filter (inT G O)).length [])) rfl (by simp) (by rw [List.getElem?_map,List.getElem?_eq_getElem q1]; simp [List.getD,List.getElem?_eq_getElem q1]) rfl a22 i22
          rw [this,q2]; rfl
        · have:=ints_at (pol':=polL10) (by kernel_rfl) (a:=decT G (c:Int)) (b:=decT G (c:Int)) (v1:=.imm .own 1 ((decT G (c:Int)).map encI)) (v2:=.sl 4 0 (decT G (c:Int)).length none (decT G (c:Int)).length 1) (H:=sdH G O S Z ++ [bI (decT G (c:Int)),bI P,bI (decT G (c:Int))]) (argI_own _ _) (argI_sl rfl rfl) hdl
          rwa [decide_eq_true rfl] at this
      have hkb:((List.range c).filter (inT G O)).length ≤ c:=Nat.le_trans (List.length_filter_le _ _) (by simp)
      by_cases h0:0 < o
      · have hin:inT G O c=true:=by
          obtain ⟨s,s1,s2,s3⟩:=(rch_gen _ _ _).1 p2
          exact decide_eq_true ((hmem _).2 ⟨s,s1,fun e=>by rw [e] at s2; simp at s2; omega,by rw [← dE]; exact s3⟩)
        obtain ⟨ix,ld,ge,i2⟩:=yes hin
        have s:=sd_i_1 (l0.map encI) (R1.map encR) G.length (G.map encI) O.length (O.map encO) S.length (S.map encO) 0 (Z.map encI) (decT G (c:Int)).length ((decT G (c:Int)).map encI) P.length (P.map encI) (decT G (c:Int)).length ((decT G (c:Int)).map encI) 0 e2 0 (sizeT G) ((List.range c).filter (inT G O)).length c (y8:=Ud) (y13:=Ud) (y14:=Ud) (y15:=Ud) (y16:=Ud) (y17:=Ud) (y18:=Ud) c40 (by omega) c41 c34 rfl c27 it rfl (by omega) ge ix ld i2
        rw [wrap_succ (by omega),wrap_succ (by omega)] at s
        rw [filt_succ,hin] at r
        exact ⟨y8,y13,y14,y15,y16,y17,y18,lop (s) (gc4s (by simp only [bndE,bnd]; decide)) (r)⟩
      · have ho:o=0:=by omega
        have hz0:eE G (decT G (c:Int))=(0,0):=by
          obtain ⟨s,s1,s2,s3⟩:=(rch_gen _ _ _).1 p2
          have:s=[]:=List.length_eq_zero_iff.1 (by omega)
          rw [this,sumG_nil] at s3
          exact s3
        have hc0:(c:Int)=0:=(tE_zero hg ⟨by omega,by omega⟩).1 (by rw [← dE]; exact hz0)
        rcases hz with ⟨e6,hz⟩ | ⟨e0,s',z1,z2,z3⟩
        · have hn:inT G O c=false:=by
            refine decide_eq_false fun h=>?_
            obtain ⟨s,s1,s2,s3⟩:=(hmem _).1 h
            exact hz s s1 s2 (by rw [← s3,← dE]; exact hz0)
          have s:=sd_i_4 (l0.map encI) (R1.map encR) G.length (G.map encI) O.length (O.map encO) S.length (S.map encO) 0 (Z.map encI) (decT G (c:Int)).length ((decT G (c:Int)).map encI) P.length (P.map encI) (decT G (c:Int)).length ((decT G (c:Int)).map encI) 0 e2 0 (sizeT G) ((List.range c).filter (inT G O)).length c (y8:=Ud) (y13:=Ud) (y14:=Ud) (y15:=Ud) (y16:=Ud) (y17:=Ud) (y18:=Ud) c40 (by omega) c41 c34 rfl c27 it rfl (by omega) hc0 (by omega)
          rw [wrap_succ (by omega)] at s
          rw [filt_succ,hn] at r
          exact ⟨y8,y13,y14,y15,y16,y17,y18,lop (s) (gc4s (by simp only [bndE,bnd]; decide)) (r)⟩
        · have hin:inT G O c=true:=decide_eq_true ((hmem _).2 ⟨s',z1,z2,by rw [z3,← dE]; exact hz0⟩)
          obtain ⟨ix,ld,ge,i2⟩:=yes hin
          have s:=sd_i_3 (l0.map encI) (R1.map encR) G.length (G.map encI) O.length (O.map encO) S.length (S.map encO) 0 (Z.map encI) (decT G (c:Int)).length ((decT G (c:Int)).map encI) P.length (P.map encI) (decT G (c:Int)).length ((decT G (c:Int)).map encI) 0 e2 0 (sizeT G) ((List.range c).filter (inT G O)).length c (y8:=Ud) (y13:=Ud) (y14:=Ud) (y15:=Ud) (y16:=Ud) (y17:=Ud) (y18:=Ud) c40 (by omega) c41 c34 rfl c27 it rfl (by omega) hc0 e0 ge ix ld i2
          rw [wrap_succ (by omega),wrap_succ (by omega)] at s
          rw [filt_succ,hin] at r
          exact ⟨y8,y13,y14,y15,y16,y17,y18,lop (s) (gc4s (by simp only [bndE,bnd]; decide)) (r)⟩
end
theorem sumsTold_law (l0:List Int) (R1:List (List Int)):∃ E H,RT polL10 10 B10 (args0 [.imm .arg 1 (l0.map encI),.imm .arg 1 (R1.map encR)]) [] .ret E H∧E.get 4=.bool true:=by
  obtain ⟨g,e,hG⟩:=grp_L l0
  have hpos:=hG.pos
  obtain ⟨_,hg⟩:=grG_eq hG
  have a:=sd_a_0 (l0.map encI) (R1.map encR) 0 [] 0 [] 0 [] 0 [] 0 [] 0 [] 0 [] 0 0 0 0
  have c23:=group_at (pol':=polL10) (by kernel_rfl) l0 []
  have c24:=elements24_at (pol':=polL10) (by kernel_rfl) (gl:=grpT l0) (R:=R1) (v1:=.sl 0 0 (grpT l0).length none (grpT l0).length 1) (v2:=.imm .arg 1 (R1.map encR)) (c:=12) (H:=[bI (grpT l0)]) (argI_sl rfl rfl) (argR_imm _ _) ⟨hpos.1,by omega,by rw [List.length_take]; omega,by omega⟩
  have hR:=rowsE_el hG R1 12
  have hl:=rowsE_len (grpT l0) R1 12
  generalize grpT l0=G at *
  generalize rowsE G R1 12=O at *
  have hl':O.length ≤ 60:=by have:(12:Int).toNat=12:=rfl; omega
  have hlB:=listB_iff.2 ⟨hR,hl'⟩
  have c39:=sums_at (pol':=polL10) (by kernel_rfl) (l:=G) (R:=O) (v1:=.sl 0 0 G.length none G.length 1) (v2:=.sl 1 0 O.length none O.length 1) (H:=[bI G,bR O]) (argI_sl rfl rfl) (argR_sl rfl rfl) (by omega)
  rw [sumsT_B hg hlB] at c39
  have c26:=zero_at (pol':=polL10) (by kernel_rfl) (H:=[bI G,bR O,bR (sumsL G (sumS (grG G) (els G O)))]) (v1:=.sl 0 0 G.length none G.length 1) (v2:=.sl 1 0 O.length none O.length 1) (argI_sl rfl rfl) (argR_sl rfl rfl) (by omega)
  have eS:(sumsL G (sumS (grG G) (els G O))).length=((List.range (sizeT G).toNat).filter (inT G O)).length:=by rw [sumsL,List.length_map]; rfl
  have lp:=fun (Z:List Int) (e2:Int) hz=>sd_loop (l0:=l0) (R1:=R1) (Z:=Z) hg hR hl' (e2:=e2) hz (sizeT G).toNat 0 (by omega)
  generalize hSS:sumsL G (sumS (grG G) (els G O))=S at *
  have b:=sd_b_0 (l0.map encI) (R1.map encR) G.length (G.map encI) 0 [] 0 [] 0 [] 0 [] 0 [] 0 [] 0 0 0 0 (y5:=Ud) (y6:=Ud) (y7:=Ud) (y8:=Ud) (y10:=Ud) (y11:=Ud) (y12:=Ud) (y13:=Ud) (y14:=Ud) (y15:=Ud) (y16:=Ud) (y17:=Ud) (y18:=Ud) c23
  have c:=sd_c_0 (l0.map encI) (R1.map encR) G.length (G.map encI) O.length (O.map encO) 0 [] 0 [] 0 [] 0 [] 0 [] 0 0 0 0 (y6:=Ud) (y7:=Ud) (y8:=Ud) (y10:=Ud) (y11:=Ud) (y12:=Ud) (y13:=Ud) (y14:=Ud) (y15:=Ud) (y16:=Ud) (y17:=Ud) (y18:=Ud) c24
  have d:=sd_d_0 (l0.map encI) (R1.map encR) G.length (G.map encI) O.length (O.map encO) S.length (S.map encO) 0 [] 0 [] 0 [] 0 [] 0 0 0 0 (y7:=Ud) (y8:=Ud) (y10:=Ud) (y11:=Ud) (y12:=Ud) (y13:=Ud) (y14:=Ud) (y15:=Ud) (y16:=Ud) (y17:=Ud) (y18:=Ud) c39
  have fin:∀ (Z:List Int) (e2:Int),(e2=0 ∨ e2=6) → ((e2=6∧∀ s:List El,s.Sublist (els G O) → s ≠ [] → sumG (grG G) s ≠ (0,0)) ∨ (e2=0∧∃ s:List El,s.Sublist (els G O)∧s ≠ []∧sumG (grG G) s=(0,0))) → zeroT G O=(Z,e2) → ∃ E H,RT polL10 10 B10 (args0 [.imm .arg 1 (l0.map encI),.imm .arg 1 (R1.map encR)]) [] .ret E H∧E.get 4=.bool true:=fun Z e2 he hz hzt=>by
    rw [hzt] at c26
    have ee:=sd_e_0 (l0.map encI) (R1.map encR) G.length (G.map encI) O.length (O.map encO) S.length (S.map encO) Z.length (Z.map encI) 0 [] 0 [] 0 [] 0 e2 0 0 (y10:=Ud) (y11:=Ud) (y12:=Ud) (y13:=Ud) (y14:=Ud) (y15:=Ud) (y16:=Ud) (y17:=Ud) (y18:=Ud) c26
    have f:RT polL10 10 (sub [1,1,1,1,1,0] B10) (sdE l0 R1 G.length O.length S.length e2 (.int .i64 0) Ud Ud Ud Ud Ud Ud Ud Ud) (sdH G O S Z) .normal (sdE l0 R1 G.length O.length S.length e2 (.int .i64 0) Ud Ud Ud Ud Ud Ud Ud Ud) (sdH G O S Z):=by
      rcases he with rfl | rfl
      · exact sd_f_0 (l0.map encI) (R1.map encR) G.length (G.map encI) O.length (O.map encO) S.length (S.map encO) Z.length (Z.map encI) 0 [] 0 [] 0 [] 0 0 0 0 (y11:=Ud) (y12:=Ud) (y13:=Ud) (y14:=Ud) (y15:=Ud) (y16:=Ud) (y17:=Ud) (y18:=Ud) rfl rfl
      · exact sd_f_1 (l0.map encI) (R1.map encR) G.length (G.map encI) O.length (O.map encO) S.length (S.map encO) Z.length (Z.map encI) 0 [] 0 [] 0 [] 0 6 0 0 (y11:=Ud) (y12:=Ud) (y13:=Ud) (y14:=Ud) (y15:=Ud) (y16:=Ud) (y17:=Ud) (y18:=Ud) rfl (by omega) rfl
    have gg:=sd_g_0 (l0.map encI) (R1.map encR) G.length (G.map encI) O.length (O.map encO) S.length (S.map encO) Z.length (Z.map encI) 0 [] 0 [] 0 [] 0 e2 0 0 (y8:=.int .i64 0) (y11:=Ud) (y12:=Ud) (y13:=Ud) (y14:=Ud) (y15:=Ud) (y16:=Ud) (y17:=Ud) (y18:=Ud)
    have hh:=sd_h_0 (l0.map encI) (R1.map encR) G.length (G.map encI) O.length (O.map encO) S.length (S.map encO) Z.length (Z.map encI) 0 [] 0 [] 0 [] 0 e2 0 0 0 (y8:=.int .i64 0) (y12:=Ud) (y13:=Ud) (y14:=Ud) (y15:=Ud) (y16:=Ud) (y17:=Ud) (y18:=Ud)
    obtain ⟨y8,y13,y14,y15,y16,y17,y18,r⟩:=lp Z e2 hz
    have j:=sd_j_0 (l0.map encI) (R1.map encR) G.length (G.map encI) O.length (O.map encO) S.length (S.map encO) Z.length (Z.map encI) 0 [] 0 [] 0 [] 0 e2 0 0 ((List.range (sizeT G).toNat).filter (inT G O)).length (sizeT G).toNat (y8:=y8) (y13:=y13) (y14:=y14) (y15:=y15) (y16:=y16) (y17:=y17) (y18:=y18) (by rw [eS]) (awake_at (pol':=polL10) (by kernel_rfl) _)
    have u:=sq (a) (sq (b) (sq (c) (sq (d) (sq (ee) (sq (f) (sq (gg) (sq (sq (hh) (bke (c:=sub [1,1,1,1,1,1,1,0,1] B10) (lpi (e0:=(sdE l0 R1 G.length O.length S.length e2 (.int .i64 0) (.int .i64 ((0:Nat):Int)) (.int .i64 ((0:Nat):Int)) Ud Ud Ud Ud Ud Ud)) r (b:=sub [1,1,1,1,1,1,1,0,1,0,0] B10))) (c:=sub [1,1,1,1,1,1,1,0] B10)) (j) (c:=sub [1,1,1,1,1,1,1] B10)) (c:=sub [1,1,1,1,1,1] B10)) (c:=sub [1,1,1,1,1] B10)) (c:=sub [1,1,1,1] B10)) (c:=sub [1,1,1] B10)) (c:=sub [1,1] B10)) (c:=sub [1] B10)) (c:=B10)
    exact ⟨_,_,u,rfl⟩
  rcases zero_cases hg hR hl' with ⟨h1,h2⟩ | ⟨o,k1,k2,k3,k4,k5⟩
  · exact fin [] 6 (.inr rfl) (.inl ⟨rfl,h2⟩) h1
  · obtain ⟨s,s1,s2,s3⟩:=(rch_gen _ _ _).1 k3
    exact fin _ 0 (.inl rfl) (.inr ⟨rfl,s,s1,fun e=>by rw [e] at s2; simp at s2; omega,s3.symm⟩) k5
end Go.Proofs.Ytaibmipamkaljaa
end
section
namespace Go.HL
open Go.ChangeShapes Go.WideShapes Go.ChangeAt Go.RowKit Go.Deep
theorem okNil (w:World) (r:Nat):okOf Ctx.nil w.heap.size false r:=by
  refine ⟨fun hM=>?_,by simp⟩
  obtain ⟨b,y,h1,_,_⟩:=M_iff.1 hM
  simp [Ctx.nil] at h1
theorem cell_lt {w:World} {a:Addr} {v:Value} (h:w.cell? a=some v):a.block < w.heap.size:=by
  rcases Nat.lt_or_ge a.block w.heap.size with hl | hl
  · exact hl
  · have:w.heap[a.block]?=none:=by simp [hl]
    simp [World.cell?,this] at h
end Go.HL
end
section
namespace Go.HL
open Go.ChangeShapes Go.WideShapes Go.ChangeAt Go.RowKit Go.Deep
theorem arg_ints_ok {H:Type} {enc:TypeId × Value → H} {P:Program} {W:World} {base:Nat} {t q:TypeId} {v:Value} {d:DataW H} {ps:List MemPlace} (ht:P.underlying t=some (.slice q)) (hq:P.underlying q=some (.int .i64)) (cq:P.cellsOf q=1)
    (hval:Value.okWide P W .any base t v) (hd:DataW.Trod enc P W 0 (fun _=>true) true t v d ps):∃ l:List Int,V W (okOf Ctx.nil W.heap.size) Ctx.nil (.imm .arg 1 (l.map encI)) v:=by
  obtain ⟨a,len,cap,rfl⟩:=okWide_slice ht hval
  obtain ⟨fuel,hf⟩:=hd
  rcases open_slice ht hf with ⟨h0,_⟩ | ⟨a',len',cap',m,n,D,Pl,h0,hb,hl,hm,hmm,hx,hel⟩
  · simp [Value.cells] at h0
    obtain ⟨rfl,rfl,rfl⟩:=h0
    exact ⟨[],.imm .arg 1 [] none 0 (fun _=>.bool false) (by simp) (by simp) (by simp) (by simp) (by simp) (by simp)⟩
  · simp [Value.cells] at h0
    obtain ⟨rfl,rfl,rfl⟩:=h0
    have hlm:len ≤ m:=by rw [hmm]; split <;> omega
    have each:∀ i,i < len → ∃ z:Int,W.cell? (a'.add i)=some (.int .i64 z):=by
      intro i hi
      obtain ⟨cs',h1,h2⟩:=hel i (by omega)
      rw [cq] at h1
      obtain ⟨_,hlen,hcell⟩:=World.cells?_some h1
      match cs',hlen with
      | [v0],_ =>
        obtain ⟨z0,e0,_,_⟩:=DataW.trod_int hq h2
        simp at e0
        subst e0
        have c0:=hcell 0 (by omega)
        rw [add_add] at c0
        exact ⟨z0,by simpa using c0⟩
    obtain ⟨f,hf⟩:=choose_lt each
    refine ⟨(List.range len).map f,?_⟩
    have hlen:(((List.range len).map f).map encI).length=len:=by simp
    have key:=V.imm (w:=W) (ok:=okOf Ctx.nil W.heap.size) (c:=Ctx.nil) .arg 1 (((List.range len).map f).map encI) (some a') cap (fun j=>.int .i64 (f j))
      (by rw [hlen]; exact hl) (by simp) ?_ ?_ ?_ ?_
    · rw [hlen] at key; exact key
    · intro hne
      have h0:0 < len:=by
        rcases Nat.eq_zero_or_pos len with h | h
        · subst h; simp at hne
        · exact h
      obtain ⟨b,off,spot⟩:=a'
      have hspot:spot=none:=by simpa [Addr.add] using World.cell?_spot (hf 0 h0)
      subst hspot
      refine ⟨b,off,rfl,by simpa [Addr.add] using cell_lt (hf 0 h0),okNil W b,fun j hj=>?_⟩
      rw [hlen] at hj
      have c0:=hf j (by omega)
      rw [add_plain] at c0
      exact c0
    · intro v hv
      obtain ⟨p,_,rfl⟩:=List.mem_map.1 hv
      rfl
    · intro v hv
      obtain ⟨p,_,rfl⟩:=List.mem_map.1 hv
      rfl
    · intro i v j x hi hj
      have hil:i < len:=by have:=lt_of_get hi; rw [hlen] at this; exact this
      have:v=encI (f i):=by
        rw [List.getElem?_map,List.getElem?_map,List.getElem?_range hil] at hi
        simpa using hi.symm
      subst this
      have hjx:j < 1:=lt_of_get hj
      match j,hjx,hj with
      | 0,_,hj =>
        simp [encI,cellsOf] at hj
        subst hj
        have e1:i * 1+0=i:=by omega
        rw [e1]
        exact V.int _ _
end Go.HL
end
section
namespace Go.HL
open Go.ChangeShapes Go.WideShapes Go.ChangeAt Go.RowKit Go.Deep
theorem ints_cells {H:Type} {enc:TypeId × Value → H} {P:Program} {W:World} {base fuel:Nat} {sp:Nat → Bool} {held:Bool} {t q:TypeId} {cs:List Value} {x:DataW H × List MemPlace} (ht:P.underlying t=some (.slice q)) (hq:P.underlying q=some (.int .i64)) (cq:P.cellsOf q=1)
    (hf:DataW.trod enc P W base sp held fuel t cs=some x):∃ (l:List Int) (v:Value),cs=[v]∧V W (okOf Ctx.nil W.heap.size) Ctx.nil (.imm .arg 1 (l.map encI)) v:=by
  rcases open_slice ht hf with ⟨h0,_⟩ | ⟨a',len,cap,m,n,D,Pl,h0,hb,hl,hm,hmm,hx,hel⟩
  · exact ⟨[],_,h0,.imm .arg 1 [] none 0 (fun _=>.bool false) (by simp) (by simp) (by simp) (by simp) (by simp) (by simp)⟩
  · subst h0
    have hlm:len ≤ m:=by rw [hmm]; split <;> omega
    have each:∀ i,i < len → ∃ z:Int,W.cell? (a'.add i)=some (.int .i64 z):=by
      intro i hi
      obtain ⟨cs',h1,h2⟩:=hel i (by omega)
      rw [cq] at h1
      obtain ⟨_,hlen,hcell⟩:=World.cells?_some h1
      match cs',hlen with
      | [v0],_ =>
        obtain ⟨z0,e0,_,_⟩:=DataW.trod_int hq h2
        simp at e0
        subst e0
        have c0:=hcell 0 (by omega)
        rw [add_add] at c0
        exact ⟨z0,by simpa using c0⟩
    obtain ⟨f,hf⟩:=choose_lt each
    refine ⟨(List.range len).map f,_,rfl,?_⟩
    have hlen:(((List.range len).map f).map encI).length=len:=by simp
    have key:=V.imm (w:=W) (ok:=okOf Ctx.nil W.heap.size) (c:=Ctx.nil) .arg 1 (((List.range len).map f).map encI) (some a') cap (fun j=>.int .i64 (f j))
      (by rw [hlen]; exact hl) (by simp) ?_ ?_ ?_ ?_
    · rw [hlen] at key; exact key
    · intro hne
      have h0:0 < len:=by
        rcases Nat.eq_zero_or_pos len with h | h
        · subst h; simp at hne
        · exact h
      obtain ⟨b,off,spot⟩:=a'
      have hspot:spot=none:=by simpa [Addr.add] using World.cell?_spot (hf 0 h0)
      subst hspot
      refine ⟨b,off,rfl,by simpa [Addr.add] using cell_lt (hf 0 h0),okNil W b,fun j hj=>?_⟩
      rw [hlen] at hj
      have c0:=hf j (by omega)
      rw [add_plain] at c0
      exact c0
    · intro v hv
      obtain ⟨p,_,rfl⟩:=List.mem_map.1 hv
      rfl
    · intro v hv
      obtain ⟨p,_,rfl⟩:=List.mem_map.1 hv
      rfl
    · intro i v j x hi hj
      have hil:i < len:=by have:=lt_of_get hi; rw [hlen] at this; exact this
      have:v=encI (f i):=by
        rw [List.getElem?_map,List.getElem?_map,List.getElem?_range hil] at hi
        simpa using hi.symm
      subst this
      have hjx:j < 1:=lt_of_get hj
      match j,hjx,hj with
      | 0,_,hj =>
        simp [encI,cellsOf] at hj
        subst hj
        have e1:i * 1+0=i:=by omega
        rw [e1]
        exact V.int _ _
def encRH (r:List Int):HV:=.imm .arg 1 (r.map encI)
theorem rows_cells {H:Type} {enc:TypeId × Value → H} {P:Program} {W:World} {base fuel:Nat} {sp:Nat → Bool} {held:Bool} {s t q:TypeId} {cs:List Value} {x:DataW H × List MemPlace} (hs:P.underlying s=some (.slice t)) (ct:P.cellsOf t=1) (ht:P.underlying t=some (.slice q)) (hq:P.underlying q=some (.int .i64)) (cq:P.cellsOf q=1)
    (hf:DataW.trod enc P W base sp held fuel s cs=some x):∃ (R:List (List Int)) (v:Value),cs=[v]∧V W (okOf Ctx.nil W.heap.size) Ctx.nil (.imm .arg 1 (R.map encRH)) v:=by
  rcases open_slice hs hf with ⟨h0,_⟩ | ⟨a',len,cap,m,n,D,Pl,h0,hb,hl,hm,hmm,hx,hel⟩
  · exact ⟨[],_,h0,.imm .arg 1 [] none 0 (fun _=>.bool false) (by simp) (by simp) (by simp) (by simp) (by simp) (by simp)⟩
  · subst h0
    have hlm:len ≤ m:=by rw [hmm]; split <;> omega
    have each:∀ i,i < len → ∃ p:List Int × Value,W.cell? (a'.add i)=some p.2∧V W (okOf Ctx.nil W.heap.size) Ctx.nil (encRH p.1) p.2:=by
      intro i hi
      obtain ⟨cs',h1,h2⟩:=hel i (by omega)
      rw [ct,Nat.mul_one] at h1
      obtain ⟨_,hlen,hcell⟩:=World.cells?_some h1
      obtain ⟨l,v,rfl,hV⟩:=ints_cells ht hq cq h2
      have c0:=hcell 0 (by omega)
      rw [add_add] at c0
      exact ⟨(l,v),by simpa using c0,hV⟩
    obtain ⟨f,hf⟩:=choose_lt each
    refine ⟨(List.range len).map fun i=>(f i).1,_,rfl,?_⟩
    have hlen:(((List.range len).map fun i=>(f i).1).map encRH).length=len:=by simp
    have key:=V.imm (w:=W) (ok:=okOf Ctx.nil W.heap.size) (c:=Ctx.nil) .arg 1 (((List.range len).map fun i=>(f i).1).map encRH) (some a') cap (fun j=>(f j).2)
      (by rw [hlen]; exact hl) (by simp) ?_ ?_ ?_ ?_
    · rw [hlen] at key; exact key
    · intro hne
      have h0:0 < len:=by
        rcases Nat.eq_zero_or_pos len with h | h
        · subst h; simp at hne
        · exact h
      obtain ⟨b,off,spot⟩:=a'
      have hspot:spot=none:=by simpa [Addr.add] using World.cell?_spot (hf 0 h0).1
      subst hspot
      refine ⟨b,off,rfl,by simpa [Addr.add] using cell_lt (hf 0 h0).1,okNil W b,fun j hj=>?_⟩
      rw [hlen,Nat.mul_one] at hj
      have c0:=(hf j hj).1
      rw [add_plain] at c0
      exact c0
    · intro v hv
      obtain ⟨p,_,rfl⟩:=List.mem_map.1 hv
      rfl
    · intro v hv
      obtain ⟨p,_,rfl⟩:=List.mem_map.1 hv
      rfl
    · intro i v j x hi hj
      have hil:i < len:=by have:=lt_of_get hi; rw [hlen] at this; exact this
      have:v=encRH (f i).1:=by
        rw [List.getElem?_map,List.getElem?_map,List.getElem?_range hil] at hi
        simpa using hi.symm
      subst this
      have hjx:j < 1:=lt_of_get hj
      obtain rfl:j=0:=by omega
      simp [encRH,cellsOf] at hj
      subst hj
      have e1:i * 1+0=i:=by omega
      rw [e1]
      exact (hf i hil).2
theorem arg_rows_ok {H:Type} {enc:TypeId × Value → H} {P:Program} {W:World} {base:Nat} {s t q:TypeId} {v:Value} {d:DataW H} {ps:List MemPlace} (hs:P.underlying s=some (.slice t)) (ct:P.cellsOf t=1) (ht:P.underlying t=some (.slice q)) (hq:P.underlying q=some (.int .i64)) (cq:P.cellsOf q=1)
    (hval:Value.okWide P W .any base s v) (hd:DataW.Trod enc P W 0 (fun _=>true) true s v d ps):∃ R:List (List Int),V W (okOf Ctx.nil W.heap.size) Ctx.nil (.imm .arg 1 (R.map encRH)) v:=by
  obtain ⟨a,len,cap,rfl⟩:=okWide_slice hs hval
  obtain ⟨fuel,hf⟩:=hd
  obtain ⟨R,v,hv,h⟩:=rows_cells hs ct ht hq cq hf
  simp [Value.cells] at hv
  subst hv
  exact ⟨R,h⟩
end Go.HL
end
