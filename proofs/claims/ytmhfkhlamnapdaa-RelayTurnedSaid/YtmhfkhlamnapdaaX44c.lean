/- A part of the proof: X44c. -/
import Derived.Test.YtmhfkhlamnapdaaX38c
import Derived.Test.YtmhfkhlamnapdaaX44
set_option linter.unusedVariables false
set_option linter.unusedSimpArgs false
open Go Go.HL
namespace Go.Proofs.Ytmhfkhlamnapdaa
abbrev bF (l : List Bool) : Blk := .arr 1 (l.map .bool) true 0
def encIs (l : List Int) : HV := .imm .own 1 (l.map encI)
abbrev bIs (l : List (List Int)) : Blk := .arr 1 (l.map encIs) true 0
theorem u43f : Try.prog.underlying 43 = some (.slice 4) := by kernel_rfl
theorem u55f : Try.prog.underlying 55 = some (.slice 24) := by kernel_rfl
theorem info4f : (Try.prog.info? 4).map (fun i => (i.size, i.bytes, i.zero.map ofConst)) = some (1, 1, some (.bool false)) := by kernel_rfl
theorem info24 : (Try.prog.info? 24).map (fun i => (i.size, i.bytes, i.zero.map ofConst)) = some (1, 24, some (.imm .lit 0 [])) := by kernel_rfl
theorem bitF {l : List Bool} {i : Nat} (h : i < l.length) : (l.map HV.bool)[i]? = some (.bool (bitAt l i)) := by
  rw [List.getElem?_map]
  have : l[i]? = some l[i] := List.getElem?_eq_getElem h
  simp [bitAt, this]
theorem ints_bnd : ∀ (l : List Int), bndL (l.map encI) = 0
  | [] => rfl
  | b :: r => by simp only [List.map_cons, bndL, encI, bnd, ints_bnd r]; rfl
theorem ints_res : ∀ (l : List Int), resPL (l.map encI) = true
  | [] => rfl
  | b :: r => by simp only [List.map_cons, resPL, encI, resP, ints_res r]; rfl
theorem at_lt {m i x : Nat} (hi : i < m) (hx : x < m) : i * m + x < m * m := by
  have : i * m + m ≤ m * m := by rw [← Nat.succ_mul]; exact Nat.mul_le_mul_right m hi
  omega
theorem at_wrap {m x : Nat} {a : Int} (hm : m ≤ 20) (h0 : 0 ≤ a) (ha : a.toNat < m) (hx : x < m) : IntKind.i64.wrap (IntKind.i64.wrap (a * (m : Int)) + (x : Int)) = ((a.toNat * m + x : Nat) : Int) := by
  have h1 := Nat.lt_of_lt_of_le (at_lt ha hx) (Nat.mul_le_mul hm hm)
  have h2 : a * (m : Int) = ((a.toNat * m : Nat) : Int) := by rw [Int.natCast_mul, Int.toNat_of_nonneg h0]
  rw [h2]
  generalize a.toNat * m = q at h1
  have e : IntKind.i64.wrap (q : Int) = q := by rw [wrapI64]; omega
  rw [e, wrapI64]; omega

def rDiag (m : Nat) : Nat → Nat → List Bool → List Bool
  | _, 0, F => F
  | j, d + 1, F => rDiag m (j + 1) d (F.set (j * m + j) true)
def rIn (m a b : Nat) : Nat → Nat → List Bool → List Bool
  | _, 0, F => F
  | x, d + 1, F => rIn m a b (x + 1) d ((F.set (a * m + x) (bitAt F (a * m + x) || bitAt F (b * m + x))).set (b * m + x) (bitAt F (a * m + x) || bitAt F (b * m + x)))
def rGo (m : Nat) : List (Int × Int) → List Bool → List Bool
  | [], F => F
  | p :: l, F => rGo m l (rIn m p.1.toNat p.2.toNat 0 m F)
def rRow (m j : Nat) (F : List Bool) : Nat → Nat → List Int → List Int
  | _, 0, r => r
  | x, d + 1, r => rRow m j F (x + 1) d (if bitAt F (j * m + x) then r ++ [(x : Int)] else r)
def rRows (m : Nat) (F : List Bool) : Nat → Nat → List (List Int) → List (List Int)
  | _, 0, L => L
  | j, d + 1, L => rRows m F (j + 1) d (L ++ [rRow m j F 0 m []])
def rKnown (m : Nat) (l : List (Int × Int)) : List (List Int) := rRows m (rGo m l (rDiag m 0 m (List.replicate (m * m) false))) 0 m []

theorem rDiag_length (m : Nat) : ∀ (d j : Nat) (F : List Bool), (rDiag m j d F).length = F.length
  | 0, _, _ => rfl
  | d + 1, j, F => by rw [rDiag, rDiag_length m d]; simp
theorem rIn_length (m a b : Nat) : ∀ (d x : Nat) (F : List Bool), (rIn m a b x d F).length = F.length
  | 0, _, _ => rfl
  | d + 1, x, F => by rw [rIn, rIn_length m a b d]; simp
theorem rGo_length (m : Nat) : ∀ (l : List (Int × Int)) (F : List Bool), (rGo m l F).length = F.length
  | [], _ => rfl
  | p :: l, F => by rw [rGo, rGo_length m l, rIn_length]
theorem rRow_length (m j : Nat) (F : List Bool) : ∀ (d x : Nat) (r : List Int), r.length ≤ x → (rRow m j F x d r).length ≤ x + d
  | 0, _, _, h => h
  | d + 1, x, r, h => by
    rw [rRow]
    have := rRow_length m j F d (x + 1) (if bitAt F (j * m + x) then r ++ [(x : Int)] else r) (by
      split
      · simp only [List.length_append, List.length_singleton]; omega
      · omega)
    omega

abbrev qE (m : Nat) (lc : List HV) (v6 v7 v8 v9 v10 v12 v13 v14 v15 : HV) : Env := env44 (.int .i64 (m : Int)) (.imm .arg 2 lc) (.imm .lit 1 []) (.sl 0 0 (m * m) (some (m * m)) (m * m) 1) v6 v7 v8 v9 v10 .undef v12 v13 v14 v15

theorem fIdx {m x : Nat} {a : Int} (hm : m ≤ 20) (h0 : 0 ≤ a) (ha : a.toNat < m) (hx : x < m) :
    idxV Try.prog 43 (.sl 0 0 (m * m) (some (m * m)) (m * m) 1) (.int .i64 (IntKind.i64.wrap (IntKind.i64.wrap (a * (m : Int)) + (x : Int)))) = some (.ptr 0 (IntKind.i64.wrap (IntKind.i64.wrap (a * (m : Int)) + (x : Int))).toNat 0 (m * m)) := by
  rw [at_wrap hm h0 ha hx]
  exact idx_sl u43f z4 (by omega) (by rw [Int.toNat_natCast]; exact at_lt ha hx)
theorem fLoad {m x : Nat} {a : Int} {F : List Bool} {H : Heap} (hF : F.length = m * m) (hm : m ≤ 20) (h0 : 0 ≤ a) (ha : a.toNat < m) (hx : x < m) :
    loadV Try.prog (bF F :: H) 4 (.ptr 0 (IntKind.i64.wrap (IntKind.i64.wrap (a * (m : Int)) + (x : Int))).toNat 0 (m * m)) = some (.bool (bitAt F (a.toNat * m + x))) := by
  rw [at_wrap hm h0 ha hx, Int.toNat_natCast]
  exact load_elem (b := 0) rfl (by rw [List.length_map]; exact hF.symm) (bitF (by rw [hF]; exact at_lt ha hx)) rfl a4 i4
theorem fStore {m x : Nat} {a : Int} {F : List Bool} {H : Heap} {v : Bool} (hF : F.length = m * m) (hm : m ≤ 20) (h0 : 0 ≤ a) (ha : a.toNat < m) (hx : x < m) :
    storeV Try.prog (bF F :: H) 4 (.ptr 0 (IntKind.i64.wrap (IntKind.i64.wrap (a * (m : Int)) + (x : Int))).toNat 0 (m * m)) (.bool v) = some (bF (F.set (a.toNat * m + x) v) :: H) := by
  rw [at_wrap hm h0 ha hx, Int.toNat_natCast, store_elem (H := bF F :: H) (b := 0) rfl (by rw [List.length_map]; exact hF.symm) (bitF (by rw [hF]; exact at_lt ha hx)) rfl (by simp) z4 rfl rfl rfl]
  simp [List.map_set]

theorem refk_l1 (m : Nat) (hm : m ≤ 20) (lc : List HV) : ∀ (d j : Nat) (F : List Bool), j + d = m → F.length = m * m →
    RunsTo Try.prog pol 44 (sub [1, 1, 0, 1, 0] B44) (qE m lc (.int .i64 (j : Int)) .undef .undef .undef .undef .undef .undef .undef .undef) [bF F]
      (.exit 0) (pol.keys 44) (qE m lc (.int .i64 (m : Int)) .undef .undef .undef .undef .undef .undef .undef .undef) [bF (rDiag m j d F)] := by
  intro d
  induction d with
  | zero =>
    intro j F hj hF
    have hj : j = m := by omega
    subst hj
    exact RunsTo.loop_out (q_l1_1 (j : Int) lc (j * j) (F.map .bool) j (by omega)) (by simp) (by kernel_rfl) (by kernel_rfl)
  | succ d ih =>
    intro j F hj hF
    have h := ih (j + 1) (F.set (j * m + j) true) (by omega) (by simp [hF])
    have s1 := q_l1_0 (m : Int) lc (m * m) (F.map .bool) j ((F.set (j * m + j) true).map .bool) (by omega) (fIdx hm (by omega) (by omega) (by omega)) (by
      have := fStore (m := m) (x := j) (a := (j : Int)) (F := F) (H := []) (v := true) hF hm (by omega) (by omega) (by omega)
      rw [Int.toNat_natCast] at this
      exact this)
    rw [wrap_succ (by omega)] at s1
    exact RunsTo.loop s1 (by kernel_rfl) (gc_same (by simp)) h rfl (by kernel_rfl) (by kernel_rfl)

theorem refk_l3 (m : Nat) (hm : m ≤ 20) (lc : List HV) (j : Nat) (a b : Int) (ha0 : 0 ≤ a) (ha : a.toNat < m) (hb0 : 0 ≤ b) (hb : b.toNat < m) : ∀ (d x : Nat) (F : List Bool), x + d = m → F.length = m * m →
    RunsTo Try.prog pol 44 (sub [1, 1, 1, 0, 1, 0, 0, 1, 0, 0, 1, 1, 0] B44) (qE m lc .undef (.int .i64 (j : Int)) (.int .i64 a) (.int .i64 b) (.int .i64 (x : Int)) .undef .undef .undef .undef) [bF F]
      (.exit 4) (pol.keys 44) (qE m lc .undef (.int .i64 (j : Int)) (.int .i64 a) (.int .i64 b) (.int .i64 (m : Int)) .undef .undef .undef .undef) [bF (rIn m a.toNat b.toNat x d F)] := by
  intro d
  induction d with
  | zero =>
    intro x F hx hF
    have hx : x = m := by omega
    subst hx
    exact RunsTo.loop_out (q_l3_3 (x : Int) lc (x * x) (F.map .bool) j a b x (by omega)) (by simp) (by kernel_rfl) (by kernel_rfl)
  | succ d ih =>
    intro x F hx hF
    have hxm : x < m := by omega
    have h := ih (x + 1) ((F.set (a.toNat * m + x) (bitAt F (a.toNat * m + x) || bitAt F (b.toNat * m + x))).set (b.toNat * m + x) (bitAt F (a.toNat * m + x) || bitAt F (b.toNat * m + x))) (by omega) (by simpa using hF)
    have ia := fIdx (m := m) (x := x) (a := a) hm ha0 ha hxm
    have ib := fIdx (m := m) (x := x) (a := b) hm hb0 hb hxm
    have la := fLoad (m := m) (x := x) (a := a) (F := F) (H := []) hF hm ha0 ha hxm
    have lb := fLoad (m := m) (x := x) (a := b) (F := F) (H := []) hF hm hb0 hb hxm
    have sa : ∀ v, _ := fun v => fStore (m := m) (x := x) (a := a) (F := F) (H := []) (v := v) hF hm ha0 ha hxm
    have sb : ∀ v, _ := fun v => fStore (m := m) (x := x) (a := b) (F := F.set (a.toNat * m + x) v) (H := []) (v := v) (by simpa using hF) hm hb0 hb hxm
    show RunsTo _ _ _ _ _ _ _ _ _ [bF (rIn m a.toNat b.toNat (x + 1) d ((F.set (a.toNat * m + x) (bitAt F (a.toNat * m + x) || bitAt F (b.toNat * m + x))).set (b.toNat * m + x) (bitAt F (a.toNat * m + x) || bitAt F (b.toNat * m + x))))]
    cases hfa : bitAt F (a.toNat * m + x) with
    | true =>
      rw [hfa] at la
      simp only [hfa, Bool.true_or] at h ⊢
      have s1 := q_l3_0 (m : Int) lc (m * m) (F.map .bool) j a b x _ _ (by omega) ia la ia (sa true) ib (sb true)
      rw [wrap_succ (by omega)] at s1
      exact RunsTo.loop s1 (by kernel_rfl) (gc_same (by simp)) h rfl (by kernel_rfl) (by kernel_rfl)
    | false =>
      rw [hfa] at la
      cases hfb : bitAt F (b.toNat * m + x) with
      | true =>
        rw [hfb] at lb
        simp only [hfa, hfb, Bool.or_true] at h ⊢
        have s1 := q_l3_1 (m : Int) lc (m * m) (F.map .bool) j a b x _ _ (by omega) ia la ib lb ia (sa true) ib (sb true)
        rw [wrap_succ (by omega)] at s1
        exact RunsTo.loop s1 (by kernel_rfl) (gc_same (by simp)) h rfl (by kernel_rfl) (by kernel_rfl)
      | false =>
        rw [hfb] at lb
        simp only [hfa, hfb, Bool.or_false] at h ⊢
        have s1 := q_l3_2 (m : Int) lc (m * m) (F.map .bool) j a b x _ _ (by omega) ia la ib lb ia (sa false) ib (sb false)
        rw [wrap_succ (by omega)] at s1
        exact RunsTo.loop s1 (by kernel_rfl) (gc_same (by simp)) h rfl (by kernel_rfl) (by kernel_rfl)

def inB (m : Nat) (p : Int × Int) : Prop := (0 ≤ p.1 ∧ p.1.toNat < m) ∧ (0 ≤ p.2 ∧ p.2.toNat < m)

theorem refk_l2 (m : Nat) (hm : m ≤ 20) (l : List (Int × Int)) (hl : l.length ≤ 1000) (hv : ∀ p ∈ l, inB m p) : ∀ (d j : Nat) (F : List Bool), j + d = l.length → F.length = m * m →
    RunsTo Try.prog pol 44 (sub [1, 1, 1, 0, 1, 0] B44) (qE m (l.map encP) .undef (.int .i64 (j : Int)) .undef .undef .undef .undef .undef .undef .undef) [bF F]
      (.exit 2) (pol.keys 44) (qE m (l.map encP) .undef (.int .i64 (l.length : Int)) .undef .undef .undef .undef .undef .undef .undef) [bF (rGo m (l.drop j) F)] := by
  intro d
  induction d with
  | zero =>
    intro j F hj hF
    have hj : j = l.length := by omega
    subst hj
    rw [List.drop_length]
    have s1 := q_e_1 (m : Int) (l.map encP) (m * m) (F.map .bool) l.length (by simp)
    exact RunsTo.loop_out (RunsTo.seq_out s1 (by simp) (c := sub [1, 1, 1, 0, 1, 0, 0] B44) (b := sub [1, 1, 1, 0, 1, 0, 0, 1] B44) (by kernel_rfl)) (by simp) (by kernel_rfl) (by kernel_rfl)
  | succ d ih =>
    intro j F hj hF
    have hjl : j < l.length := by omega
    obtain ⟨p, hp⟩ : ∃ p, l[j]? = some p := ⟨_, List.getElem?_eq_getElem hjl⟩
    have hd : l.drop j = p :: l.drop (j + 1) := by
      rw [List.drop_eq_getElem_cons hjl]
      rw [List.getElem?_eq_getElem hjl] at hp
      cases hp
      rfl
    obtain ⟨v1, v2⟩ := hv p (List.mem_of_getElem? hp)
    obtain ⟨a, b⟩ := p
    rw [hd, rGo]
    have hpk : (l.map encP)[j]? = some (encP (a, b)) := by rw [List.getElem?_map, hp]; rfl
    have g1 : idxV Try.prog 22 (.imm .arg 2 (l.map encP)) (.int .i64 (j : Int)) = some (.vptr (.agg [.int .i64 a, .int .i64 b])) := idx_imm u22 z33 (by omega) (by rw [Int.toNat_natCast]; exact hpk)
    have s1 := q_e_0 (m : Int) (l.map encP) (m * m) (F.map .bool) j (by simp; omega)
    have s2 := q_f_0 (m : Int) (l.map encP) (m * m) (F.map .bool) j a b a b g1 g1
    have s3 := q_g_0 (m : Int) (l.map encP) (m * m) (F.map .bool) j a b
    have s4 := refk_l3 m hm (l.map encP) j a b v1.1 v1.2 v2.1 v2.2 m 0 F (by omega) hF
    have s5 := q_h_0 (m : Int) (l.map encP) (m * m) ((rIn m a.toNat b.toNat 0 m F).map .bool) j a b m
    rw [wrap_succ (by omega)] at s5
    have h := ih (j + 1) (rIn m a.toNat b.toNat 0 m F) (by omega) (by rw [rIn_length]; exact hF)
    have t1 := RunsTo.seq s3 (RunsTo.block_exit (c := sub [1, 1, 1, 0, 1, 0, 0, 1, 0, 0, 1, 1] B44) s4 (by kernel_rfl)) (c := sub [1, 1, 1, 0, 1, 0, 0, 1, 0, 0, 1] B44) (by kernel_rfl) (by kernel_rfl)
    have t2 := RunsTo.seq s2 t1 (c := sub [1, 1, 1, 0, 1, 0, 0, 1, 0, 0] B44) (by kernel_rfl) (by kernel_rfl)
    have t3 := RunsTo.block_normal t2 (c := sub [1, 1, 1, 0, 1, 0, 0, 1, 0] B44) (i := 3) (by kernel_rfl)
    have t4 := RunsTo.seq t3 s5 (c := sub [1, 1, 1, 0, 1, 0, 0, 1] B44) (by kernel_rfl) (by kernel_rfl)
    have t5 := RunsTo.seq s1 t4 (c := sub [1, 1, 1, 0, 1, 0, 0] B44) (by kernel_rfl) (by kernel_rfl)
    exact RunsTo.loop t5 (by kernel_rfl) (gc_same (by simp)) h rfl (by kernel_rfl) (by kernel_rfl)

theorem refk_l5 (m : Nat) (hm : m ≤ 20) (lc : List HV) (F : List Bool) (hF : F.length = m * m) (rws : List HV) (R j : Nat) (hj : j < m) : ∀ (d x : Nat) (r : List Int), x + d = m → r.length ≤ x →
    RunsTo Try.prog pol 44 (sub [1, 1, 1, 1, 1, 0, 1, 0, 0, 1, 0, 0, 1, 0, 1, 0] B44) (qE m lc .undef .undef .undef .undef .undef (.sl 1 0 R none R 1) (.int .i64 (j : Int)) (.sl 2 0 r.length none r.length 1) (.int .i64 (x : Int))) [bF F, .arr 1 rws true 0, .arr 1 (r.map encI) true 0]
      (.exit 8) (pol.keys 44) (qE m lc .undef .undef .undef .undef .undef (.sl 1 0 R none R 1) (.int .i64 (j : Int)) (.sl 2 0 (rRow m j F x d r).length none (rRow m j F x d r).length 1) (.int .i64 (m : Int))) [bF F, .arr 1 rws true 0, .arr 1 ((rRow m j F x d r).map encI) true 0] := by
  intro d
  induction d with
  | zero =>
    intro x r hx hr
    have hx : x = m := by omega
    subst hx
    exact RunsTo.loop_out (q_l5_2 (x : Int) lc (x * x) (F.map .bool) rws R j (r.map encI) r.length x (by omega)) (by simp) (by kernel_rfl) (by kernel_rfl)
  | succ d ih =>
    intro x r hx hr
    have hxm : x < m := by omega
    have ij := fIdx (m := m) (x := x) (a := (j : Int)) hm (by omega) (by omega) hxm
    have lj := fLoad (m := m) (x := x) (a := (j : Int)) (F := F) (H := [.arr 1 rws true 0, .arr 1 (r.map encI) true 0]) hF hm (by omega) (by omega) hxm
    rw [Int.toNat_natCast (n := j)] at lj
    have h := ih (x + 1) (if bitAt F (j * m + x) then r ++ [(x : Int)] else r) (by omega) (by
      split
      · simp only [List.length_append, List.length_singleton]; omega
      · omega)
    show RunsTo _ _ _ _ _ _ _ _ (qE m lc .undef .undef .undef .undef .undef (.sl 1 0 R none R 1) (.int .i64 (j : Int)) (.sl 2 0 (rRow m j F (x + 1) d (if bitAt F (j * m + x) then r ++ [(x : Int)] else r)).length none (rRow m j F (x + 1) d (if bitAt F (j * m + x) then r ++ [(x : Int)] else r)).length 1) (.int .i64 (m : Int))) [bF F, .arr 1 rws true 0, .arr 1 ((rRow m j F (x + 1) d (if bitAt F (j * m + x) then r ++ [(x : Int)] else r)).map encI) true 0]
    cases hb : bitAt F (j * m + x) with
    | true =>
      rw [hb] at lj
      simp only [hb, if_true] at h ⊢
      have hap := app_sl (H := [bF F, .arr 1 rws true 0, .arr 1 (r.map encI) true 0]) (k := 1) (bytes := 8) (b := 2) (n := r.length) (mx := 0) (els := r.map encI) (xs := [encI (x : Int)]) rfl (by simp) (by simp) (by simp only [List.length_singleton, roomMax]; omega) rfl
      have s1 := q_l5_0 (m : Int) lc (m * m) (F.map .bool) rws R j (r.map encI) r.length x (by omega) ij lj hap
      rw [wrap_succ (by omega)] at s1
      have e1 : (r ++ [(x : Int)]).map encI = r.map encI ++ [encI (x : Int)] := by simp
      have e2 : (r ++ [(x : Int)]).length = r.length + 1 := by simp
      rw [e1, e2] at h
      exact RunsTo.loop s1 (by kernel_rfl) (gc_same (by simp)) h rfl (by kernel_rfl) (by kernel_rfl)
    | false =>
      rw [hb] at lj
      simp only [hb, Bool.false_eq_true, if_false] at h ⊢
      have s1 := q_l5_1 (m : Int) lc (m * m) (F.map .bool) rws R j (r.map encI) r.length x (by omega) ij lj
      rw [wrap_succ (by omega)] at s1
      exact RunsTo.loop s1 (by kernel_rfl) (gc_same (by simp)) h rfl (by kernel_rfl) (by kernel_rfl)

/-- As lit_seal, for an empty slice too. -/
theorem lit_seal' {P : Program} {H : Heap} {t e k b p mx bt : Nat} {zv : HV} {els : List HV} (ht : P.underlying t = some (.slice e)) (hI : (P.info? e).map (fun i => (i.size, i.bytes, i.zero.map ofConst)) = some (1, bt, some zv)) (hc : (cellsOf zv).all cellV = true) (hs : (cellsOf zv).length = 1)
    (hb : H[b]? = some (.arr k els true mx)) (hp : els.length = p) (hr : resPL els = true) :
    ∃ w, litV P true false t 1 [(0, .sl b 0 p none p k)] H = some (.imm .lit 1 [.imm .own k els], H.set b (.arr k els w mx)) := by
  by_cases h0 : p = 0
  · subst h0
    have hn : els = [] := List.length_eq_zero_iff.1 hp
    subst hn
    refine ⟨true, ?_⟩
    have hH : H.set b (.arr k [] true mx) = H := by
      apply List.ext_getElem?
      intro i
      rw [List.getElem?_set]
      split
      · rename_i hi
        subst hi
        split
        · exact hb.symm
        · rename_i hlt; exact absurd (lt_of_get hb) hlt
      · rfl
    rw [hH]
    cases hi : P.info? e with
    | none => rw [hi] at hI; cases hI
    | some i =>
      rw [hi] at hI
      simp only [Option.map_some, Option.some.injEq, Prod.mk.injEq] at hI
      obtain ⟨h1, rfl, hz⟩ := hI
      cases hz2 : i.zero with
      | none => rw [hz2] at hz; cases hz
      | some z =>
        rw [hz2] at hz
        simp only [Option.map_some, Option.some.injEq] at hz
        subst hz
        have hse : seals [.sl b 0 0 none 0 k] H = some ([.imm .own k []], H) := by simp only [seals, seal1, if_true]
        simp only [litV, ht, hi, hz2, if_true, List.map_cons, List.map_nil, hse, h1]
        rw [if_pos ⟨by omega, hs, hc, by omega, by simp [cellsOf, cellV], by simp⟩]
        simp [bndL, bnd]
  · exact ⟨false, lit_seal ht hI hc hs hb hp h0 hr⟩

theorem refk_l4 (m : Nat) (hm : m ≤ 20) (lc : List HV) (F : List Bool) (hF : F.length = m * m) : ∀ (d j : Nat) (L : List (List Int)), j + d = m → L.length = j →
    RunsTo Try.prog pol 44 (sub [1, 1, 1, 1, 1, 0, 1, 0] B44) (qE m lc .undef .undef .undef .undef .undef (.sl 1 0 L.length none L.length 1) (.int .i64 (j : Int)) .undef .undef) [bF F, bIs L]
      (.exit 6) (pol.keys 44) (qE m lc .undef .undef .undef .undef .undef (.sl 1 0 (rRows m F j d L).length none (rRows m F j d L).length 1) (.int .i64 (m : Int)) .undef .undef) [bF F, bIs (rRows m F j d L)] := by
  intro d
  induction d with
  | zero =>
    intro j L hj hL
    have hj : j = m := by omega
    subst hj
    have s1 := q_k_1 (j : Int) lc (j * j) (F.map .bool) (L.map encIs) L.length j (by omega)
    exact RunsTo.loop_out (RunsTo.seq_out s1 (by simp) (c := sub [1, 1, 1, 1, 1, 0, 1, 0, 0] B44) (b := sub [1, 1, 1, 1, 1, 0, 1, 0, 0, 1] B44) (by kernel_rfl)) (by simp) (by kernel_rfl) (by kernel_rfl)
  | succ d ih =>
    intro j L hj hL
    have hjm : j < m := by omega
    have h := ih (j + 1) (L ++ [rRow m j F 0 m []]) (by omega) (by simp [hL])
    rw [show rRows m F j (d + 1) L = rRows m F (j + 1) d (L ++ [rRow m j F 0 m []]) from rfl]
    have s1 := q_k_0 (m : Int) lc (m * m) (F.map .bool) (L.map encIs) L.length j (by omega)
    have s2 := q_m_0 (m : Int) lc (m * m) (F.map .bool) (L.map encIs) L.length j
    have s3 := q_n_0 (m : Int) lc (m * m) (F.map .bool) (L.map encIs) L.length j [] 0
    have s4 := refk_l5 m hm lc F hF (L.map encIs) L.length j hjm m 0 [] (by omega) (by simp)
    have hrl := rRow_length m j F m 0 [] (by simp)
    generalize rRow m j F 0 m [] = row at h s4 hrl ⊢
    obtain ⟨w, hlit⟩ := lit_seal' (P := Try.prog) (H := [bF F, bIs L, .arr 1 (row.map encI) true 0]) (t := 55) (b := 2) (p := row.length) u55f info24 rfl rfl rfl (by simp) (ints_res row)
    have hap := app_sl (H := [bF F, bIs L, .arr 1 (row.map encI) w 0]) (k := 1) (bytes := 24) (b := 1) (n := L.length) (mx := 0) (els := L.map encIs) (xs := [.imm .own 1 (row.map encI)]) rfl (by simp) (by simp) (by simp only [List.length_singleton, roomMax]; omega) rfl
    have s5 := q_o_0 (m : Int) lc (m * m) (F.map .bool) (L.map encIs) L.length j (row.map encI) row.length m w hlit hap
    have s6 := q_p_0 (m : Int) lc (m * m) (F.map .bool) (L.map encIs ++ [.imm .own 1 (row.map encI)]) (L.length + 1) j (row.map encI) row.length m w
    rw [wrap_succ (by omega)] at s6
    have e3 : (L ++ [row]).length = L.length + 1 := by simp
    have e4 : (L ++ [row]).map encIs = L.map encIs ++ [.imm .own 1 (row.map encI)] := by simp [encIs]
    unfold bIs at h
    rw [e3, e4] at h
    have t1 := RunsTo.seq s3 (RunsTo.block_exit (c := sub [1, 1, 1, 1, 1, 0, 1, 0, 0, 1, 0, 0, 1, 0, 1] B44) s4 (by kernel_rfl)) (c := sub [1, 1, 1, 1, 1, 0, 1, 0, 0, 1, 0, 0, 1, 0] B44) (by kernel_rfl) (by kernel_rfl)
    have t2 := RunsTo.seq t1 s5 (c := sub [1, 1, 1, 1, 1, 0, 1, 0, 0, 1, 0, 0, 1] B44) (by kernel_rfl) (by kernel_rfl)
    have t3 := RunsTo.seq s2 t2 (c := sub [1, 1, 1, 1, 1, 0, 1, 0, 0, 1, 0, 0] B44) (by kernel_rfl) (by kernel_rfl)
    have t4 := RunsTo.block_normal t3 (c := sub [1, 1, 1, 1, 1, 0, 1, 0, 0, 1, 0] B44) (i := 7) (by kernel_rfl)
    have t5 := RunsTo.seq t4 s6 (c := sub [1, 1, 1, 1, 1, 0, 1, 0, 0, 1] B44) (by kernel_rfl) (by kernel_rfl)
    have t6 := RunsTo.seq s1 t5 (c := sub [1, 1, 1, 1, 1, 0, 1, 0, 0] B44) (by kernel_rfl) (by kernel_rfl)
    exact RunsTo.loop t6 (by kernel_rfl) (by kernel_rfl) h rfl (by kernel_rfl) (by kernel_rfl)

def refk44 : List HV → Option HV
  | [.int .i64 n, .imm .arg 2 lc] =>
    match mapO decP lc with
    | some l => if ((1 ≤ n ∧ n ≤ 20) ∧ l.length ≤ 1000) ∧ l.all (validB n) = true then some (.own 1 ((rKnown n.toNat l).map encIs)) else none
    | none => none
  | _ => none
theorem res44 : Try.f44.results.toList = [.tmp 4] := by kernel_rfl
theorem frz_ints {H : Heap} {no : List Nat} (l : List Int) : frz H no 4 (encIs l) = some (encIs l) := by
  have : resP (encIs l) = true := by simp only [encIs, resP, ints_res]; rfl
  show (if resP (encIs l) then some (encIs l) else none) = _
  rw [this]; rfl
theorem refk_ok : PrimOk Try.prog 44 refk44 := by
  refine primOk_pure (pol := pol) (fn := Try.f44) (cd := B44) follows_mixed sound (by kernel_rfl) (by kernel_rfl) (fnok pol.prim _ _ (by kernel_rfl)) (by kernel_rfl) ?_
  intro args res h
  unfold refk44 at h
  split at h
  · rename_i n lc
    split at h
    · rename_i l hl
      split at h
      · rename_i hg
        cases h
        rw [mapO_inv decP_inv hl]
        obtain ⟨⟨hn, hlen⟩, hv⟩ := hg
        obtain ⟨m, rfl⟩ : ∃ m : Nat, n = (m : Int) := ⟨n.toNat, by omega⟩
        have hm : m ≤ 20 := by omega
        have hmm : m * m ≤ 400 := Nat.mul_le_mul hm hm
        have hvi : ∀ p ∈ l, inB m p := fun p hp => by
          have := List.all_eq_true.1 hv p hp
          rw [validB, decide_eq_true_eq] at this
          exact ⟨⟨this.1.1, by omega⟩, ⟨this.2.1.1, by omega⟩⟩
        have hwmm : IntKind.i64.wrap ((m : Int) * (m : Int)) = ((m * m : Nat) : Int) := by rw [← Int.natCast_mul, wrapI64]; omega
        have a1 := q_a_0 (m : Int) (l.map encP)
        have b1 := q_b_0 (m : Int) (l.map encP) (m * m) (by
          have := makeV_ok (P := Try.prog) (H := []) (t := 43) (n := ((m * m : Nat) : Int)) u43f info4f rfl rfl (by omega) (by omega) (by rw [show roomMax = 70368744177664 from rfl]; omega)
          rw [hwmm]
          rw [Int.toNat_natCast] at this
          exact this)
        have hrep : List.replicate (m * m) (HV.bool false) = (List.replicate (m * m) false).map HV.bool := by rw [List.map_replicate]
        rw [hrep] at b1
        have c1 := q_c_0 (m : Int) (l.map encP) (m * m) ((List.replicate (m * m) false).map HV.bool)
        have l1 := refk_l1 m hm (l.map encP) m 0 (List.replicate (m * m) false) (by omega) (by simp)
        have hF1 : (rDiag m 0 m (List.replicate (m * m) false)).length = m * m := by rw [rDiag_length]; simp
        have d1 := q_d_0 (m : Int) (l.map encP) (m * m) ((rDiag m 0 m (List.replicate (m * m) false)).map HV.bool) m
        have l2 := refk_l2 m hm l hlen hvi l.length 0 (rDiag m 0 m (List.replicate (m * m) false)) (by omega) hF1
        rw [List.drop_zero] at l2
        have hF2 : (rGo m l (rDiag m 0 m (List.replicate (m * m) false))).length = m * m := by rw [rGo_length]; exact hF1
        have e1 := q_i_0 (m : Int) (l.map encP) (m * m) ((rGo m l (rDiag m 0 m (List.replicate (m * m) false))).map HV.bool) l.length
        have f1 := q_j_0 (m : Int) (l.map encP) (m * m) ((rGo m l (rDiag m 0 m (List.replicate (m * m) false))).map HV.bool) l.length [] 0
        have l4 := refk_l4 m hm (l.map encP) _ hF2 m 0 [] (by omega) rfl
        rw [show rRows m (rGo m l (rDiag m 0 m (List.replicate (m * m) false))) 0 m [] = rKnown m l from rfl] at l4
        have z1 := q_z_0 (m : Int) (l.map encP) (m * m) ((rGo m l (rDiag m 0 m (List.replicate (m * m) false))).map HV.bool) ((rKnown m l).map encIs) (rKnown m l).length m
        have l2' := RunsTo.loop_in (e0 := env44 (.int .i64 (m : Int)) (.imm .arg 2 (l.map encP)) (.imm .lit 1 []) (.sl 0 0 (m * m) (some (m * m)) (m * m) 1) (.int .i64 (m : Int)) (.int .i64 0) .undef .undef .undef .undef .undef .undef .undef .undef) l2 (b := sub [1, 1, 1, 0, 1, 0, 0] B44) (by kernel_rfl) (by kernel_rfl) (by kernel_rfl)
        have l4' := RunsTo.loop_in (e0 := env44 (.int .i64 (m : Int)) (.imm .arg 2 (l.map encP)) (.imm .lit 1 []) (.sl 0 0 (m * m) (some (m * m)) (m * m) 1) .undef (.int .i64 (l.length : Int)) .undef .undef .undef .undef (.sl 1 0 0 none 0 1) (.int .i64 0) .undef .undef) l4 (b := sub [1, 1, 1, 1, 1, 0, 1, 0, 0] B44) (by kernel_rfl) (by kernel_rfl) (by kernel_rfl)
        have t1 := RunsTo.seq f1 (RunsTo.block_exit (c := sub [1, 1, 1, 1, 1, 0, 1] B44) l4' (by kernel_rfl)) (c := sub [1, 1, 1, 1, 1, 0] B44) (by kernel_rfl) (by kernel_rfl)
        have t2 := RunsTo.seq t1 z1 (c := sub [1, 1, 1, 1, 1] B44) (by kernel_rfl) (by kernel_rfl)
        have t3 := RunsTo.seq e1 t2 (c := sub [1, 1, 1, 1] B44) (by kernel_rfl) (by kernel_rfl)
        have t4 := RunsTo.seq d1 (RunsTo.block_exit (c := sub [1, 1, 1, 0, 1] B44) l2' (by kernel_rfl)) (c := sub [1, 1, 1, 0] B44) (by kernel_rfl) (by kernel_rfl)
        have t5 := RunsTo.seq t4 t3 (c := sub [1, 1, 1] B44) (by kernel_rfl) (by kernel_rfl)
        have t6 := RunsTo.seq c1 (RunsTo.block_exit (c := sub [1, 1, 0, 1] B44) l1 (by kernel_rfl)) (c := sub [1, 1, 0] B44) (by kernel_rfl) (by kernel_rfl)
        have t7 := RunsTo.seq t6 t5 (c := sub [1, 1] B44) (by kernel_rfl) (by kernel_rfl)
        have t8 := RunsTo.seq b1 t7 (c := sub [1] B44) (by kernel_rfl) (by kernel_rfl)
        have t9 := RunsTo.seq a1 t8 (c := B44) (by kernel_rfl) (by kernel_rfl)
        have hr := resCell_sl (H := [bF (rGo m l (rDiag m 0 m (List.replicate (m * m) false))), bIs (rKnown m l)]) (no := [1]) (b := 1) (k := 1) (m := (rKnown m l).length) (cap := none) (els := (rKnown m l).map encIs) rfl (by simp) (mapO_self frz_ints _)
        have ho : ownedAll [bF (rGo m l (rDiag m 0 m (List.replicate (m * m) false))), bIs (rKnown m l)] false (.sl 1 0 (rKnown m l).length none (rKnown m l).length 1) = [1] := rfl
        refine ⟨_, _, _, .sl 1 0 (rKnown m l).length none (rKnown m l).length 1, t9, by simp, by simp only [resultsV, res44]; rfl, ?_⟩
        rw [Int.toNat_natCast]
        show toRes _ false _ = _
        simp only [toRes, ho, List.nodup_cons, List.not_mem_nil, not_false_eq_true, List.nodup_nil, and_self, if_true, resVal, hr]
      · cases h
    · cases h
  · cases h
end Go.Proofs.Ytmhfkhlamnapdaa
