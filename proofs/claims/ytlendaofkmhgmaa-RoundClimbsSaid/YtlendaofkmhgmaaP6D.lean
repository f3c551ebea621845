/- A part of the proof. -/
import Derived.Test.YtlendaofkmhgmaaP6C
set_option linter.unusedVariables false
set_option linter.unusedSimpArgs false
section
open Go Go.HL Go.HL.So
namespace Go.Proofs.Ytlendaofkmhgmaa
open Go.Proofs.Try renaming prog → Tp
open Go.HL.HV renaming undef → Ud
theorem res65 : Try.f65.results.toList = [.tmp 4] := by kernel_rfl
def decF : HV → Option Ed
  | .agg [.int .i64 a, .int .i64 b, .int .i64 c] => some (c, a, b)
  | _ => none
theorem decF_enc (e : Ed) : decF (encF e) = some e := rfl
theorem decF_inv {v : HV} {e : Ed} (h : decF v = some e) : v = encF e := by
  unfold decF at h
  split at h
  · cases h; rfl
  · cases h
open Classical in
noncomputable def joined65 : List HV → Option HV
  | [.imm .arg 3 es, .int .i64 n] => (match mapO decF es with | some l => if (0 ≤ n ∧ n ≤ 1000) ∧ EIn n.toNat l ∧ l.length ≤ 500 then some (.own 3 ((krD l (iota n.toNat)).map encF)) else none | none => none)
  | _ => none
section
variable {es : List Ed} {n : Nat}
abbrev jnE (es : List Ed) (n m : Nat) (v6 v8 v9 v10 v11 : HV) : Env := (env65 (.imm .arg 3 (es.map encF)) (.int .i64 (n : Int)) (.imm .lit 3 []) (.sl 0 0 n (some n) n 1) v6 (.sl 1 0 m none m 3) v8 v9 v10 v11)
abbrev jnH (g : List Int) (os : List Ed) : Heap := [bI g, bF os]
theorem gef {k : Nat} (hk : k < es.length) : idxV Tp 70 (.imm .arg 3 (es.map encF)) (.int .i64 (k : Int)) = some (.vptr (encF (at_ es k))) := by
  have : (if (0 : Int) ≤ (k : Int) ∧ (k : Int) < ((es.map encF).length : Int) ∧ tySize Tp 73 = some 3 then (match (es.map encF)[((k : Int)).toNat]? with | some v => some (HV.vptr v) | none => none) else none) = some (.vptr (encF (at_ es k))) := by
    rw [if_pos ⟨by omega, by rw [List.length_map]; omega, s73⟩, Int.toNat_natCast, List.getElem?_map, at_get hk]
    rfl
  simp only [idxV, u70]
  exact this
theorem jn_in {i ea eb : Nat} {ec o w : Int} {os : List Ed} (hN : n ≤ 1000) : ∀ k j (g : List Int), g.length = n → j + k = n →
    RT polW 65 (sub [1, 1, 1, 1, 0, 1, 0, 0, 1, 0, 0, 1, 1, 1, 1, 0] B65) (jnE es n os.length Ud (.int .i64 (i : Int)) (.int .i64 w) (.int .i64 o) (.int .i64 (j : Int))) (jnH g os) (.exit 4)
      (jnE es n os.length Ud (.int .i64 (i : Int)) (.int .i64 w) (.int .i64 o) (.int .i64 (n : Int))) (jnH (rlb o w k j g) os) := by
  intro k
  induction k with
  | zero =>
    intro j g hg hj
    have : j = n := by omega
    subst this
    exact lpo ((jn_l_2 (es.map encF) j (g.map encI) os.length (os.map encF) i ec ea eb o w j (y6 := Ud) (by omega)))
  | succ k ih =>
    intro j g hg hj
    by_cases c : g.getD j 0 = o
    · have s := jn_l_0 (es.map encF) n (g.map encI) os.length (os.map encF) i ec ea eb o w j (y6 := Ud) (by omega) (ixg (by omega)) (ldg (H := jnH g os) (g := g) rfl hg (by omega)) c (ixg (by omega)) (stg (H := jnH g os) (b := 0) (k := j) rfl hg (by omega) w)
      rw [wrap_succ (by omega)] at s
      have r := ih (j + 1) (g.set j w) (by simpa using hg) (by omega)
      rw [rlb, if_pos c]
      exact lop (s) (gc_eq _ rfl) (r)
    · have s := jn_l_1 (es.map encF) n (g.map encI) os.length (os.map encF) i ec ea eb o w j (y6 := Ud) (by omega) (ixg (by omega)) (ldg (H := jnH g os) (g := g) rfl hg (by omega)) c
      rw [wrap_succ (by omega)] at s
      have r := ih (j + 1) g hg (by omega)
      rw [rlb, if_neg c]
      exact lop (s) (gc_eq _ rfl) (r)
theorem jn_out (hN : n ≤ 1000) (he : EIn n es) (hq : es.length ≤ 500) : ∀ k i (os : List Ed) (g : List Int), i + k = es.length → g.length = n → os.length + k ≤ 500 →
    ∃ g' y8 y9 y10 y11, RT polW 65 (sub [1, 1, 1, 1, 0, 1, 0] B65) (jnE es n os.length Ud (.int .i64 (i : Int)) Ud Ud Ud) (jnH g os) (.exit 2)
      (jnE es n (os ++ krD (es.drop i) g).length Ud y8 y9 y10 y11) (jnH g' (os ++ krD (es.drop i) g)) := by
  intro k
  induction k with
  | zero =>
    intro i os g hi hg ho
    have : i = es.length := by omega
    subst this
    rw [List.drop_length, krD, List.append_nil]
    have s := jn_g_1 (es.map encF) n (g.map encI) os.length (os.map encF) es.length (y6 := Ud) (y9 := Ud) (y10 := Ud) (y11 := Ud) (by simp)
    exact ⟨g, _, _, _, _, lpo (sqo (s) (c := sub [1, 1, 1, 1, 0, 1, 0, 0] B65) (b := sub [1, 1, 1, 1, 0, 1, 0, 0, 1] B65))⟩
  | succ k ih =>
    intro i os g hi hg ho
    have hdrop : es.drop i = at_ es i :: es.drop (i + 1) := by
      rw [List.drop_eq_getElem_cons (by omega)]
      simp [at_, List.getD, List.getElem?_eq_getElem (show i < es.length by omega)]
    have hmem : at_ es i ∈ es := by
      have : at_ es i = es[i] := by simp [at_, List.getD, List.getElem?_eq_getElem (show i < es.length by omega)]
      rw [this]; exact List.getElem_mem _
    obtain ⟨ec, ea, eb, hae, ha, hb⟩ : ∃ (ec : Int) (ea eb : Nat), at_ es i = mkQ ec ea eb ∧ ea < n ∧ eb < n := by
      obtain ⟨⟨h1, h2⟩, h3, h4⟩ := he _ hmem
      refine ⟨(at_ es i).1, (at_ es i).2.1.toNat, (at_ es i).2.2.toNat, ?_, h2, h4⟩
      show at_ es i = ((at_ es i).1, _, _)
      rw [Int.toNat_of_nonneg h1, Int.toNat_of_nonneg h3]
    rw [hdrop, hae, krD]
    simp only [Int.toNat_natCast]
    have hx := gef (es := es) (k := i) (by omega)
    rw [hae] at hx
    have s := jn_g_0 (es.map encF) n (g.map encI) os.length (os.map encF) i (y6 := Ud) (y9 := Ud) (y10 := Ud) (y11 := Ud) (by rw [List.length_map]; omega)
    have s2 := jn_h_0 (es.map encF) n (g.map encI) os.length (os.map encF) i ec ea eb (y6 := Ud) (y9 := Ud) (y10 := Ud) (y11 := Ud) hx (ixg ha) (ldg (H := jnH g os) (g := g) rfl hg ha) hx (ixg hb) (ldg (H := jnH g os) (g := g) rfl hg hb)
    by_cases c : g.getD ea 0 = g.getD eb 0
    · rw [if_pos c]
      have s3 := jn_i_0 (es.map encF) n (g.map encI) os.length (os.map encF) i ec ea eb (g.getD eb 0) (g.getD ea 0) (y6 := Ud) (y11 := Ud) c
      have s4 := jn_m_0 (es.map encF) n (g.map encI) os.length (os.map encF) i (y6 := Ud) (y9 := .int .i64 (g.getD ea 0)) (y10 := .int .i64 (g.getD eb 0)) (y11 := Ud)
      rw [wrap_succ (by omega)] at s4
      have st := sq (s) (sq (bke (c := sub [1, 1, 1, 1, 0, 1, 0, 0, 1, 0] B65) (sq (s2) (sqo (s3) (c := sub [1, 1, 1, 1, 0, 1, 0, 0, 1, 0, 0, 1] B65) (b := sub [1, 1, 1, 1, 0, 1, 0, 0, 1, 0, 0, 1, 1] B65)) (c := sub [1, 1, 1, 1, 0, 1, 0, 0, 1, 0, 0] B65))) (s4) (c := sub [1, 1, 1, 1, 0, 1, 0, 0, 1] B65)) (c := sub [1, 1, 1, 1, 0, 1, 0, 0] B65)
      obtain ⟨g', y8, y9, y10, y11, r⟩ := ih (i + 1) os g (by omega) hg (by omega)
      exact ⟨g', y8, y9, y10, y11, lop (st) (gc_eq _ rfl) (r)⟩
    · rw [if_neg c]
      have s3 := jn_i_1 (es.map encF) n (g.map encI) os.length (os.map encF) i ec ea eb (g.getD eb 0) (g.getD ea 0) (y6 := Ud) (y11 := Ud) c
      have s5 := jn_j_0 (es.map encF) n (g.map encI) os.length (os.map encF) i ec ea eb (g.getD eb 0) (g.getD ea 0) (y6 := Ud) (y11 := Ud) hx (by
        have := app_f1 (H := jnH g os) (b := 1) (o := os) rfl (by omega) (mkQ ec ea eb)
        simp only [bF, List.map_append, List.map_cons, List.map_nil] at this
        exact this)
      have hs : os.map encF ++ [HV.agg [.int .i64 (ea : Int), .int .i64 (eb : Int), .int .i64 ec]] = (os ++ [mkQ ec ea eb]).map encF := by simp [encF]
      rw [hs] at s5
      have s6 := jn_k_0 (es.map encF) n (g.map encI) (os.length + 1) ((os ++ [mkQ ec ea eb]).map encF) i ec ea eb (g.getD eb 0) (g.getD ea 0) (y6 := Ud) (y11 := Ud)
      have r0 := jn_in (es := es) (i := i) (ea := ea) (eb := eb) (ec := ec) (o := g.getD eb 0) (w := g.getD ea 0) (os := os ++ [mkQ ec ea eb]) hN n 0 g hg (by omega)
      rw [show (os ++ [mkQ ec ea eb]).length = os.length + 1 by simp] at r0
      have s4 := jn_m_0 (es.map encF) n ((rlb (g.getD eb 0) (g.getD ea 0) n 0 g).map encI) (os.length + 1) ((os ++ [mkQ ec ea eb]).map encF) i (y6 := Ud) (y9 := .int .i64 (g.getD ea 0)) (y10 := .int .i64 (g.getD eb 0)) (y11 := .int .i64 (n : Int))
      rw [wrap_succ (by omega)] at s4
      have st := sq (s) (sq (RunsTo.block_normal (i := 3) (c := sub [1, 1, 1, 1, 0, 1, 0, 0, 1, 0] B65) (sq (s2) (sq (s3) (sq (s5) (sq (s6) (bke (c := sub [1, 1, 1, 1, 0, 1, 0, 0, 1, 0, 0, 1, 1, 1, 1] B65) (lpi (e0 := (jnE es n (os.length + 1) Ud (.int .i64 (i : Int)) (.int .i64 (g.getD ea 0)) (.int .i64 (g.getD eb 0)) (.int .i64 ((0 : Nat) : Int)))) r0 (b := sub [1, 1, 1, 1, 0, 1, 0, 0, 1, 0, 0, 1, 1, 1, 1, 0, 0] B65))) (c := sub [1, 1, 1, 1, 0, 1, 0, 0, 1, 0, 0, 1, 1, 1] B65)) (c := sub [1, 1, 1, 1, 0, 1, 0, 0, 1, 0, 0, 1, 1] B65)) (c := sub [1, 1, 1, 1, 0, 1, 0, 0, 1, 0, 0, 1] B65)) (c := sub [1, 1, 1, 1, 0, 1, 0, 0, 1, 0, 0] B65)) (by kernel_rfl)) (s4) (c := sub [1, 1, 1, 1, 0, 1, 0, 0, 1] B65)) (c := sub [1, 1, 1, 1, 0, 1, 0, 0] B65)
      have hg2 : (rlb (g.getD eb 0) (g.getD ea 0) n 0 g).length = n := by rw [rlb_len, hg]
      obtain ⟨g', y8, y9, y10, y11, r⟩ := ih (i + 1) (os ++ [mkQ ec ea eb]) _ (by omega) hg2 (by simp; omega)
      rw [List.append_assoc] at r
      rw [hg]
      rw [show (os ++ [mkQ ec ea eb]).length = os.length + 1 by simp] at r
      exact ⟨g', y8, y9, y10, y11, lop (st) (gc_eq _ rfl) (r)⟩
theorem jn_init (hN : n ≤ 1000) : ∀ k i (g : List Int), i + k = n → g.length = n → (∀ x, x < i → g.getD x 0 = (x : Int)) →
    RT polW 65 (sub [1, 1, 0, 1, 0] B65) (env65 (.imm .arg 3 (es.map encF)) (.int .i64 (n : Int)) (.imm .lit 3 []) (.sl 0 0 n (some n) n 1) (.int .i64 (i : Int)) Ud Ud Ud Ud Ud) [bI g] (.exit 0)
      (env65 (.imm .arg 3 (es.map encF)) (.int .i64 (n : Int)) (.imm .lit 3 []) (.sl 0 0 n (some n) n 1) (.int .i64 (n : Int)) Ud Ud Ud Ud Ud) [bI (iota n)] := by
  intro k
  induction k with
  | zero =>
    intro i g hi hg hx
    have : i = n := by omega
    subst this
    have e : g = iota i := by
      apply List.ext_getElem?
      intro x
      by_cases hxl : x < i
      · have h1 := hx x hxl
        have h2 := iota_at hxl
        rw [List.getElem?_eq_getElem (by omega), List.getElem?_eq_getElem (by rw [iota_len]; exact hxl)]
        simp only [List.getD, List.getElem?_eq_getElem (show x < g.length by omega), Option.getD_some] at h1
        simp only [List.getD, List.getElem?_eq_getElem (show x < (iota i).length by rw [iota_len]; exact hxl), Option.getD_some] at h2
        rw [h1, h2]
      · rw [List.getElem?_eq_none (by omega), List.getElem?_eq_none (by rw [iota_len]; omega)]
    rw [e]
    exact lpo ((jn_d_1 (es.map encF) i ((iota i).map encI) i (y7 := Ud) (y8 := Ud) (y9 := Ud) (y10 := Ud) (y11 := Ud) (by omega)))
  | succ k ih =>
    intro i g hi hg hx
    have s := jn_d_0 (es.map encF) n (g.map encI) i (y7 := Ud) (y8 := Ud) (y9 := Ud) (y10 := Ud) (y11 := Ud) (by omega) (ixg (by omega)) (stg (H := [bI g]) (b := 0) (k := i) rfl hg (by omega) (i : Int))
    rw [wrap_succ (by omega)] at s
    have r := ih (i + 1) (g.set i (i : Int)) (by omega) (by simpa using hg) (fun x hx2 => by
      rw [getDs _ _ _ _ (by omega)]
      split
      · rename_i e; rw [e]
      · exact hx x (by omega))
    exact lop (s) (gc_eq _ rfl) (r)
end
theorem joined_ok : PrimOk Tp 65 joined65 := by
  refine primOk_pure (pol := polW) (fn := Try.f65) (cd := B65) follows_mixed soundW (by kernel_rfl) (by kernel_rfl) (fnok polW.prim _ _ (by kernel_rfl)) (by kernel_rfl) ?_
  intro args res h
  unfold joined65 at h
  split at h
  case h_2 => cases h
  rename_i ev n0
  split at h
  case h_2 => cases h
  rename_i es hes
  have hev : ev = es.map encF := mapO_inv (fun _ _ h => decF_inv h) hes
  subst hev
  split at h
  case isFalse => cases h
  rename_i hc
  obtain ⟨hn0, he, hq⟩ := hc
  cases h
  obtain ⟨n, rfl⟩ : ∃ x : Nat, n0 = (x : Int) := ⟨n0.toNat, by omega⟩
  rw [Int.toNat_natCast] at he ⊢
  have s0 := jn_a_0 (es.map encF) n
  have mk := makeV_ok (P := Tp) (H := []) (t := 23) (e := 3) (k := 1) (bt := 8) (zv := .int .i64 0) (n := (n : Int)) u23 (by kernel_rfl) (by simp [cellsOf, cellV]) (by simp [cellsOf]) (by omega) (by omega) (by simp only [roomMax]; omega)
  rw [Int.toNat_natCast] at mk
  have hrep : List.replicate n (HV.int .i64 0) = (List.replicate n (0 : Int)).map encI := by simp [encI]
  have s1 := jn_b_0 (es.map encF) n (y5 := Ud) (y6 := Ud) (y7 := Ud) (y8 := Ud) (y9 := Ud) (y10 := Ud) (y11 := Ud) mk
  rw [hrep] at s1
  have s2 := jn_c_0 (es.map encF) n ((List.replicate n (0 : Int)).map encI) (y6 := Ud) (y7 := Ud) (y8 := Ud) (y9 := Ud) (y10 := Ud) (y11 := Ud)
  have r1 := jn_init (es := es) (n := n) (by omega) n 0 (List.replicate n 0) (by omega) (by simp) (fun x hx => absurd hx (by omega))
  have s3 := jn_e_0 (es.map encF) n ((iota n).map encI) (y6 := .int .i64 (n : Int)) (y7 := Ud) (y8 := Ud) (y9 := Ud) (y10 := Ud) (y11 := Ud)
  have s4 := jn_f_0 (es.map encF) n ((iota n).map encI) 0 [] (y6 := .int .i64 (n : Int)) (y8 := Ud) (y9 := Ud) (y10 := Ud) (y11 := Ud)
  obtain ⟨g', y8, y9, y10, y11, r2⟩ := jn_out (es := es) (n := n) (by omega) he hq es.length 0 [] (iota n) (by omega) (iota_len n) (by simp; omega)
  rw [List.nil_append, List.drop_zero] at r2
  have s5 := jn_n_0 (es.map encF) n (g'.map encI) (krD es (iota n)).length ((krD es (iota n)).map encF) (y6 := Ud) (y8 := y8) (y9 := y9) (y10 := y10) (y11 := y11)
  have t := sq (s0) (sq (s1) (sq (sq (s2) (bke (c := sub [1, 1, 0, 1] B65) (lpi (e0 := (env65 (.imm .arg 3 (es.map encF)) (.int .i64 (n : Int)) (.imm .lit 3 []) (.sl 0 0 n (some n) n 1) (.int .i64 ((0 : Nat) : Int)) Ud Ud Ud Ud Ud)) r1 (b := sub [1, 1, 0, 1, 0, 0] B65))) (c := sub [1, 1, 0] B65)) (sq (s3) (sq (sq (s4) (bke (c := sub [1, 1, 1, 1, 0, 1] B65) (lpi (e0 := (jnE es n 0 (.int .i64 (n : Int)) (.int .i64 ((0 : Nat) : Int)) Ud Ud Ud)) r2 (b := sub [1, 1, 1, 1, 0, 1, 0, 0] B65))) (c := sub [1, 1, 1, 1, 0] B65)) (s5) (c := sub [1, 1, 1, 1] B65)) (c := sub [1, 1, 1] B65)) (c := sub [1, 1] B65)) (c := sub [1] B65)) (c := B65)
  exact ⟨_, _, _, .sl 1 0 (krD es (iota n)).length none (krD es (iota n)).length 3, t, by simp, by simp only [resultsV, res65]; rfl, toRes_F rfl⟩
end Go.Proofs.Ytlendaofkmhgmaa
end
section
open Go Go.HL Go.HL.So
namespace Go.Proofs.Ytlendaofkmhgmaa
open Go.Proofs.Try renaming prog → Tp
open Go.HL.HV renaming undef → Ud
noncomputable def polCh : Pol := { pol with prim := fun g => if g == 66 then some edges66 else if g == 65 then some joined65 else none }
theorem soundCh (n : Nat) : CallSound Tp (callN Tp polCh n) := sound_prim _ (fun g f h => by
  split at h
  · rename_i hg; cases h; rw [eq_of_beq hg]; exact redges_ok
  split at h
  · rename_i hg; cases h; rw [eq_of_beq hg]; exact joined_ok
  · cases h) n
end Go.Proofs.Ytlendaofkmhgmaa
end
section
open Go Go.HL
namespace Go.Proofs.Ytlendaofkmhgmaa
set_option maxRecDepth 100000
open Go.Proofs.Try renaming prog → Tp
open Go.HL.HV renaming undef → Ud
noncomputable def B51 : Code := Try.f51.body.getD .skip
abbrev env51 (v0 v1 v4 v5 v6 v7 v8 : HV) : Env := [(0, v0), (1, v1), (4, v4), (5, v5), (6, v6), (7, v7), (8, v8)]
theorem ch_a_0 (rw la : List HV)  : RT polCh 51 (sub [0] B51) [(0, .imm .arg 1 rw), (1, .imm .arg 1 la)] [] .normal (env51 (.imm .arg 1 rw) (.imm .arg 1 la) (.imm .lit 3 []) Ud Ud Ud Ud) [] :=
  RunsTo.hin 0 60 [] fun kf hk => ⟨_, by kernel_rfl, .nil⟩
theorem ch_b_0 (rw la : List HV)  {y5 y6 y7 y8 : HV} {p : Nat} {us : List HV} {m : Nat} {cs : List HV} (g0 : ∀ kf, callN Tp polCh (kf + 1) 66 [.imm .arg 1 rw, .imm .arg 1 la, .i 1] [] = some (.sl 0 0 p none p 3, [.arr 3 us true 0])) (g1 : ∀ kf, callN Tp polCh (kf + 1) 65 [.sl 0 0 p none p 3, .i (rw.length : Int)] [.arr 3 us true 0] = some (.sl 1 0 m none m 3, [.arr 3 us true 0, .arr 3 cs true 0])) : RT polCh 51 (sub [1, 0] B51) (env51 (.imm .arg 1 rw) (.imm .arg 1 la) (.imm .lit 3 []) y5 y6 y7 y8) [] .normal (env51 (.imm .arg 1 rw) (.imm .arg 1 la) (.imm .lit 3 []) (.sl 1 0 m none m 3) y6 y7 y8) [.arr 3 us true 0, .arr 3 cs true 0] :=
  RunsTo.hin 0 60 [⟨1, 2, .sl 0 0 p none p 3, [.arr 3 us true 0]⟩, ⟨1, 5, .sl 1 0 m none m 3, [.arr 3 us true 0, .arr 3 cs true 0]⟩] fun kf hk => ⟨_, by kernel_rfl, (oC (g0 kf) (oC (g1 kf) .nil))⟩
theorem ch_c_0 (rw la : List HV) (us : List HV) (m : Nat) (cs : List HV) {y6 y7 y8 : HV} {q : Nat} {es : List HV} (g0 : ∀ kf, callN Tp polCh (kf + 1) 66 [.imm .arg 1 rw, .imm .arg 1 la, .i 0] [.arr 3 us true 0, .arr 3 cs true 0] = some (.sl 2 0 q none q 3, [.arr 3 us true 0, .arr 3 cs true 0, .arr 3 es true 0])) : RT polCh 51 (sub [1, 1, 0] B51) (env51 (.imm .arg 1 rw) (.imm .arg 1 la) (.imm .lit 3 []) (.sl 1 0 m none m 3) y6 y7 y8) [.arr 3 us true 0, .arr 3 cs true 0] .normal (env51 (.imm .arg 1 rw) (.imm .arg 1 la) (.imm .lit 3 []) (.sl 1 0 m none m 3) (.sl 2 0 q none q 3) y7 y8) [.arr 3 us true 0, .arr 3 cs true 0, .arr 3 es true 0] :=
  RunsTo.hin 0 60 [⟨2, 2, .sl 2 0 q none q 3, [.arr 3 us true 0, .arr 3 cs true 0, .arr 3 es true 0]⟩] fun kf hk => ⟨_, by kernel_rfl, (oC (g0 kf) .nil)⟩
theorem ch_d_0 (rw la : List HV) (us : List HV) (m : Nat) (cs : List HV) (q : Nat) (es : List HV) {y7 y8 : HV} : RT polCh 51 (sub [1, 1, 1, 0] B51) (env51 (.imm .arg 1 rw) (.imm .arg 1 la) (.imm .lit 3 []) (.sl 1 0 m none m 3) (.sl 2 0 q none q 3) y7 y8) [.arr 3 us true 0, .arr 3 cs true 0, .arr 3 es true 0] .normal (env51 (.imm .arg 1 rw) (.imm .arg 1 la) (.imm .lit 3 []) (.sl 1 0 m none m 3) (.sl 2 0 q none q 3) (.i 0) y8) [.arr 3 us true 0, .arr 3 cs true 0, .arr 3 es true 0] :=
  RunsTo.hin 0 60 [] fun kf hk => ⟨_, by kernel_rfl, .nil⟩
theorem ch_e_0 (rw la : List HV) (us : List HV) (m : Nat) (cs : List HV) (q : Nat) (es : List HV) {y8 : HV} : RT polCh 51 (sub [1, 1, 1, 1, 0, 0] B51) (env51 (.imm .arg 1 rw) (.imm .arg 1 la) (.imm .lit 3 []) (.sl 1 0 m none m 3) (.sl 2 0 q none q 3) (.i 0) y8) [.arr 3 us true 0, .arr 3 cs true 0, .arr 3 es true 0] .normal (env51 (.imm .arg 1 rw) (.imm .arg 1 la) (.imm .lit 3 []) (.sl 1 0 m none m 3) (.sl 2 0 q none q 3) (.i 0) (.i 0)) [.arr 3 us true 0, .arr 3 cs true 0, .arr 3 es true 0] :=
  RunsTo.hin 0 60 [] fun kf hk => ⟨_, by kernel_rfl, .nil⟩
theorem ch_f_0 (rw la : List HV) (us : List HV) (m : Nat) (cs : List HV) (q : Nat) (es : List HV) (w i : Nat) (ec : Int) (ea eb : Nat)(g0 : (i : Int) < (q : Int)) (g1 : (w : Int) < 2) (g2 : idxV Tp 70 (.sl 2 0 q none q 3) (.i (i : Int)) = some (.ptr 2 i 0 q)) (g3 : loadV Tp [.arr 3 us true 0, .arr 3 cs true 0, .arr 3 es true 0] 3 (.ptr 2 i 0 q) = some (.i (ea : Int))) (g4 : (ea : Int) = 0) (g5 : idxV Tp 70 (.sl 2 0 q none q 3) (.i (i : Int)) = some (.ptr 2 i 0 q)) (g6 : loadV Tp [.arr 3 us true 0, .arr 3 cs true 0, .arr 3 es true 0] 73 (.ptr 2 i 0 q) = some (.agg [.i (ea : Int), .i (eb : Int), .i ec])) (g7 : appV [.arr 3 us true 0, .arr 3 cs true 0, .arr 3 es true 0] 3 24 (.sl 1 0 m none m 3) [.agg [.i (ea : Int), .i (eb : Int), .i ec]] = some (.sl 1 0 (m + 1) none (m + 1) 3, [.arr 3 us true 0, .arr 3 (cs ++ [.agg [.i (ea : Int), .i (eb : Int), .i ec]]) true 0, .arr 3 es true 0])) : RT polCh 51 (sub [1, 1, 1, 1, 0, 1, 0, 0] B51) (env51 (.imm .arg 1 rw) (.imm .arg 1 la) (.imm .lit 3 []) (.sl 1 0 m none m 3) (.sl 2 0 q none q 3) (.i (w : Int)) (.i (i : Int))) [.arr 3 us true 0, .arr 3 cs true 0, .arr 3 es true 0] .normal (env51 (.imm .arg 1 rw) (.imm .arg 1 la) (.imm .lit 3 []) (.sl 1 0 (m + 1) none (m + 1) 3) (.sl 2 0 q none q 3) (.i (IntKind.i64.wrap ((w : Int) + 1))) (.i (IntKind.i64.wrap ((i : Int) + 1)))) [.arr 3 us true 0, .arr 3 (cs ++ [.agg [.i (ea : Int), .i (eb : Int), .i ec]]) true 0, .arr 3 es true 0] :=
  RunsTo.hin 0 60 [⟨5, 3, .bool true, [.arr 3 us true 0, .arr 3 cs true 0, .arr 3 es true 0]⟩, ⟨5, 6, .bool true, [.arr 3 us true 0, .arr 3 cs true 0, .arr 3 es true 0]⟩, ⟨7, 2, .ptr 2 i 0 q, [.arr 3 us true 0, .arr 3 cs true 0, .arr 3 es true 0]⟩, ⟨7, 4, .i (ea : Int), [.arr 3 us true 0, .arr 3 cs true 0, .arr 3 es true 0]⟩, ⟨7, 5, .bool true, [.arr 3 us true 0, .arr 3 cs true 0, .arr 3 es true 0]⟩, ⟨8, 3, .ptr 2 i 0 q, [.arr 3 us true 0, .arr 3 cs true 0, .arr 3 es true 0]⟩, ⟨8, 4, .agg [.i (ea : Int), .i (eb : Int), .i ec], [.arr 3 us true 0, .arr 3 cs true 0, .arr 3 es true 0]⟩, ⟨8, 6, .sl 1 0 (m + 1) none (m + 1) 3, [.arr 3 us true 0, .arr 3 (cs ++ [.agg [.i (ea : Int), .i (eb : Int), .i ec]]) true 0, .arr 3 es true 0]⟩] fun kf hk => ⟨_, by kernel_rfl, (oB [.arr 3 us true 0, .arr 3 cs true 0, .arr 3 es true 0] (decide_eq_true g0) (oB [.arr 3 us true 0, .arr 3 cs true 0, .arr 3 es true 0] (decide_eq_true g1) (oP [.arr 3 us true 0, .arr 3 cs true 0, .arr 3 es true 0] g2 (oP [.arr 3 us true 0, .arr 3 cs true 0, .arr 3 es true 0] g3 (oB [.arr 3 us true 0, .arr 3 cs true 0, .arr 3 es true 0] (decide_eq_true g4) (oP [.arr 3 us true 0, .arr 3 cs true 0, .arr 3 es true 0] g5 (oP [.arr 3 us true 0, .arr 3 cs true 0, .arr 3 es true 0] g6 (oC (g7) .nil))))))))⟩
theorem ch_f_1 (rw la : List HV) (us : List HV) (m : Nat) (cs : List HV) (q : Nat) (es : List HV) (w i : Nat) (ec : Int) (ea eb : Nat)(g0 : (i : Int) < (q : Int)) (g1 : (w : Int) < 2) (g2 : idxV Tp 70 (.sl 2 0 q none q 3) (.i (i : Int)) = some (.ptr 2 i 0 q)) (g3 : loadV Tp [.arr 3 us true 0, .arr 3 cs true 0, .arr 3 es true 0] 3 (.ptr 2 i 0 q) = some (.i (ea : Int))) (g4 : ¬ ((ea : Int) = 0)) : RT polCh 51 (sub [1, 1, 1, 1, 0, 1, 0, 0] B51) (env51 (.imm .arg 1 rw) (.imm .arg 1 la) (.imm .lit 3 []) (.sl 1 0 m none m 3) (.sl 2 0 q none q 3) (.i (w : Int)) (.i (i : Int))) [.arr 3 us true 0, .arr 3 cs true 0, .arr 3 es true 0] .normal (env51 (.imm .arg 1 rw) (.imm .arg 1 la) (.imm .lit 3 []) (.sl 1 0 m none m 3) (.sl 2 0 q none q 3) (.i (w : Int)) (.i (IntKind.i64.wrap ((i : Int) + 1)))) [.arr 3 us true 0, .arr 3 cs true 0, .arr 3 es true 0] :=
  RunsTo.hin 0 60 [⟨5, 3, .bool true, [.arr 3 us true 0, .arr 3 cs true 0, .arr 3 es true 0]⟩, ⟨5, 6, .bool true, [.arr 3 us true 0, .arr 3 cs true 0, .arr 3 es true 0]⟩, ⟨7, 2, .ptr 2 i 0 q, [.arr 3 us true 0, .arr 3 cs true 0, .arr 3 es true 0]⟩, ⟨7, 4, .i (ea : Int), [.arr 3 us true 0, .arr 3 cs true 0, .arr 3 es true 0]⟩, ⟨7, 5, .bool false, [.arr 3 us true 0, .arr 3 cs true 0, .arr 3 es true 0]⟩] fun kf hk => ⟨_, by kernel_rfl, (oB [.arr 3 us true 0, .arr 3 cs true 0, .arr 3 es true 0] (decide_eq_true g0) (oB [.arr 3 us true 0, .arr 3 cs true 0, .arr 3 es true 0] (decide_eq_true g1) (oP [.arr 3 us true 0, .arr 3 cs true 0, .arr 3 es true 0] g2 (oP [.arr 3 us true 0, .arr 3 cs true 0, .arr 3 es true 0] g3 (oB [.arr 3 us true 0, .arr 3 cs true 0, .arr 3 es true 0] (decide_eq_false g4) .nil)))))⟩
theorem ch_f_2 (rw la : List HV) (us : List HV) (m : Nat) (cs : List HV) (q : Nat) (es : List HV) (w i : Nat) (ec : Int) (ea eb : Nat)(g0 : (i : Int) < (q : Int)) (g1 : ¬ ((w : Int) < 2)) : RT polCh 51 (sub [1, 1, 1, 1, 0, 1, 0, 0] B51) (env51 (.imm .arg 1 rw) (.imm .arg 1 la) (.imm .lit 3 []) (.sl 1 0 m none m 3) (.sl 2 0 q none q 3) (.i (w : Int)) (.i (i : Int))) [.arr 3 us true 0, .arr 3 cs true 0, .arr 3 es true 0] (.exit 0) (env51 (.imm .arg 1 rw) (.imm .arg 1 la) (.imm .lit 3 []) (.sl 1 0 m none m 3) (.sl 2 0 q none q 3) (.i (w : Int)) (.i (i : Int))) [.arr 3 us true 0, .arr 3 cs true 0, .arr 3 es true 0] :=
  RunsTo.hin 0 60 [⟨5, 3, .bool true, [.arr 3 us true 0, .arr 3 cs true 0, .arr 3 es true 0]⟩, ⟨5, 6, .bool false, [.arr 3 us true 0, .arr 3 cs true 0, .arr 3 es true 0]⟩] fun kf hk => ⟨_, by kernel_rfl, (oB [.arr 3 us true 0, .arr 3 cs true 0, .arr 3 es true 0] (decide_eq_true g0) (oB [.arr 3 us true 0, .arr 3 cs true 0, .arr 3 es true 0] (decide_eq_false g1) .nil))⟩
theorem ch_f_3 (rw la : List HV) (us : List HV) (m : Nat) (cs : List HV) (q : Nat) (es : List HV) (w i : Nat) (ec : Int) (ea eb : Nat)(g0 : ¬ ((i : Int) < (q : Int))) : RT polCh 51 (sub [1, 1, 1, 1, 0, 1, 0, 0] B51) (env51 (.imm .arg 1 rw) (.imm .arg 1 la) (.imm .lit 3 []) (.sl 1 0 m none m 3) (.sl 2 0 q none q 3) (.i (w : Int)) (.i (i : Int))) [.arr 3 us true 0, .arr 3 cs true 0, .arr 3 es true 0] (.exit 0) (env51 (.imm .arg 1 rw) (.imm .arg 1 la) (.imm .lit 3 []) (.sl 1 0 m none m 3) (.sl 2 0 q none q 3) (.i (w : Int)) (.i (i : Int))) [.arr 3 us true 0, .arr 3 cs true 0, .arr 3 es true 0] :=
  RunsTo.hin 0 60 [⟨5, 3, .bool false, [.arr 3 us true 0, .arr 3 cs true 0, .arr 3 es true 0]⟩] fun kf hk => ⟨_, by kernel_rfl, (oB [.arr 3 us true 0, .arr 3 cs true 0, .arr 3 es true 0] (decide_eq_false g0) .nil)⟩
theorem ch_g_0 (rw la : List HV) (us : List HV) (m : Nat) (cs : List HV) (q : Nat) (es : List HV) {y7 y8 : HV} : RT polCh 51 (sub [1, 1, 1, 1, 1] B51) (env51 (.imm .arg 1 rw) (.imm .arg 1 la) (.imm .lit 3 []) (.sl 1 0 m none m 3) (.sl 2 0 q none q 3) y7 y8) [.arr 3 us true 0, .arr 3 cs true 0, .arr 3 es true 0] .ret (env51 (.imm .arg 1 rw) (.imm .arg 1 la) (.sl 1 0 m none m 3) (.sl 1 0 m none m 3) (.sl 2 0 q none q 3) y7 y8) [.arr 3 us true 0, .arr 3 cs true 0, .arr 3 es true 0] :=
  RunsTo.hin 0 60 [] fun kf hk => ⟨_, by kernel_rfl, .nil⟩
end Go.Proofs.Ytlendaofkmhgmaa
end
section
open Go Go.HL Go.HL.So
namespace Go.Proofs.Ytlendaofkmhgmaa
open Go.Proofs.Try renaming prog → Tp
open Go.HL.HV renaming undef → Ud
theorem res51 : Try.f51.results.toList = [.tmp 4] := by kernel_rfl
open Classical in
noncomputable def chosen51 : List HV → Option HV := rlF fun R l => if okD R ∧ l.length = R.length ∧ prOk l then some (.own 3 ((chosen R l).map encF)) else none
section
variable {d : List (List Int)} {l : List Int}
theorem arg_encF (H : Heap) (n : Nat) (e : Ed) : toArg H (n + 1) (encF e) = some (encF e) := by
  show (match mapO (toArg H n) [.int .i64 e.2.1, .int .i64 e.2.2, .int .i64 e.1] with | some l => some (HV.agg l) | none => none) = _
  have h1 : ∀ x : Int, toArg H n (.int .i64 x) = some (.int .i64 x) := fun x => by cases n <;> rfl
  simp only [mapO, h1]; rfl
theorem arg_F {H : Heap} {l : List Ed} {b m : Nat} (hm : l.length = m) (hb : H[b]? = some (bF l)) : toArg H 6 (.sl b 0 m none m 3) = some (.imm .arg 3 (l.map encF)) := by
  subst hm
  have e : toArg H 6 (.sl b 0 l.length none l.length 3) = if l.length = 0 then some (.imm .arg 3 []) else match view H b 0 l.length l.length 3 with | some l => (match mapO (toArg H 5) l with | some l => some (.imm .arg 3 l) | none => none) | none => none := rfl
  rw [e]
  split
  · rename_i h0
    rw [List.length_eq_zero_iff.1 h0]; rfl
  · have hv : view H b 0 l.length l.length 3 = some (l.map encF) := by
      unfold view
      rw [hb]
      simp only [bF]
      simp
      exact List.take_of_length_le (by simp)
    have hm : mapO (toArg H 5) (l.map encF) = some (l.map encF) := mapO_self (f := toArg H 5) (g := encF) (fun e => arg_encF H 4 e) l
    rw [hv]
    simp only [hm]
theorem q66 {pol' : Pol} (hp : pol'.prim 66 = some edges66) (hd : okD d) (hn : l.length = d.length) (hl : prOk l) {f : Nat} (hf : f ≤ d.length) (H : Heap) :
    ∀ kf, callN Tp pol' (kf + 1) 66 [.imm .arg 1 (d.map encR), .imm .arg 1 (l.map encI), .int .i64 (f : Int)] H = some (.sl H.length 0 (edg d l f).length none (edg d l f).length 3, H ++ [bF (edg d l f)]) := fun kf => by
  rw [prim_call (pol := pol') (g := 66) (F := edges66) hp (rs := [.imm .arg 1 (d.map encR), .imm .arg 1 (l.map encI), .int .i64 (f : Int)]) (by simp only [mapO, arg_rw, arg_li]; rfl) (res := .own 3 ((edg d l f).map encF)) (by simp only [edges66, rliF, mapO_map decR_enc, mapO_map decI_enc]; rw [if_pos ⟨hd, hn, hl, by omega, by omega⟩, Int.toNat_natCast]), recv_F]
theorem q65 {pol' : Pol} (hp : pol'.prim 65 = some joined65) {es : List Ed} {n b : Nat} {H : Heap} (hb : H[b]? = some (bF es)) (hn : n ≤ 1000) (he : EIn n es) (hq : es.length ≤ 500) :
    ∀ kf, callN Tp pol' (kf + 1) 65 [.sl b 0 es.length none es.length 3, .int .i64 (n : Int)] H = some (.sl H.length 0 (krD es (iota n)).length none (krD es (iota n)).length 3, H ++ [bF (krD es (iota n))]) := fun kf => by
  rw [prim_call (pol := pol') (g := 65) (F := joined65) hp (rs := [.imm .arg 3 (es.map encF), .int .i64 (n : Int)]) (by simp only [mapO, arg_F rfl hb]; rfl) (res := .own 3 ((krD es (iota n)).map encF)) (by simp only [joined65, mapO_map decF_enc]; rw [if_pos ⟨by omega, by rw [Int.toNat_natCast]; exact he, hq⟩, Int.toNat_natCast]), recv_F]
abbrev chE (d : List (List Int)) (l : List Int) (m q : Nat) (v7 v8 : HV) : Env := (env51 (.imm .arg 1 (d.map encR)) (.imm .arg 1 (l.map encI)) (.imm .lit 3 []) (.sl 1 0 m none m 3) (.sl 2 0 q none q 3) v7 v8)
abbrev chH (us cs es : List Ed) : Heap := [bF us, bF cs, bF es]
theorem ch_loop (us : List Ed) {es : List Ed} {n : Nat} (he : EIn n es) (hq : es.length ≤ 500) : ∀ (k i w : Nat) (cs : List Ed), i + k = es.length → w ≤ 2 → cs.length + k ≤ 700 →
    ∃ y7 y8, RT polCh 51 (sub [1, 1, 1, 1, 0, 1, 0] B51) (chE d l cs.length es.length (.int .i64 (w : Int)) (.int .i64 (i : Int))) (chH us cs es) (.exit 0)
      (chE d l (cs ++ two2 w (es.drop i)).length es.length y7 y8) (chH us (cs ++ two2 w (es.drop i)) es) := by
  intro k
  induction k with
  | zero =>
    intro i w cs hi hw ho
    have : i = es.length := by omega
    subst this
    rw [List.drop_length, two2, List.append_nil]
    exact ⟨_, _, lpo ((ch_f_3 (d.map encR) (l.map encI) (us.map encF) cs.length (cs.map encF) es.length (es.map encF) w es.length 0 0 0 (by omega)))⟩
  | succ k ih =>
    intro i w cs hi hw ho
    have hdrop : es.drop i = at_ es i :: es.drop (i + 1) := by
      rw [List.drop_eq_getElem_cons (by omega)]
      simp [at_, List.getD, List.getElem?_eq_getElem (show i < es.length by omega)]
    have hmem : at_ es i ∈ es := by
      have : at_ es i = es[i] := by simp [at_, List.getD, List.getElem?_eq_getElem (show i < es.length by omega)]
      rw [this]; exact List.getElem_mem _
    obtain ⟨ec, ea, eb, hae, ha, hb⟩ : ∃ (ec : Int) (ea eb : Nat), at_ es i = mkQ ec ea eb ∧ ea < n ∧ eb < n := by
      obtain ⟨⟨h1, h2⟩, h3, h4⟩ := he _ hmem
      refine ⟨(at_ es i).1, (at_ es i).2.1.toNat, (at_ es i).2.2.toNat, ?_, h2, h4⟩
      show at_ es i = ((at_ es i).1, _, _)
      rw [Int.toNat_of_nonneg h1, Int.toNat_of_nonneg h3]
    by_cases c2 : w < 2
    · rw [hdrop, hae, two2]
      have hl0 := lf0 (H := chH us cs es) (b := 2) (k := i) (l := es) rfl rfl (by omega)
      have hl := lf (H := chH us cs es) (b := 2) (k := i) (l := es) rfl rfl (by omega)
      rw [hae] at hl hl0
      by_cases c : (ea : Int) = 0
      · have s := ch_f_0 (d.map encR) (l.map encI) (us.map encF) cs.length (cs.map encF) es.length (es.map encF) w i ec ea eb (by omega) (by omega) (ixf (by omega)) hl0 c (ixf (by omega)) hl (by
          have := app_f1 (H := chH us cs es) (b := 1) (o := cs) rfl (by omega) (mkQ ec ea eb)
          simp only [bF, List.map_append, List.map_cons, List.map_nil] at this
          exact this)
        have hs : cs.map encF ++ [HV.agg [.int .i64 (ea : Int), .int .i64 (eb : Int), .int .i64 ec]] = (cs ++ [mkQ ec ea eb]).map encF := by simp [encF]
        rw [wrap_succ (by omega), wrap_succ (by omega), hs] at s
        obtain ⟨y7, y8, r⟩ := ih (i + 1) (w + 1) (cs ++ [mkQ ec ea eb]) (by omega) (by omega) (by simp; omega)
        rw [if_pos ⟨c, c2⟩]
        rw [List.append_assoc, show (cs ++ [mkQ ec ea eb]).length = cs.length + 1 by simp] at r
        exact ⟨y7, y8, lop (s) (gc_eq _ rfl) (r)⟩
      · have s := ch_f_1 (d.map encR) (l.map encI) (us.map encF) cs.length (cs.map encF) es.length (es.map encF) w i ec ea eb (by omega) (by omega) (ixf (by omega)) hl0 c
        rw [wrap_succ (by omega)] at s
        obtain ⟨y7, y8, r⟩ := ih (i + 1) w cs (by omega) (by omega) (by omega)
        rw [if_neg (fun h => c h.1)]
        exact ⟨y7, y8, lop (s) (gc_eq _ rfl) (r)⟩
    · rw [two2_full _ w (by omega), List.append_nil]
      exact ⟨_, _, lpo ((ch_f_2 (d.map encR) (l.map encI) (us.map encF) cs.length (cs.map encF) es.length (es.map encF) w i 0 0 0 (by omega) (by omega)))⟩
end
theorem chosen_ok : PrimOk Tp 51 chosen51 := by
  refine primOk_pure (pol := polCh) (fn := Try.f51) (cd := B51) follows_mixed soundCh (by kernel_rfl) (by kernel_rfl) (fnok polCh.prim _ _ (by kernel_rfl)) (by kernel_rfl) ?_
  intro args res h
  obtain ⟨d, l, rfl, hq⟩ := rlF_inv h
  clear h
  split at hq
  · rename_i hc
    obtain ⟨hd, hn, hp⟩ := hc
    cases hq
    have hdn := hd.1
    have h1 := edg_len (ps := l) (f := 1) hd (by omega)
    have h0 := edg_len (ps := l) (f := 0) hd (by omega)
    have e1 := edg_in (d := d) (ps := l) (f := 1) (by omega)
    have e0 := edg_in (d := d) (ps := l) (f := 0) (by omega)
    have hk : treeL d l 1 = krD (edg d l 1) (iota d.length) := kr_eq _ _ _ e1 (Eqv.refl (iota_len _))
    have hlen := krP_len (edg d l 1) (iota d.length)
    have hc : chosen d l = krD (edg d l 1) (iota d.length) ++ two2 0 (edg d l 0) := by rw [← hk]; rfl
    have hlen' : (krD (edg d l 1) (iota d.length)).length ≤ 121 := by rw [← hk]; unfold treeL; omega
    rw [hc]
    generalize hT : krD (edg d l 1) (iota d.length) = T at *
    have s0 := ch_a_0 (d.map encR) (l.map encI)
    have k65 := q65 (pol' := polCh) (by kernel_rfl) (H := [bF (edg d l 1)]) (b := 0) rfl (by omega) e1 (by omega)
    rw [hT] at k65
    have s1 := ch_b_0 (d.map encR) (l.map encI) (y5 := Ud) (y6 := Ud) (y7 := Ud) (y8 := Ud) (q66 (pol' := polCh) (by kernel_rfl) hd hn hp (f := 1) (by omega) []) (by rw [List.length_map]; exact k65)
    have s2 := ch_c_0 (d.map encR) (l.map encI) ((edg d l 1).map encF) T.length (T.map encF) (y6 := Ud) (y7 := Ud) (y8 := Ud) (q66 (pol' := polCh) (by kernel_rfl) hd hn hp (f := 0) (by omega) [bF (edg d l 1), bF T])
    have s3 := ch_d_0 (d.map encR) (l.map encI) ((edg d l 1).map encF) T.length (T.map encF) (edg d l 0).length ((edg d l 0).map encF) (y7 := Ud) (y8 := Ud)
    have s4 := ch_e_0 (d.map encR) (l.map encI) ((edg d l 1).map encF) T.length (T.map encF) (edg d l 0).length ((edg d l 0).map encF) (y8 := Ud)
    obtain ⟨y7, y8, r⟩ := ch_loop (d := d) (l := l) (edg d l 1) e0 (by omega) (edg d l 0).length 0 0 T (by omega) (by omega) (by omega)
    rw [List.drop_zero] at r
    have s5 := ch_g_0 (d.map encR) (l.map encI) ((edg d l 1).map encF) (T ++ two2 0 (edg d l 0)).length ((T ++ two2 0 (edg d l 0)).map encF) (edg d l 0).length ((edg d l 0).map encF) (y7 := y7) (y8 := y8)
    have t := sq (s0) (sq (s1) (sq (s2) (sq (s3) (sq (sq (s4) (bke (c := sub [1, 1, 1, 1, 0, 1] B51) (lpi (e0 := (chE d l T.length (edg d l 0).length (.int .i64 ((0 : Nat) : Int)) (.int .i64 ((0 : Nat) : Int)))) r (b := sub [1, 1, 1, 1, 0, 1, 0, 0] B51))) (c := sub [1, 1, 1, 1, 0] B51)) (s5) (c := sub [1, 1, 1, 1] B51)) (c := sub [1, 1, 1] B51)) (c := sub [1, 1] B51)) (c := sub [1] B51)) (c := B51)
    exact ⟨_, _, _, .sl 1 0 (T ++ two2 0 (edg d l 0)).length none (T ++ two2 0 (edg d l 0)).length 3, t, by simp, by simp only [resultsV, res51]; rfl, toRes_F rfl⟩
  · cases hq
end Go.Proofs.Ytlendaofkmhgmaa
end
section
open Go Go.HL Go.HL.So
namespace Go.Proofs.Ytlendaofkmhgmaa
open Go.Proofs.Try renaming prog → Tp
open Go.HL.HV renaming undef → Ud
noncomputable def polRb : Pol := { pol with prim := fun g => if g == 51 then some chosen51 else none }
theorem soundRb (n : Nat) : CallSound Tp (callN Tp polRb n) := sound_prim _ (fun g f h => by
  split at h
  · rename_i hg; cases h; rw [eq_of_beq hg]; exact chosen_ok
  · cases h) n
end Go.Proofs.Ytlendaofkmhgmaa
end
section
open Go Go.HL
namespace Go.Proofs.Ytlendaofkmhgmaa
set_option maxRecDepth 100000
open Go.Proofs.Try renaming prog → Tp
open Go.HL.HV renaming undef → Ud
noncomputable def B21 : Code := Try.f21.body.getD .skip
abbrev env21 (v0 v1 v4 v5 v6 v7 v8 v9 : HV) : Env := [(0, v0), (1, v1), (4, v4), (5, v5), (6, v6), (7, v7), (8, v8), (9, v9)]
theorem rb_a_0 (rw la : List HV)  : RT polRb 21 (sub [0] B21) [(0, .imm .arg 1 rw), (1, .imm .arg 1 la)] [] .normal (env21 (.imm .arg 1 rw) (.imm .arg 1 la) (.i 0) Ud Ud Ud Ud Ud) [] :=
  RunsTo.hin 0 60 [] fun kf hk => ⟨_, by kernel_rfl, .nil⟩
theorem rb_b_0 (rw la : List HV)  {y5 y6 y7 y8 y9 : HV} : RT polRb 21 (sub [1, 0] B21) (env21 (.imm .arg 1 rw) (.imm .arg 1 la) (.i 0) y5 y6 y7 y8 y9) [] .normal (env21 (.imm .arg 1 rw) (.imm .arg 1 la) (.i 0) (.i (rw.length : Int)) y6 y7 y8 y9) [] :=
  RunsTo.hin 0 60 [] fun kf hk => ⟨_, by kernel_rfl, .nil⟩
theorem rb_c_0 (rw la : List HV) (n : Nat) {y6 y7 y8 y9 : HV}(g0 : (n : Int) = 1) : RT polRb 21 (sub [1, 1, 0] B21) (env21 (.imm .arg 1 rw) (.imm .arg 1 la) (.i 0) (.i (n : Int)) y6 y7 y8 y9) [] .ret (env21 (.imm .arg 1 rw) (.imm .arg 1 la) (.i 0) (.i (n : Int)) y6 y7 y8 y9) [] :=
  RunsTo.hin 0 60 [⟨2, 1, .bool true, []⟩] fun kf hk => ⟨_, by kernel_rfl, (oB [] (decide_eq_true g0) .nil)⟩
theorem rb_c_1 (rw la : List HV) (n : Nat) {y6 y7 y8 y9 : HV}(g0 : ¬ ((n : Int) = 1)) : RT polRb 21 (sub [1, 1, 0] B21) (env21 (.imm .arg 1 rw) (.imm .arg 1 la) (.i 0) (.i (n : Int)) y6 y7 y8 y9) [] .normal (env21 (.imm .arg 1 rw) (.imm .arg 1 la) (.i 0) (.i (n : Int)) y6 y7 y8 y9) [] :=
  RunsTo.hin 0 60 [⟨2, 1, .bool false, []⟩] fun kf hk => ⟨_, by kernel_rfl, (oB [] (decide_eq_false g0) .nil)⟩
theorem rb_d_0 (rw la : List HV) (n : Nat) {y6 y7 y8 y9 : HV} {l0 : List HV} {x0 : Int} (g0 : (n : Int) = 2) (g1 : idxV Tp 22 (.imm .arg 1 rw) (.i 0) = some (.vptr (.imm .arg 1 l0))) (g2 : idxV Tp 23 (.imm .arg 1 l0) (.i 1) = some (.vptr (.i x0))) : RT polRb 21 (sub [1, 1, 1, 0] B21) (env21 (.imm .arg 1 rw) (.imm .arg 1 la) (.i 0) (.i (n : Int)) y6 y7 y8 y9) [] .ret (env21 (.imm .arg 1 rw) (.imm .arg 1 la) (.i (IntKind.i64.wrap (2 * x0))) (.i (n : Int)) y6 y7 y8 y9) [] :=
  RunsTo.hin 0 60 [⟨4, 1, .bool true, []⟩, ⟨5, 1, .vptr (.imm .arg 1 l0), []⟩, ⟨5, 3, .vptr (.i x0), []⟩] fun kf hk => ⟨_, by kernel_rfl, (oB [] (decide_eq_true g0) (oP [] g1 (oP [] g2 .nil)))⟩
theorem rb_d_1 (rw la : List HV) (n : Nat) {y6 y7 y8 y9 : HV}(g0 : ¬ ((n : Int) = 2)) : RT polRb 21 (sub [1, 1, 1, 0] B21) (env21 (.imm .arg 1 rw) (.imm .arg 1 la) (.i 0) (.i (n : Int)) y6 y7 y8 y9) [] .normal (env21 (.imm .arg 1 rw) (.imm .arg 1 la) (.i 0) (.i (n : Int)) y6 y7 y8 y9) [] :=
  RunsTo.hin 0 60 [⟨4, 1, .bool false, []⟩] fun kf hk => ⟨_, by kernel_rfl, (oB [] (decide_eq_false g0) .nil)⟩
theorem rb_e_0 (rw la : List HV) (n : Nat) {y6 y7 y8 y9 : HV} : RT polRb 21 (sub [1, 1, 1, 1, 0] B21) (env21 (.imm .arg 1 rw) (.imm .arg 1 la) (.i 0) (.i (n : Int)) y6 y7 y8 y9) [] .normal (env21 (.imm .arg 1 rw) (.imm .arg 1 la) (.i 0) (.i (n : Int)) (.i 0) y7 y8 y9) [] :=
  RunsTo.hin 0 60 [] fun kf hk => ⟨_, by kernel_rfl, .nil⟩
theorem rb_f_0 (rw la : List HV) (n : Nat) {y7 y8 y9 : HV} {m : Nat} {cs : List HV} (g0 : ∀ kf, callN Tp polRb (kf + 1) 51 [.imm .arg 1 rw, .imm .arg 1 la] [] = some (.sl 0 0 m none m 3, [.arr 3 cs true 0])) : RT polRb 21 (sub [1, 1, 1, 1, 1, 0] B21) (env21 (.imm .arg 1 rw) (.imm .arg 1 la) (.i 0) (.i (n : Int)) (.i 0) y7 y8 y9) [] .normal (env21 (.imm .arg 1 rw) (.imm .arg 1 la) (.i 0) (.i (n : Int)) (.i 0) (.sl 0 0 m none m 3) y8 y9) [.arr 3 cs true 0] :=
  RunsTo.hin 0 60 [⟨7, 2, .sl 0 0 m none m 3, [.arr 3 cs true 0]⟩] fun kf hk => ⟨_, by kernel_rfl, (oC (g0 kf) .nil)⟩
theorem rb_g_0 (rw la : List HV) (n m : Nat) (cs : List HV) {y8 y9 : HV} : RT polRb 21 (sub [1, 1, 1, 1, 1, 1, 0, 0] B21) (env21 (.imm .arg 1 rw) (.imm .arg 1 la) (.i 0) (.i (n : Int)) (.i 0) (.sl 0 0 m none m 3) y8 y9) [.arr 3 cs true 0] .normal (env21 (.imm .arg 1 rw) (.imm .arg 1 la) (.i 0) (.i (n : Int)) (.i 0) (.sl 0 0 m none m 3) (.i 0) y9) [.arr 3 cs true 0] :=
  RunsTo.hin 0 60 [] fun kf hk => ⟨_, by kernel_rfl, .nil⟩
theorem rb_h_0 (rw la : List HV) (n m : Nat) (cs : List HV) (sm : Int) (i : Nat) {y9 : HV} {x0 : Int} (g0 : (i : Int) < (m : Int)) (g1 : idxV Tp 70 (.sl 0 0 m none m 3) (.i (i : Int)) = some (.ptr 0 i 0 m)) (g2 : loadV Tp [.arr 3 cs true 0] 3 (.ptr 0 i 2 m) = some (.i x0)) : RT polRb 21 (sub [1, 1, 1, 1, 1, 1, 0, 1, 0, 0] B21) (env21 (.imm .arg 1 rw) (.imm .arg 1 la) (.i 0) (.i (n : Int)) (.i sm) (.sl 0 0 m none m 3) (.i (i : Int)) y9) [.arr 3 cs true 0] .normal (env21 (.imm .arg 1 rw) (.imm .arg 1 la) (.i 0) (.i (n : Int)) (.i (IntKind.i64.wrap (sm + x0))) (.sl 0 0 m none m 3) (.i (IntKind.i64.wrap ((i : Int) + 1))) y9) [.arr 3 cs true 0] :=
  RunsTo.hin 0 60 [⟨9, 3, .bool true, [.arr 3 cs true 0]⟩, ⟨11, 3, .ptr 0 i 0 m, [.arr 3 cs true 0]⟩, ⟨11, 5, .i x0, [.arr 3 cs true 0]⟩] fun kf hk => ⟨_, by kernel_rfl, (oB [.arr 3 cs true 0] (decide_eq_true g0) (oP [.arr 3 cs true 0] g1 (oP [.arr 3 cs true 0] g2 .nil)))⟩
theorem rb_h_1 (rw la : List HV) (n m : Nat) (cs : List HV) (sm : Int) (i : Nat) {y9 : HV}(g0 : ¬ ((i : Int) < (m : Int))) : RT polRb 21 (sub [1, 1, 1, 1, 1, 1, 0, 1, 0, 0] B21) (env21 (.imm .arg 1 rw) (.imm .arg 1 la) (.i 0) (.i (n : Int)) (.i sm) (.sl 0 0 m none m 3) (.i (i : Int)) y9) [.arr 3 cs true 0] (.exit 0) (env21 (.imm .arg 1 rw) (.imm .arg 1 la) (.i 0) (.i (n : Int)) (.i sm) (.sl 0 0 m none m 3) (.i (i : Int)) y9) [.arr 3 cs true 0] :=
  RunsTo.hin 0 60 [⟨9, 3, .bool false, [.arr 3 cs true 0]⟩] fun kf hk => ⟨_, by kernel_rfl, (oB [.arr 3 cs true 0] (decide_eq_false g0) .nil)⟩
theorem rb_i_0 (rw la : List HV) (n m : Nat) (cs : List HV) (sm : Int) {y8 y9 : HV} : RT polRb 21 (sub [1, 1, 1, 1, 1, 1, 1, 0, 0] B21) (env21 (.imm .arg 1 rw) (.imm .arg 1 la) (.i 0) (.i (n : Int)) (.i sm) (.sl 0 0 m none m 3) y8 y9) [.arr 3 cs true 0] .normal (env21 (.imm .arg 1 rw) (.imm .arg 1 la) (.i 0) (.i (n : Int)) (.i sm) (.sl 0 0 m none m 3) y8 (.i 0)) [.arr 3 cs true 0] :=
  RunsTo.hin 0 60 [] fun kf hk => ⟨_, by kernel_rfl, .nil⟩
theorem rb_j_0 (rw la : List HV) (n m : Nat) (cs : List HV) (sm : Int) (i : Nat) {y7 y8 : HV} {x0 : Int} (g0 : (i : Int) < (n : Int)) (g1 : idxV Tp 23 (.imm .arg 1 la) (.i (i : Int)) = some (.vptr (.i x0))) : RT polRb 21 (sub [1, 1, 1, 1, 1, 1, 1, 0, 1, 0, 0] B21) (env21 (.imm .arg 1 rw) (.imm .arg 1 la) (.i 0) (.i (n : Int)) (.i sm) y7 y8 (.i (i : Int))) [.arr 3 cs true 0] .normal (env21 (.imm .arg 1 rw) (.imm .arg 1 la) (.i 0) (.i (n : Int)) (.i (IntKind.i64.wrap (sm - IntKind.i64.wrap (2 * x0)))) y7 y8 (.i (IntKind.i64.wrap ((i : Int) + 1)))) [.arr 3 cs true 0] :=
  RunsTo.hin 0 60 [⟨13, 2, .bool true, [.arr 3 cs true 0]⟩, ⟨15, 3, .vptr (.i x0), [.arr 3 cs true 0]⟩] fun kf hk => ⟨_, by kernel_rfl, (oB [.arr 3 cs true 0] (decide_eq_true g0) (oP [.arr 3 cs true 0] g1 .nil))⟩
theorem rb_j_1 (rw la : List HV) (n m : Nat) (cs : List HV) (sm : Int) (i : Nat) {y7 y8 : HV}(g0 : ¬ ((i : Int) < (n : Int))) : RT polRb 21 (sub [1, 1, 1, 1, 1, 1, 1, 0, 1, 0, 0] B21) (env21 (.imm .arg 1 rw) (.imm .arg 1 la) (.i 0) (.i (n : Int)) (.i sm) y7 y8 (.i (i : Int))) [.arr 3 cs true 0] (.exit 2) (env21 (.imm .arg 1 rw) (.imm .arg 1 la) (.i 0) (.i (n : Int)) (.i sm) y7 y8 (.i (i : Int))) [.arr 3 cs true 0] :=
  RunsTo.hin 0 60 [⟨13, 2, .bool false, [.arr 3 cs true 0]⟩] fun kf hk => ⟨_, by kernel_rfl, (oB [.arr 3 cs true 0] (decide_eq_false g0) .nil)⟩
theorem rb_k_0 (rw la : List HV) (n m : Nat) (cs : List HV) (sm : Int) {y7 y8 y9 : HV} : RT polRb 21 (sub [1, 1, 1, 1, 1, 1, 1, 1] B21) (env21 (.imm .arg 1 rw) (.imm .arg 1 la) (.i 0) (.i (n : Int)) (.i sm) y7 y8 y9) [.arr 3 cs true 0] .ret (env21 (.imm .arg 1 rw) (.imm .arg 1 la) (.i sm) (.i (n : Int)) (.i sm) y7 y8 y9) [.arr 3 cs true 0] :=
  RunsTo.hin 0 60 [] fun kf hk => ⟨_, by kernel_rfl, .nil⟩
end Go.Proofs.Ytlendaofkmhgmaa
end
section
open Go Go.HL Go.HL.So
namespace Go.Proofs.Ytlendaofkmhgmaa
open Go.Proofs.Try renaming prog → Tp
open Go.HL.HV renaming undef → Ud
theorem res21 : Try.f21.results.toList = [.tmp 4] := by kernel_rfl
open Classical in
noncomputable def bound21 : List HV → Option HV := rlF fun R l => if okD R ∧ l.length = R.length ∧ prOk l then some (.int .i64 (bndT R l)) else none
theorem edg_cong {d : List (List Int)} {p p' : List Int} {f : Nat} (hf : f ≤ d.length) (h : ∀ a, a < d.length → p.getD a 0 = p'.getD a 0) : edg d p f = edg d p' f := by
  obtain ⟨h1, h2⟩ := edg_ok (d := d) (p := p) hf
  obtain ⟨h3, h4⟩ := edg_ok (d := d) (p := p') hf
  refine strict_eq h1 h3 fun e => (h2 e).trans (Iff.trans ?_ (h4 e).symm)
  have key : ∀ x y, x < y → y < d.length → mkE d p x y = mkE d p' x y := fun x y hxy hy => by
    simp only [mkE, cst]
    rw [h x (by omega), h y hy]
  constructor
  · rintro ⟨x, y, hh, e⟩; exact ⟨x, y, hh, by rw [e, key x y hh.2.1 hh.2.2]⟩
  · rintro ⟨x, y, hh, e⟩; exact ⟨x, y, hh, by rw [e, key x y hh.2.1 hh.2.2]⟩
theorem chosen_cong {d : List (List Int)} {p p' : List Int} (hd : 1 ≤ d.length) (h : ∀ a, a < d.length → p.getD a 0 = p'.getD a 0) : chosen d p = chosen d p' := by
  unfold chosen treeL
  rw [edg_cong (f := 1) hd h, edg_cong (f := 0) (by omega) h]
theorem pad_get (l : List Int) (a : Nat) (ha : a < l.length) : (pad l).getD a 0 = l.getD a 0 := by
  simp only [pad, List.getD, List.getElem?_append_left ha]
theorem sumP_app (a b : List Int) (s : Int) : sumP (a ++ b) s = sumP b (sumP a s) := by simp [sumP, List.foldl_append]
theorem sumP_zero : ∀ (k : Nat) (s : Int), sumP (List.replicate k 0) s = s
  | 0, _ => rfl
  | k + 1, s => by
    have := sumP_zero k (s - 2 * 0)
    rw [show s - 2 * 0 = s by omega] at this
    show sumP (List.replicate k 0) (s - 2 * 0) = s
    rw [show s - 2 * 0 = s by omega, this]
theorem sumP_pad (l : List Int) (s : Int) : sumP (pad l) s = sumP l s := by rw [pad, sumP_app, sumP_zero]
section
variable {d : List (List Int)} {l : List Int} {n : Nat}
theorem rb_s1 {cs : List Ed} {y9 : HV} (hc : costOk cs) (hq : cs.length ≤ 500) : ∀ (k i : Nat) (s : Int), i + k = cs.length → -3000000000 * (i : Int) ≤ s → s ≤ 3000000000 * (i : Int) →
    RT polRb 21 (sub [1, 1, 1, 1, 1, 1, 0, 1, 0] B21) (env21 (.imm .arg 1 (d.map encR)) (.imm .arg 1 (l.map encI)) (.int .i64 0) (.int .i64 (n : Int)) (.int .i64 s) (.sl 0 0 cs.length none cs.length 3) (.int .i64 (i : Int)) Ud) [bF cs] (.exit 0)
      (env21 (.imm .arg 1 (d.map encR)) (.imm .arg 1 (l.map encI)) (.int .i64 0) (.int .i64 (n : Int)) (.int .i64 (sumA (cs.drop i) s)) (.sl 0 0 cs.length none cs.length 3) (.int .i64 (cs.length : Int)) Ud) [bF cs] := by
  intro k
  induction k with
  | zero =>
    intro i s hi h1 h2
    have : i = cs.length := by omega
    subst this
    rw [List.drop_length]
    exact lpo ((rb_h_1 (d.map encR) (l.map encI) n cs.length (cs.map encF) s cs.length (y9 := Ud) (by omega)))
  | succ k ih =>
    intro i s hi h1 h2
    have hdrop : cs.drop i = at_ cs i :: cs.drop (i + 1) := by
      rw [List.drop_eq_getElem_cons (by omega)]
      simp [at_, List.getD, List.getElem?_eq_getElem (show i < cs.length by omega)]
    have hmem : at_ cs i ∈ cs := by
      have : at_ cs i = cs[i] := by simp [at_, List.getD, List.getElem?_eq_getElem (show i < cs.length by omega)]
      rw [this]; exact List.getElem_mem _
    have hco := hc _ hmem
    rw [hdrop]
    have s1 := rb_h_0 (d.map encR) (l.map encI) n cs.length (cs.map encF) s i (y9 := Ud) (by omega) (ixf (by omega)) (lf2 (H := [bF cs]) (b := 0) rfl rfl (by omega))
    have w3 : IntKind.i64.wrap (s + (at_ cs i).1) = s + (at_ cs i).1 := wrap_id (by omega) (by omega)
    rw [wrap_succ (by omega), w3] at s1
    have r := ih (i + 1) (s + (at_ cs i).1) (by omega) (by omega) (by omega)
    exact lop (s1) (gc_eq _ rfl) (r)
theorem rb_s2 {cs : List Ed} (hn : l.length = n) (hN : n ≤ 11) (hp : prOk l) : ∀ (k i : Nat) (s : Int), i + k = n → -10000000000000 - 20000 * (i : Int) ≤ s → s ≤ 10000000000000 + 20000 * (i : Int) →
    RT polRb 21 (sub [1, 1, 1, 1, 1, 1, 1, 0, 1, 0] B21) (env21 (.imm .arg 1 (d.map encR)) (.imm .arg 1 (l.map encI)) (.int .i64 0) (.int .i64 (n : Int)) (.int .i64 s) Ud Ud (.int .i64 (i : Int))) [bF cs] (.exit 2)
      (env21 (.imm .arg 1 (d.map encR)) (.imm .arg 1 (l.map encI)) (.int .i64 0) (.int .i64 (n : Int)) (.int .i64 (sumP (l.drop i) s)) Ud Ud (.int .i64 (n : Int))) [bF cs] := by
  intro k
  induction k with
  | zero =>
    intro i s hi h1 h2
    have : i = n := by omega
    subst this
    rw [List.drop_of_length_le (by omega)]
    exact lpo ((rb_j_1 (d.map encR) (l.map encI) i 0 (cs.map encF) s i (y7 := Ud) (y8 := Ud) (by omega)))
  | succ k ih =>
    intro i s hi h1 h2
    have hdrop : l.drop i = l.getD i 0 :: l.drop (i + 1) := by
      rw [List.drop_eq_getElem_cons (by omega), getD_at (show i < l.length by omega)]
    have b := hp.at (i := i) (by omega)
    rw [hdrop]
    have s1 := rb_j_0 (d.map encR) (l.map encI) n 0 (cs.map encF) s i (y7 := Ud) (y8 := Ud) (by omega) (gx (by omega))
    have w2 : IntKind.i64.wrap (2 * l.getD i 0) = 2 * l.getD i 0 := wrap_id (by omega) (by omega)
    have w3 : IntKind.i64.wrap (s - 2 * l.getD i 0) = s - 2 * l.getD i 0 := wrap_id (by omega) (by omega)
    rw [wrap_succ (by omega), w2, w3] at s1
    have r := ih (i + 1) (s - 2 * l.getD i 0) (by omega) (by omega) (by omega)
    exact lop (s1) (gc_eq _ rfl) (r)
end
theorem sumA_bd : ∀ (l : List Ed) (s : Int), costOk l → s - 3000000000 * (l.length : Int) ≤ sumA l s ∧ sumA l s ≤ s + 3000000000 * (l.length : Int)
  | [], s, _ => by simp [sumA]
  | e :: l, s, h => by
    have h1 := h e (by simp)
    have h2 := sumA_bd l (s + e.1) (fun x hx => h x (by simp [hx]))
    show s - 3000000000 * ((e :: l).length : Int) ≤ sumA l (s + e.1) ∧ sumA l (s + e.1) ≤ _
    rw [List.length_cons]
    omega
theorem q51 {pol' : Pol} (hp : pol'.prim 51 = some chosen51) {d : List (List Int)} {l : List Int} (hd : okD d) (hn : l.length = d.length) (hl : prOk l) (H : Heap) :
    ∀ kf, callN Tp pol' (kf + 1) 51 [.imm .arg 1 (d.map encR), .imm .arg 1 (l.map encI)] H = some (.sl H.length 0 (chosen d l).length none (chosen d l).length 3, H ++ [bF (chosen d l)]) := fun kf => by
  rw [prim_call (pol := pol') (g := 51) (F := chosen51) hp (rs := [.imm .arg 1 (d.map encR), .imm .arg 1 (l.map encI)]) (by simp only [mapO, arg_rw, arg_li]) (res := .own 3 ((chosen d l).map encF)) (by simp only [chosen51, rlF, mapO_map decR_enc, mapO_map decI_enc]; rw [if_pos ⟨hd, hn, hl⟩]), recv_F]
theorem rbound_ok : PrimOk Tp 21 bound21 := by
  refine primOk_pure (pol := polRb) (fn := Try.f21) (cd := B21) follows_mixed soundRb (by kernel_rfl) (by kernel_rfl) (fnok polRb.prim _ _ (by kernel_rfl)) (by kernel_rfl) ?_
  intro args res h
  obtain ⟨d, l, rfl, hq⟩ := rlF_inv h
  clear h
  split at hq
  · rename_i hc
    obtain ⟨hd, hn, hp⟩ := hc
    cases hq
    have hdn := hd.1
    have s0 := rb_a_0 (d.map encR) (l.map encI)
    have s1 := rb_b_0 (d.map encR) (l.map encI) (y5 := Ud) (y6 := Ud) (y7 := Ud) (y8 := Ud) (y9 := Ud)
    rw [List.length_map] at s1
    by_cases c1 : d.length = 1
    · have s2 := rb_c_0 (d.map encR) (l.map encI) d.length (y6 := Ud) (y7 := Ud) (y8 := Ud) (y9 := Ud) (by omega)
      have t := sq (s0) (sq (s1) (sqo (s2) (c := sub [1, 1] B21) (b := sub [1, 1, 1] B21)) (c := sub [1] B21)) (c := B21)
      have e : bndT d l = 0 := by
        unfold bndT
        rw [if_pos (by omega), c1]
        have := (hd.2.2 0 (by omega) 0 (by omega)).2.2 rfl
        rw [show (1 - 1 : Nat) = 0 from rfl, this]; rfl
      rw [e]
      exact ⟨_, _, _, .int .i64 0, t, by simp, by simp only [resultsV, res21]; rfl, rfl⟩
    have s2 := rb_c_1 (d.map encR) (l.map encI) d.length (y6 := Ud) (y7 := Ud) (y8 := Ud) (y9 := Ud) (by omega)
    by_cases c2 : d.length = 2
    · have b1 := hd.at (i := 0) (j := 1) (by omega) (by omega)
      have s3 := rb_d_0 (d.map encR) (l.map encI) d.length (y6 := Ud) (y7 := Ud) (y8 := Ud) (y9 := Ud) (by omega) (g22' (d := d) (v := 0) (by omega)) (g23' (d := d) (v := 0) (u := 1) hd (by omega) (by omega))
      rw [wrap_id (by omega) (by omega)] at s3
      have t := sq (s0) (sq (s1) (sq (s2) (sqo (s3) (c := sub [1, 1, 1] B21) (b := sub [1, 1, 1, 1] B21)) (c := sub [1, 1] B21)) (c := sub [1] B21)) (c := B21)
      have e : bndT d l = 2 * at2 d 0 1 := by
        unfold bndT
        rw [if_pos (by omega), c2]
      rw [e]
      exact ⟨_, _, _, .int .i64 (2 * at2 d 0 1), t, by simp, by simp only [resultsV, res21]; rfl, rfl⟩
    have s3 := rb_d_1 (d.map encR) (l.map encI) d.length (y6 := Ud) (y7 := Ud) (y8 := Ud) (y9 := Ud) (by omega)
    have s4 := rb_e_0 (d.map encR) (l.map encI) d.length (y6 := Ud) (y7 := Ud) (y8 := Ud) (y9 := Ud)
    have s5 := rb_f_0 (d.map encR) (l.map encI) d.length (y7 := Ud) (y8 := Ud) (y9 := Ud) (q51 (pol' := polRb) (by kernel_rfl) hd hn hp [])
    have e : bndT d l = sumP l (sumA (chosen d l) 0) := by
      unfold bndT
      rw [if_neg (by omega)]
      show sumP (pad l) (sumA (chosen d (pad l)) 0) = _
      rw [sumP_pad, chosen_cong (p := pad l) (p' := l) (by omega) (fun a ha => pad_get l a (by omega))]
    have hco : costOk (chosen d l) := by
      rw [← chosen_cong (p := pad l) (p' := l) (by omega) (fun a ha => pad_get l a (by omega))]
      exact chosen_cost hd (pad_small (by omega) hp)
    have hcl := chosen_len (ps := l) hd
    rw [e]
    generalize chosen d l = cs at *
    have s6 := rb_g_0 (d.map encR) (l.map encI) d.length cs.length (cs.map encF) (y8 := Ud) (y9 := Ud)
    have r1 := rb_s1 (d := d) (l := l) (n := d.length) (y9 := Ud) hco (by omega) cs.length 0 0 (by omega) (by omega) (by omega)
    rw [List.drop_zero] at r1
    have hb := sumA_bd cs 0 hco
    generalize sumA cs 0 = sm at *
    have s7 := rb_i_0 (d.map encR) (l.map encI) d.length cs.length (cs.map encF) sm (y8 := .int .i64 (cs.length : Int)) (y9 := Ud)
    have r2 := rb_s2 (d := d) (l := l) (n := d.length) (cs := cs) hn (by omega) hp d.length 0 sm (by omega) (by omega) (by omega)
    rw [List.drop_zero] at r2
    have s8 := rb_k_0 (d.map encR) (l.map encI) d.length 0 (cs.map encF) (sumP l sm) (y7 := Ud) (y8 := Ud) (y9 := .int .i64 (d.length : Int))
    have t := sq (s0) (sq (s1) (sq (s2) (sq (s3) (sq (s4) (sq (s5) (sq (sq (s6) (bke (c := sub [1, 1, 1, 1, 1, 1, 0, 1] B21) (lpi (e0 := (env21 (.imm .arg 1 (d.map encR)) (.imm .arg 1 (l.map encI)) (.int .i64 0) (.int .i64 (d.length : Int)) (.int .i64 0) (.sl 0 0 cs.length none cs.length 3) (.int .i64 ((0 : Nat) : Int)) Ud)) r1 (b := sub [1, 1, 1, 1, 1, 1, 0, 1, 0, 0] B21))) (c := sub [1, 1, 1, 1, 1, 1, 0] B21)) (sq (sq (s7) (bke (c := sub [1, 1, 1, 1, 1, 1, 1, 0, 1] B21) (lpi (e0 := (env21 (.imm .arg 1 (d.map encR)) (.imm .arg 1 (l.map encI)) (.int .i64 0) (.int .i64 (d.length : Int)) (.int .i64 sm) (.sl 0 0 cs.length none cs.length 3) (.int .i64 (cs.length : Int)) (.int .i64 ((0 : Nat) : Int)))) r2 (b := sub [1, 1, 1, 1, 1, 1, 1, 0, 1, 0, 0] B21))) (c := sub [1, 1, 1, 1, 1, 1, 1, 0] B21)) (s8) (c := sub [1, 1, 1, 1, 1, 1, 1] B21)) (c := sub [1, 1, 1, 1, 1, 1] B21)) (c := sub [1, 1, 1, 1, 1] B21)) (c := sub [1, 1, 1, 1] B21)) (c := sub [1, 1, 1] B21)) (c := sub [1, 1] B21)) (c := sub [1] B21)) (c := B21)
    exact ⟨_, _, _, .int .i64 (sumP l sm), t, by simp, by simp only [resultsV, res21]; rfl, rfl⟩
  · cases hq
end Go.Proofs.Ytlendaofkmhgmaa
end
section
open Go Go.HL Go.HL.So
namespace Go.Proofs.Ytlendaofkmhgmaa
theorem countP_lt {p q : Nat → Bool} : ∀ {l : List Nat} {a : Nat}, (∀ x ∈ l, q x = true → p x = true) → a ∈ l → p a = true → q a = false → l.countP q + 1 ≤ l.countP p
  | [], a, _, h, _, _ => by cases h
  | x :: l, a, hm, ha, h1, h2 => by
    have mono : l.countP q ≤ l.countP p := List.countP_mono_left fun y hy => hm y (by simp [hy])
    rw [List.countP_cons, List.countP_cons]
    rcases List.mem_cons.1 ha with rfl | ha'
    · rw [h1, h2]; simp; omega
    · have ih := countP_lt (fun y hy => hm y (by simp [hy])) ha' h1 h2
      have hx := hm x (by simp)
      cases hq : q x
      · cases hp : p x <;> simp <;> omega
      · rw [hx hq]; simp; omega
def rootB (g : List Int) (x : Nat) : Bool := decide (1 ≤ x ∧ g.getD x 0 = (x : Int))
def rts (n : Nat) (g : List Int) : Nat := (List.range n).countP (rootB g)
def KInv (n : Nat) (g : List Int) : Prop := g.length = n ∧ ∀ x, x < n → (∃ y : Nat, y < n ∧ g.getD x 0 = (y : Int) ∧ g.getD y 0 = (y : Int)) ∧ (1 ≤ x → 1 ≤ g.getD x 0)
theorem KInv.iota (n : Nat) : KInv n (iota n) := ⟨iota_len n, fun x hx => ⟨⟨x, hx, iota_at hx, iota_at hx⟩, fun h => by rw [iota_at hx]; omega⟩⟩
theorem KInv.step {n : Nat} {g : List Int} (h : KInv n g) {a b : Nat} (ha : a < n) (hb : b < n) (h1a : 1 ≤ a) (h1b : 1 ≤ b) (hne : g.getD a 0 ≠ g.getD b 0) :
    KInv n (rlb (g.getD a 0) (g.getD b 0) g.length 0 g) ∧ rts n (rlb (g.getD a 0) (g.getD b 0) g.length 0 g) + 1 ≤ rts n g := by
  obtain ⟨hl, h⟩ := h
  obtain ⟨⟨ya, hya, ea, eya⟩, pa⟩ := h a ha
  obtain ⟨⟨yb, hyb, eb, eyb⟩, pb⟩ := h b hb
  have hat : ∀ x, x < n → (rlb (g.getD a 0) (g.getD b 0) g.length 0 g).getD x 0 = if g.getD x 0 = g.getD a 0 then g.getD b 0 else g.getD x 0 := fun x hx => rlb_at _ _ _ (by omega)
  have hgl := rlb_len (g.getD a 0) (g.getD b 0) g.length 0 g
  generalize rlb (g.getD a 0) (g.getD b 0) g.length 0 g = g' at hat hgl ⊢
  have pa := pa h1a
  have pb := pb h1b
  rw [ea] at hne pa hat
  rw [eb] at hne pb hat
  refine ⟨⟨?_, fun x hx => ?_⟩, ?_⟩
  · rw [hgl, hl]
  · obtain ⟨⟨y, hy, e1, e2⟩, p⟩ := h x hx
    rw [hat x hx]
    by_cases c : g.getD x 0 = (ya : Int)
    · rw [if_pos c]
      refine ⟨⟨yb, hyb, rfl, ?_⟩, fun _ => pb⟩
      rw [hat yb hyb, eyb, if_neg (fun h => hne h.symm)]
    · rw [if_neg c]
      refine ⟨⟨y, hy, e1, ?_⟩, p⟩
      rw [hat y hy, e2, if_neg (by rw [← e1]; exact c)]
  · refine countP_lt (a := ya) (fun x hx hq => ?_) (List.mem_range.2 hya) (decide_eq_true ⟨by omega, eya⟩) (decide_eq_false fun h => ?_)
    · have hx := List.mem_range.1 hx
      obtain ⟨h1, h2⟩ := of_decide_eq_true hq
      rw [hat x hx] at h2
      refine decide_eq_true ⟨h1, ?_⟩
      by_cases c : g.getD x 0 = (ya : Int)
      · rw [if_pos c] at h2
        have : yb = x := by omega
        subst this
        rw [eyb] at c
        exact absurd c.symm hne
      · rwa [if_neg c] at h2
    · have h2 := h.2
      rw [hat ya hya, if_pos eya] at h2
      exact hne h2.symm
theorem rts_pos {n : Nat} {g : List Int} (h : KInv n g) (hn : 2 ≤ n) : 1 ≤ rts n g := by
  obtain ⟨⟨y, hy, e1, e2⟩, p⟩ := h.2 1 (by omega)
  have := countP_lt (p := rootB g) (q := fun _ => false) (l := List.range n) (a := y) (fun x _ h => by cases h) (List.mem_range.2 hy) (decide_eq_true ⟨by have := p (Nat.le_refl 1); omega, e2⟩) rfl
  exact Nat.le_trans (Nat.le_add_left 1 _) this
theorem rts_le {n : Nat} (g : List Int) (hn : 1 ≤ n) : rts n g + 1 ≤ n := by
  have := countP_lt (p := fun _ => true) (q := rootB g) (l := List.range n) (a := 0) (fun _ _ _ => rfl) (List.mem_range.2 hn) rfl (decide_eq_false fun h => by omega)
  rw [show (List.range n).countP (fun _ => true) = n by simp] at this
  exact this
theorem krP_rts {n : Nat} (hn : 2 ≤ n) : ∀ (l : List Ed) (g : List Int), KInv n g → (∀ e ∈ l, (1 ≤ e.2.1.toNat ∧ e.2.1.toNat < n) ∧ 1 ≤ e.2.2.toNat ∧ e.2.2.toNat < n) → (krP l g).length + 1 ≤ rts n g
  | [], g, h, _ => rts_pos h hn
  | e :: l, g, h, he => by
    obtain ⟨⟨h1, h2⟩, h3, h4⟩ := he e (by simp)
    have he' := fun x hx => he x (List.mem_cons_of_mem e hx)
    rw [krP]
    split
    · exact krP_rts hn l g h he'
    · rename_i c
      obtain ⟨k1, k2⟩ := h.step h2 h4 h1 h3 c
      have := krP_rts hn l _ k1 he'
      rw [List.length_cons]; omega
theorem chosen_n {d : List (List Int)} {p : List Int} (hn : 2 ≤ d.length) : (chosen d p).length ≤ d.length := by
  have h1 := krP_rts hn (edg d p 1) (iota d.length) (KInv.iota _) fun e he => by
    obtain ⟨x, y, h, rfl⟩ := ((edg_ok (d := d) (p := p) (f := 1) (by omega)).2 e).1 he
    simp only [mkE, Int.toNat_natCast]
    omega
  have h2 := rts_le (n := d.length) (iota d.length) (by omega)
  have h3 := two2_len (edg d p 0) 0
  unfold chosen treeL
  rw [List.length_append]
  omega
theorem degs_bd {n : Nat} (hn : n ≤ 11) : ∀ (l : List Ed) (t : List Int) (k : Nat), EIn n l → CtB t k → CtB (l.foldl dstep t) (k + l.length)
  | [], t, k, _, h => h
  | e :: l, t, k, he, h => by
    obtain ⟨⟨_, h1⟩, _, h2⟩ := he e (by simp)
    have := degs_bd hn l (dstep t e) (k + 1) (fun x hx => he x (by simp [hx])) (h.step (by omega) (by omega))
    rw [List.length_cons, show k + (l.length + 1) = k + 1 + l.length by omega]
    exact this
theorem degs_at {d : List (List Int)} {p : List Int} (hd : okD d) (hn : 2 ≤ d.length) : CtB (degs (chosen d p)) 11 := by
  have hdn := hd.1
  have h1 := degs_bd (n := d.length) hdn.2 (chosen d p) _ 0 (chosen_in hd) CtB.zero
  have h2 := chosen_n (p := p) hn
  refine ⟨h1.1, fun x hx => ?_⟩
  have := h1.2 x hx
  show 0 ≤ (degs (chosen d p)).getD x 0 ∧ (degs (chosen d p)).getD x 0 ≤ _
  unfold degs
  omega
def cstep (d : List (List Int)) (p : List Int) : List Int := (List.range d.length).map fun i => p.getD i 0 + ((degs (chosen d p)).getD i 0 - 2)
def clim (d : List (List Int)) : Nat → List Int → List Int → Int → List Int × Int
  | 0, _, b, v => (b, v)
  | k + 1, p, b, v => clim d k (cstep d p) (if v < boundS d (cstep d p) then cstep d p else b) (if v < boundS d (cstep d p) then boundS d (cstep d p) else v)
def zer (n : Nat) : List Int := List.replicate n 0
def climT (d : List (List Int)) (s : Nat) : List Int × Int := if d.length < 3 then (zer d.length, bndT d (zer d.length)) else clim d s (zer d.length) (zer d.length) (bndT d (zer d.length))
theorem cstep_len (d : List (List Int)) (p : List Int) : (cstep d p).length = d.length := by simp [cstep]
theorem cstep_at {d : List (List Int)} {p : List Int} {i : Nat} (hi : i < d.length) : (cstep d p).getD i 0 = p.getD i 0 + ((degs (chosen d p)).getD i 0 - 2) := by
  simp [cstep, List.getD, List.getElem?_map, List.getElem?_range hi]
def PB (n k : Nat) (p : List Int) : Prop := p.length = n ∧ ∀ i, i < n → -2 * (k : Int) ≤ p.getD i 0 ∧ p.getD i 0 ≤ 20 * (k : Int)
theorem PB.zero (n : Nat) : PB n 0 (zer n) := ⟨by simp [zer], fun i hi => by
  have : (zer n).getD i 0 = 0 := by rw [zer, List.getD, List.getElem?_replicate, if_pos hi]; rfl
  rw [this]; omega⟩
theorem PB.step {d : List (List Int)} {p : List Int} {k : Nat} (hd : okD d) (hn : 2 ≤ d.length) (h : PB d.length k p) : PB d.length (k + 1) (cstep d p) := by
  refine ⟨cstep_len d p, fun i hi => ?_⟩
  have hdn := hd.1
  rw [cstep_at hi]
  have h1 := h.2 i hi
  have h2 := (degs_at (p := p) hd hn).2 i (by omega)
  omega
theorem PB.ok {n k : Nat} {p : List Int} (h : PB n k p) (hk : k ≤ 200) : prOk p := fun v hv => by
  obtain ⟨i, hi, rfl⟩ := List.getElem_of_mem hv
  have h2 := h.2 i (by rw [← h.1]; exact hi)
  rw [show p.getD i 0 = p[i] by simp [List.getD, List.getElem?_eq_getElem hi]] at h2
  omega
theorem bndT_eq {d : List (List Int)} {p : List Int} (hn : ¬ d.length < 3) (hp : p.length = d.length) : bndT d p = boundS d p := by
  unfold bndT
  rw [if_neg hn]
  show sumP (pad p) (sumA (chosen d (pad p)) 0) = sumP p (sumA (chosen d p) 0)
  rw [sumP_pad, chosen_cong (p := pad p) (p' := p) (by omega) (fun a ha => pad_get p a (by omega))]
end Go.Proofs.Ytlendaofkmhgmaa
end
section
open Go Go.HL
namespace Go.Proofs.Ytlendaofkmhgmaa
theorem toRes_li2 {H : Heap} {b k : Nat} {cap : Option Nat} {o : List Int} (hb : H[b]? = some (bI o)) (hk : o.length = k) (x e : Int) : toRes H false (.tuple [.sl b 0 k cap k 1, .int .i64 x, .int .i64 e]) = some (.tuple [.own 1 (o.map encI), .int .i64 x, .int .i64 e]) := by
  have hr := resCell_sl (H := H) (no := [b]) (b := b) (k := 1) (m := k) (cap := cap) (els := o.map encI) hb (by simpa using hk) (mapO_self (fun r => frz_int 4 r) _)
  have ho : ownedAll H false (.tuple [.sl b 0 k cap k 1, .int .i64 x, .int .i64 e]) = [b] := by simp [ownedAll, cellsOf, owned, hb]
  simp only [toRes, ho, List.nodup_cons, List.not_mem_nil, not_false_eq_true, List.nodup_nil, and_self, if_true, mapO, resVal, hr]
  rfl
theorem arg_slc {H : Heap} {l : List Int} {b m : Nat} {cap : Option Nat} (hm : l.length = m) (hb : H[b]? = some (bI l)) : toArg H 6 (.sl b 0 m cap m 1) = some (.imm .arg 1 (l.map encI)) := arg_sl hm hb
section
variable {d : List (List Int)}
abbrev tv4 (m : Nat) : HV := .sl 4 0 m none m 1
structure BI (d : List (List Int)) (v w : Nat) (o : List Int) (tv : HV) (H : Heap) : Prop where
  mem : Mem (rsT d) H
  box : H[1]? = some (boxK v w)
  st : (tv = .sl 2 0 1 (some 1) 1 1 ∧ o = [0] ∧ H.length = 3 ∧ H[2]? = some (bI o)) ∨ (tv = tv4 o.length ∧ H.length = 5 ∧ H[4]? = some (bI o))
theorem BI.len {d : List (List Int)} {v w : Nat} {o : List Int} {tv : HV} {H : Heap} (h : BI d v w o tv H) : 3 ≤ H.length ∧ H.length ≤ 5 ∧ bnd tv ≤ H.length := by
  rcases h.st with ⟨h1, _, h3, _⟩ | ⟨h1, h3, _⟩ <;> rw [h1, h3] <;> simp [bnd]
end
end Go.Proofs.Ytlendaofkmhgmaa
end
section
open Go Go.HL Go.HL.So
namespace Go.Proofs.Ytlendaofkmhgmaa
open Go.Proofs.Try renaming prog → Tp
open Go.HL.HV renaming undef → Ud
def riF (f : List (List Int) → Int → Option HV) : List HV → Option HV
  | [.imm .arg 1 rw, .int .i64 a] => (match mapO decR rw with | some R => f R a | none => none)
  | _ => none
theorem riF_inv {f : List (List Int) → Int → Option HV} {args : List HV} {res : HV} (h : riF f args = some res) : ∃ R a, args = [.imm .arg 1 (R.map encR), .int .i64 a] ∧ f R a = some res := by
  unfold riF at h
  split at h
  · rename_i rw a
    split at h
    · rename_i R hR
      exact ⟨R, a, by rw [mapO_inv decR_inv hR], h⟩
    · cases h
  · cases h
open Classical in
noncomputable def climb31 : List HV → Option HV := riF fun R s => if R.length ≤ 1000 ∧ (R.all fun r => decide (r.length ≤ 1000)) = true then some (if okD R ∧ 0 ≤ s ∧ s ≤ 100 then .tuple [.own 1 ((climT R s.toNat).1.map encI), .int .i64 (climT R s.toNat).2, .int .i64 0] else .tuple [.own 1 [], .int .i64 0, .int .i64 2]) else none
open Classical in
noncomputable def climb32 : List HV → Option HV := riF fun R s => if okD R ∧ 0 ≤ s ∧ s ≤ 100 then some (.tuple [.own 1 ((climT R s.toNat).1.map encI), .int .i64 (climT R s.toNat).2]) else none
noncomputable def polCl : Pol := { pol with prim := fun g => if g == 46 then some miles46 else if g == 49 then some withinF else if g == 50 then some bound50 else if g == 52 then some clone52 else none }
theorem soundCl (n : Nat) : CallSound Tp (callN Tp polCl n) := sound_prim _ (fun g f h => by
  split at h
  · rename_i hg; cases h; rw [eq_of_beq hg]; exact miles_ok
  split at h
  · rename_i hg; cases h; rw [eq_of_beq hg]; exact within_ok
  split at h
  · rename_i hg; cases h; rw [eq_of_beq hg]; exact bound_ok
  split at h
  · rename_i hg; cases h; rw [eq_of_beq hg]; exact clone_ok
  · cases h) n
noncomputable def polRc : Pol := { pol with prim := fun g => if g == 21 then some bound21 else if g == 51 then some chosen51 else none }
theorem soundRc (n : Nat) : CallSound Tp (callN Tp polRc n) := sound_prim _ (fun g f h => by
  split at h
  · rename_i hg; cases h; rw [eq_of_beq hg]; exact rbound_ok
  split at h
  · rename_i hg; cases h; rw [eq_of_beq hg]; exact chosen_ok
  · cases h) n
theorem li_ext {a b : List Int} (hl : a.length = b.length) (h : ∀ x, x < a.length → a.getD x 0 = b.getD x 0) : a = b := by
  apply List.ext_getElem?
  intro x
  by_cases hx : x < a.length
  · have h1 := h x hx
    rw [List.getElem?_eq_getElem hx, List.getElem?_eq_getElem (by omega)]
    simp only [List.getD, List.getElem?_eq_getElem hx, List.getElem?_eq_getElem (show x < b.length by omega), Option.getD_some] at h1
    rw [h1]
  · rw [List.getElem?_eq_none (by omega), List.getElem?_eq_none (by omega)]
theorem pad_hi {l : List Int} {x : Nat} (h1 : l.length ≤ x) (h2 : x < 11) : (pad l).getD x 0 = 0 := by
  rw [pad, List.getD, List.getElem?_append_right h1, List.getElem?_replicate, if_pos (by omega)]; rfl
theorem bnd_pad {d : List (List Int)} {p : List Int} (hn : 1 ≤ d.length) (hp : p.length = d.length) : boundS d (pad p) = boundS d p := by
  show sumP (pad p) (sumA (chosen d (pad p)) 0) = sumP p (sumA (chosen d p) 0)
  rw [sumP_pad, chosen_cong (p := pad p) (p' := p) hn (fun a ha => pad_get p a (by omega))]
theorem pad_zer {n : Nat} (h : n ≤ 11) : pad (zer n) = List.replicate 11 0 := by
  unfold pad zer
  rw [List.length_replicate, List.replicate_append_replicate]
  congr 1; omega
theorem clim_len {d : List (List Int)} : ∀ (k : Nat) (p b : List Int) (v : Int), b.length = d.length → (clim d k p b v).1.length = d.length
  | 0, _, b, _, h => h
  | k + 1, p, b, v, h => by
    rw [clim]
    exact clim_len k _ _ _ (by split; exact cstep_len d p; exact h)
end Go.Proofs.Ytlendaofkmhgmaa
end
section
open Go Go.HL
namespace Go.Proofs.Ytlendaofkmhgmaa
set_option maxRecDepth 100000
open Go.Proofs.Try renaming prog → Tp
open Go.HL.HV renaming undef → Ud
noncomputable def B31 : Code := Try.f31.body.getD .skip
abbrev env31 (v0 v1 v4 v5 v6 v7 v8 v9 v10 v11 v12 v42 v43 v46 v47 : HV) : Env := [(0, v0), (1, v1), (4, v4), (5, v5), (6, v6), (7, v7), (8, v8), (9, v9), (10, v10), (11, v11), (12, v12), (42, v42), (43, v43), (46, v46), (47, v47)]
theorem cl_a_0 (rw : List HV) (st : Int)  : RT polCl 31 (sub [0] B31) [(0, .imm .arg 1 rw), (1, .i st)] [] .normal (env31 (.imm .arg 1 rw) (.i st) (.imm .lit 1 []) (.i 0) (.i 0) Ud Ud Ud Ud Ud Ud Ud Ud Ud Ud) [] :=
  RunsTo.hin 0 60 [] fun kf hk => ⟨_, by kernel_rfl, .nil⟩
theorem cl_b_0 (rw : List HV) (st : Int)  {y7 y8 y9 y10 y11 y12 y42 y43 y46 y47 : HV}(g0 : ∀ kf, callN Tp polCl (kf + 1) 46 [.imm .arg 1 rw] [] = some (.bool true, [])) (g1 : (0 : Int) ≤ st ∧ st ≤ (100 : Int)) : RT polCl 31 (sub [1, 0] B31) (env31 (.imm .arg 1 rw) (.i st) (.imm .lit 1 []) (.i 0) (.i 0) y7 y8 y9 y10 y11 y12 y42 y43 y46 y47) [] .normal (env31 (.imm .arg 1 rw) (.i st) (.imm .lit 1 []) (.i 0) (.i 0) y7 y8 y9 y10 y11 y12 y42 y43 y46 y47) [] :=
  RunsTo.hin 0 60 [⟨1, 1, .bool true, []⟩, ⟨1, 5, .bool true, []⟩] fun kf hk => ⟨_, by kernel_rfl, (oC (g0 kf) (oB [] (decide_eq_true g1) .nil))⟩
theorem cl_b_1 (rw : List HV) (st : Int)  {y7 y8 y9 y10 y11 y12 y42 y43 y46 y47 : HV}(g0 : ∀ kf, callN Tp polCl (kf + 1) 46 [.imm .arg 1 rw] [] = some (.bool true, [])) (g1 : ¬ ((0 : Int) ≤ st ∧ st ≤ (100 : Int))) : RT polCl 31 (sub [1, 0] B31) (env31 (.imm .arg 1 rw) (.i st) (.imm .lit 1 []) (.i 0) (.i 0) y7 y8 y9 y10 y11 y12 y42 y43 y46 y47) [] .ret (env31 (.imm .arg 1 rw) (.i st) (.imm .lit 1 []) (.i 0) (.i 2) y7 y8 y9 y10 y11 y12 y42 y43 y46 y47) [] :=
  RunsTo.hin 0 60 [⟨1, 1, .bool true, []⟩, ⟨1, 5, .bool false, []⟩] fun kf hk => ⟨_, by kernel_rfl, (oC (g0 kf) (oB [] (decide_eq_false g1) .nil))⟩
theorem cl_b_2 (rw : List HV) (st : Int)  {y7 y8 y9 y10 y11 y12 y42 y43 y46 y47 : HV}(g0 : ∀ kf, callN Tp polCl (kf + 1) 46 [.imm .arg 1 rw] [] = some (.bool false, [])) : RT polCl 31 (sub [1, 0] B31) (env31 (.imm .arg 1 rw) (.i st) (.imm .lit 1 []) (.i 0) (.i 0) y7 y8 y9 y10 y11 y12 y42 y43 y46 y47) [] .ret (env31 (.imm .arg 1 rw) (.i st) (.imm .lit 1 []) (.i 0) (.i 2) y7 y8 y9 y10 y11 y12 y42 y43 y46 y47) [] :=
  RunsTo.hin 0 60 [⟨1, 1, .bool false, []⟩] fun kf hk => ⟨_, by kernel_rfl, (oC (g0 kf) .nil)⟩
theorem cl_c_0 (rw : List HV) (st : Int)  {y7 y8 y9 y10 y11 y12 y42 y43 y46 y47 : HV} {l0 : List HV} {x0 : Int} (g0 : (rw.length : Int) < 3) (g1 : makeV Tp false 23 (.i (rw.length : Int)) (.i (rw.length : Int)) [] = some (.sl 0 0 rw.length (some rw.length) rw.length 1, [.arr 1 (List.replicate rw.length (.i 0)) true 0])) (g2 : idxV Tp 22 (.imm .arg 1 rw) (.i 0) = some (.vptr (.imm .arg 1 l0))) (g3 : idxV Tp 23 (.imm .arg 1 l0) (.i (IntKind.i64.wrap ((rw.length : Int) - 1))) = some (.vptr (.i x0))) (gS4 : ((same (.imm .arg 1 l0) (.imm .arg 1 l0) && sameH ([.arr 1 (List.replicate rw.length (.i 0)) true 0] : Heap) [.arr 1 (List.replicate rw.length (.i 0)) true 0] && sameH ([] : Heap) []) && ((same (.i (rw.length : Int)) (.i (rw.length : Int)) && sameH ([.arr 1 (List.replicate rw.length (.i 0)) true 0] : Heap) [.arr 1 (List.replicate rw.length (.i 0)) true 0] && sameH ([] : Heap) []) && ((same (.i x0) (.i x0) && sameH ([.arr 1 (List.replicate rw.length (.i 0)) true 0] : Heap) [.arr 1 (List.replicate rw.length (.i 0)) true 0] && sameH ([] : Heap) []) && true))) = true) : RT polCl 31 (sub [1, 1, 0] B31) (env31 (.imm .arg 1 rw) (.i st) (.imm .lit 1 []) (.i 0) (.i 0) y7 y8 y9 y10 y11 y12 y42 y43 y46 y47) [] .ret (env31 (.imm .arg 1 rw) (.i st) (.sl 0 0 rw.length (some rw.length) rw.length 1) (.i (IntKind.i64.wrap (2 * x0))) (.i 0) y7 y8 y9 y10 y11 y12 y42 y43 y46 y47) [.arr 1 (List.replicate rw.length (.i 0)) true 0] :=
  RunsTo.hin 0 60 [⟨3, 2, .bool true, []⟩, ⟨4, 2, .sl 0 0 rw.length (some rw.length) rw.length 1, [.arr 1 (List.replicate rw.length (.i 0)) true 0]⟩, ⟨4, 4, .vptr (.imm .arg 1 l0), [.arr 1 (List.replicate rw.length (.i 0)) true 0]⟩, ⟨4, 9, .vptr (.i x0), [.arr 1 (List.replicate rw.length (.i 0)) true 0]⟩] fun kf hk => ⟨_, by kernel_rfl, (oB [] (decide_eq_true g0) (oC (gS4) (oC (g1) (oP [.arr 1 (List.replicate rw.length (.i 0)) true 0] g2 (oP [.arr 1 (List.replicate rw.length (.i 0)) true 0] g3 .nil)))))⟩
theorem cl_c_1 (rw : List HV) (st : Int)  {y7 y8 y9 y10 y11 y12 y42 y43 y46 y47 : HV}(g0 : ¬ ((rw.length : Int) < 3)) : RT polCl 31 (sub [1, 1, 0] B31) (env31 (.imm .arg 1 rw) (.i st) (.imm .lit 1 []) (.i 0) (.i 0) y7 y8 y9 y10 y11 y12 y42 y43 y46 y47) [] .normal (env31 (.imm .arg 1 rw) (.i st) (.imm .lit 1 []) (.i 0) (.i 0) y7 y8 y9 y10 y11 y12 y42 y43 y46 y47) [] :=
  RunsTo.hin 0 60 [⟨3, 2, .bool false, []⟩] fun kf hk => ⟨_, by kernel_rfl, (oB [] (decide_eq_false g0) .nil)⟩
theorem cl_d_0 (rw : List HV) (st : Int)  {y7 y8 y9 y10 y11 y12 y42 y43 y46 y47 : HV} : RT polCl 31 (sub [1, 1, 1, 0] B31) (env31 (.imm .arg 1 rw) (.i st) (.imm .lit 1 []) (.i 0) (.i 0) y7 y8 y9 y10 y11 y12 y42 y43 y46 y47) [] .normal (env31 (.imm .arg 1 rw) (.i st) (.imm .lit 1 []) (.i 0) (.i 0) (.ptr 0 0 0 1) (.ptr 1 0 0 1) y9 y10 y11 y12 y42 y43 y46 y47) [.arr 11 [.agg [.i 0, .i 0, .i 0, .i 0, .i 0, .i 0, .i 0, .i 0, .i 0, .i 0, .i 0]] true 0, .arr 11 [.agg [.i 0, .i 0, .i 0, .i 0, .i 0, .i 0, .i 0, .i 0, .i 0, .i 0, .i 0]] true 0] :=
  RunsTo.hin 0 60 [] fun kf hk => ⟨_, by kernel_rfl, .nil⟩
theorem cl_e_0 (rw : List HV) (st : Int)  {y9 y10 y11 y12 y42 y43 y46 y47 : HV} {sm : Int} {ag : List HV} (g0 : ∀ kf, callN Tp polCl (kf + 1) 50 [.imm .arg 1 rw, .agg [.i 0, .i 0, .i 0, .i 0, .i 0, .i 0, .i 0, .i 0, .i 0, .i 0, .i 0]] [.arr 11 [.agg [.i 0, .i 0, .i 0, .i 0, .i 0, .i 0, .i 0, .i 0, .i 0, .i 0, .i 0]] true 0, .arr 11 [.agg [.i 0, .i 0, .i 0, .i 0, .i 0, .i 0, .i 0, .i 0, .i 0, .i 0, .i 0]] true 0] = some (.tuple [.i sm, .agg ag], [.arr 11 [.agg [.i 0, .i 0, .i 0, .i 0, .i 0, .i 0, .i 0, .i 0, .i 0, .i 0, .i 0]] true 0, .arr 11 [.agg [.i 0, .i 0, .i 0, .i 0, .i 0, .i 0, .i 0, .i 0, .i 0, .i 0, .i 0]] true 0])) (g1 : storeV Tp [.arr 11 [.agg [.i 0, .i 0, .i 0, .i 0, .i 0, .i 0, .i 0, .i 0, .i 0, .i 0, .i 0]] true 0, .arr 11 [.agg [.i 0, .i 0, .i 0, .i 0, .i 0, .i 0, .i 0, .i 0, .i 0, .i 0, .i 0]] true 0, .arr 11 [.agg [.i 0, .i 0, .i 0, .i 0, .i 0, .i 0, .i 0, .i 0, .i 0, .i 0, .i 0]] true 0] 66 (.ptr 2 0 0 1) (.agg ag) = some [.arr 11 [.agg [.i 0, .i 0, .i 0, .i 0, .i 0, .i 0, .i 0, .i 0, .i 0, .i 0, .i 0]] true 0, .arr 11 [.agg [.i 0, .i 0, .i 0, .i 0, .i 0, .i 0, .i 0, .i 0, .i 0, .i 0, .i 0]] true 0, .arr 11 [.agg ag] true 0]) : RT polCl 31 (sub [1, 1, 1, 1, 0] B31) (env31 (.imm .arg 1 rw) (.i st) (.imm .lit 1 []) (.i 0) (.i 0) (.ptr 0 0 0 1) (.ptr 1 0 0 1) y9 y10 y11 y12 y42 y43 y46 y47) [.arr 11 [.agg [.i 0, .i 0, .i 0, .i 0, .i 0, .i 0, .i 0, .i 0, .i 0, .i 0, .i 0]] true 0, .arr 11 [.agg [.i 0, .i 0, .i 0, .i 0, .i 0, .i 0, .i 0, .i 0, .i 0, .i 0, .i 0]] true 0] .normal (env31 (.imm .arg 1 rw) (.i st) (.imm .lit 1 []) (.i 0) (.i 0) (.ptr 0 0 0 1) (.ptr 1 0 0 1) (.i sm) (.ptr 2 0 0 1) y11 y12 y42 y43 y46 y47) [.arr 11 [.agg [.i 0, .i 0, .i 0, .i 0, .i 0, .i 0, .i 0, .i 0, .i 0, .i 0, .i 0]] true 0, .arr 11 [.agg [.i 0, .i 0, .i 0, .i 0, .i 0, .i 0, .i 0, .i 0, .i 0, .i 0, .i 0]] true 0, .arr 11 [.agg ag] true 0] :=
  RunsTo.hin 0 60 [⟨6, 2, .tuple [.i sm, .agg ag], [.arr 11 [.agg [.i 0, .i 0, .i 0, .i 0, .i 0, .i 0, .i 0, .i 0, .i 0, .i 0, .i 0]] true 0, .arr 11 [.agg [.i 0, .i 0, .i 0, .i 0, .i 0, .i 0, .i 0, .i 0, .i 0, .i 0, .i 0]] true 0]⟩, ⟨6, 8, .tuple [], [.arr 11 [.agg [.i 0, .i 0, .i 0, .i 0, .i 0, .i 0, .i 0, .i 0, .i 0, .i 0, .i 0]] true 0, .arr 11 [.agg [.i 0, .i 0, .i 0, .i 0, .i 0, .i 0, .i 0, .i 0, .i 0, .i 0, .i 0]] true 0, .arr 11 [.agg ag] true 0]⟩] fun kf hk => ⟨_, by kernel_rfl, (oC (g0 kf) (oS g1 .nil))⟩
theorem cl_f_0 (rw : List HV) (st : Int) (xs bs ds : List HV) (bv : Int) {y11 y12 y42 y43 y46 y47 : HV} : RT polCl 31 (sub [1, 1, 1, 1, 1, 0, 0] B31) (env31 (.imm .arg 1 rw) (.i st) (.imm .lit 1 []) (.i 0) (.i 0) (.ptr 0 0 0 1) (.ptr 1 0 0 1) (.i bv) (.ptr 2 0 0 1) y11 y12 y42 y43 y46 y47) [.arr 11 [.agg xs] true 0, .arr 11 [.agg bs] true 0, .arr 11 [.agg ds] true 0] .normal (env31 (.imm .arg 1 rw) (.i st) (.imm .lit 1 []) (.i 0) (.i 0) (.ptr 0 0 0 1) (.ptr 1 0 0 1) (.i bv) (.ptr 2 0 0 1) y11 y12 (.i st) (.i 0) y46 y47) [.arr 11 [.agg xs] true 0, .arr 11 [.agg bs] true 0, .arr 11 [.agg ds] true 0] :=
  RunsTo.hin 0 60 [] fun kf hk => ⟨_, by kernel_rfl, .nil⟩
theorem cl_g_0 (rw : List HV) (st : Int) (xs bs ds : List HV) (bv : Int) (k : Nat) {y11 y12 y46 y47 : HV}(g0 : (k : Int) < st) : RunsTo Tp polCl 31 (sub [1, 1, 1, 1, 1, 0, 1, 0, 0, 0] B31) (env31 (.imm .arg 1 rw) (.i st) (.imm .lit 1 []) (.i 0) (.i 0) (.ptr 0 0 0 1) (.ptr 1 0 0 1) (.i bv) (.ptr 2 0 0 1) y11 y12 (.i st) (.i (k : Int)) y46 y47) [.arr 11 [.agg xs] true 0, .arr 11 [.agg bs] true 0, .arr 11 [.agg ds] true 0] .normal [0, 1, 4, 5, 6, 7, 8, 9, 10, 11, 12, 42, 43, 46, 47, 44] [(0, .imm .arg 1 rw), (1, .i st), (4, .imm .lit 1 []), (5, .i 0), (6, .i 0), (7, .ptr 0 0 0 1), (8, .ptr 1 0 0 1), (9, .i bv), (10, .ptr 2 0 0 1), (11, y11), (12, y12), (42, .i st), (43, .i (k : Int)), (46, y46), (47, y47), (44, .bool true)] [.arr 11 [.agg xs] true 0, .arr 11 [.agg bs] true 0, .arr 11 [.agg ds] true 0] :=
  RunsTo.hin 0 60 [⟨8, 0, .bool true, [.arr 11 [.agg xs] true 0, .arr 11 [.agg bs] true 0, .arr 11 [.agg ds] true 0]⟩] fun kf hk => ⟨_, by kernel_rfl, (oB [.arr 11 [.agg xs] true 0, .arr 11 [.agg bs] true 0, .arr 11 [.agg ds] true 0] (decide_eq_true g0) .nil)⟩
theorem cl_g_1 (rw : List HV) (st : Int) (xs bs ds : List HV) (bv : Int) (k : Nat) {y11 y12 y46 y47 : HV}(g0 : ¬ ((k : Int) < st)) : RunsTo Tp polCl 31 (sub [1, 1, 1, 1, 1, 0, 1, 0, 0, 0] B31) (env31 (.imm .arg 1 rw) (.i st) (.imm .lit 1 []) (.i 0) (.i 0) (.ptr 0 0 0 1) (.ptr 1 0 0 1) (.i bv) (.ptr 2 0 0 1) y11 y12 (.i st) (.i (k : Int)) y46 y47) [.arr 11 [.agg xs] true 0, .arr 11 [.agg bs] true 0, .arr 11 [.agg ds] true 0] .normal [0, 1, 4, 5, 6, 7, 8, 9, 10, 11, 12, 42, 43, 46, 47, 44] [(0, .imm .arg 1 rw), (1, .i st), (4, .imm .lit 1 []), (5, .i 0), (6, .i 0), (7, .ptr 0 0 0 1), (8, .ptr 1 0 0 1), (9, .i bv), (10, .ptr 2 0 0 1), (11, y11), (12, y12), (42, .i st), (43, .i (k : Int)), (46, y46), (47, y47), (44, .bool false)] [.arr 11 [.agg xs] true 0, .arr 11 [.agg bs] true 0, .arr 11 [.agg ds] true 0] :=
  RunsTo.hin 0 60 [⟨8, 0, .bool false, [.arr 11 [.agg xs] true 0, .arr 11 [.agg bs] true 0, .arr 11 [.agg ds] true 0]⟩] fun kf hk => ⟨_, by kernel_rfl, (oB [.arr 11 [.agg xs] true 0, .arr 11 [.agg bs] true 0, .arr 11 [.agg ds] true 0] (decide_eq_false g0) .nil)⟩
theorem cl_ht_0 (rw : List HV) (st : Int) (xs bs ds : List HV) (bv : Int) (k : Nat) {y11 y12 y46 y47 : HV} : RT polCl 31 (sub [1, 1, 1, 1, 1, 0, 1, 0, 0, 1, 0] B31) [(0, .imm .arg 1 rw), (1, .i st), (4, .imm .lit 1 []), (5, .i 0), (6, .i 0), (7, .ptr 0 0 0 1), (8, .ptr 1 0 0 1), (9, .i bv), (10, .ptr 2 0 0 1), (11, y11), (12, y12), (42, .i st), (43, .i (k : Int)), (46, y46), (47, y47), (44, .bool true)] [.arr 11 [.agg xs] true 0, .arr 11 [.agg bs] true 0, .arr 11 [.agg ds] true 0] .normal (env31 (.imm .arg 1 rw) (.i st) (.imm .lit 1 []) (.i 0) (.i 0) (.ptr 0 0 0 1) (.ptr 1 0 0 1) (.i bv) (.ptr 2 0 0 1) y11 y12 (.i st) (.i (k : Int)) y46 y47) [.arr 11 [.agg xs] true 0, .arr 11 [.agg bs] true 0, .arr 11 [.agg ds] true 0] :=
  RunsTo.hin 0 60 [] fun kf hk => ⟨_, by kernel_rfl, .nil⟩
theorem cl_hf_0 (rw : List HV) (st : Int) (xs bs ds : List HV) (bv : Int) (k : Nat) {y11 y12 y46 y47 : HV} : RT polCl 31 (sub [1, 1, 1, 1, 1, 0, 1, 0, 0, 1, 0] B31) [(0, .imm .arg 1 rw), (1, .i st), (4, .imm .lit 1 []), (5, .i 0), (6, .i 0), (7, .ptr 0 0 0 1), (8, .ptr 1 0 0 1), (9, .i bv), (10, .ptr 2 0 0 1), (11, y11), (12, y12), (42, .i st), (43, .i (k : Int)), (46, y46), (47, y47), (44, .bool false)] [.arr 11 [.agg xs] true 0, .arr 11 [.agg bs] true 0, .arr 11 [.agg ds] true 0] (.exit 0) (env31 (.imm .arg 1 rw) (.i st) (.imm .lit 1 []) (.i 0) (.i 0) (.ptr 0 0 0 1) (.ptr 1 0 0 1) (.i bv) (.ptr 2 0 0 1) y11 y12 (.i st) (.i (k : Int)) y46 y47) [.arr 11 [.agg xs] true 0, .arr 11 [.agg bs] true 0, .arr 11 [.agg ds] true 0] :=
  RunsTo.hin 0 60 [] fun kf hk => ⟨_, by kernel_rfl, .nil⟩
theorem cl_i_0 (rw : List HV) (st : Int) (xs bs ds : List HV) (bv : Int) (k : Nat) {y11 y12 y46 y47 : HV} : RT polCl 31 (sub [1, 1, 1, 1, 1, 0, 1, 0, 0, 1, 1, 0, 0, 0, 0] B31) (env31 (.imm .arg 1 rw) (.i st) (.imm .lit 1 []) (.i 0) (.i 0) (.ptr 0 0 0 1) (.ptr 1 0 0 1) (.i bv) (.ptr 2 0 0 1) y11 y12 (.i st) (.i (k : Int)) y46 y47) [.arr 11 [.agg xs] true 0, .arr 11 [.agg bs] true 0, .arr 11 [.agg ds] true 0] .normal (env31 (.imm .arg 1 rw) (.i st) (.imm .lit 1 []) (.i 0) (.i 0) (.ptr 0 0 0 1) (.ptr 1 0 0 1) (.i bv) (.ptr 2 0 0 1) y11 y12 (.i st) (.i (k : Int)) (.i (rw.length : Int)) (.i 0)) [.arr 11 [.agg xs] true 0, .arr 11 [.agg bs] true 0, .arr 11 [.agg ds] true 0] :=
  RunsTo.hin 0 60 [] fun kf hk => ⟨_, by kernel_rfl, .nil⟩
theorem cl_j_0 (rw : List HV) (st : Int) (xs bs ds : List HV) (bv : Int) (k n i : Nat) {y11 y12 : HV} {x0 : Int} {x1 : Int} {cs0 : List HV} (g0 : (i : Int) < (n : Int)) (g1 : idxV Tp 66 (.ptr 0 0 0 1) (.i (i : Int)) = some (.ptr 0 0 i 1)) (g2 : loadV Tp [.arr 11 [.agg xs] true 0, .arr 11 [.agg bs] true 0, .arr 11 [.agg ds] true 0] 3 (.ptr 0 0 i 1) = some (.i x0)) (g3 : idxV Tp 66 (.ptr 2 0 0 1) (.i (i : Int)) = some (.ptr 2 0 i 1)) (g4 : loadV Tp [.arr 11 [.agg xs] true 0, .arr 11 [.agg bs] true 0, .arr 11 [.agg ds] true 0] 3 (.ptr 2 0 i 1) = some (.i x1)) (g5 : idxV Tp 66 (.ptr 0 0 0 1) (.i (i : Int)) = some (.ptr 0 0 i 1)) (g6 : storeV Tp [.arr 11 [.agg xs] true 0, .arr 11 [.agg bs] true 0, .arr 11 [.agg ds] true 0] 3 (.ptr 0 0 i 1) (.i (IntKind.i64.wrap (x0 + IntKind.i64.wrap (x1 - 2)))) = some [.arr 11 [.agg cs0] true 0, .arr 11 [.agg bs] true 0, .arr 11 [.agg ds] true 0]) : RT polCl 31 (sub [1, 1, 1, 1, 1, 0, 1, 0, 0, 1, 1, 0, 0, 0, 1, 0, 0] B31) (env31 (.imm .arg 1 rw) (.i st) (.imm .lit 1 []) (.i 0) (.i 0) (.ptr 0 0 0 1) (.ptr 1 0 0 1) (.i bv) (.ptr 2 0 0 1) y11 y12 (.i st) (.i (k : Int)) (.i (n : Int)) (.i (i : Int))) [.arr 11 [.agg xs] true 0, .arr 11 [.agg bs] true 0, .arr 11 [.agg ds] true 0] .normal (env31 (.imm .arg 1 rw) (.i st) (.imm .lit 1 []) (.i 0) (.i 0) (.ptr 0 0 0 1) (.ptr 1 0 0 1) (.i bv) (.ptr 2 0 0 1) (.i (i : Int)) y12 (.i st) (.i (k : Int)) (.i (n : Int)) (.i (IntKind.i64.wrap ((i : Int) + 1)))) [.arr 11 [.agg cs0] true 0, .arr 11 [.agg bs] true 0, .arr 11 [.agg ds] true 0] :=
  RunsTo.hin 0 60 [⟨10, 0, .bool true, [.arr 11 [.agg xs] true 0, .arr 11 [.agg bs] true 0, .arr 11 [.agg ds] true 0]⟩, ⟨12, 1, .ptr 0 0 i 1, [.arr 11 [.agg xs] true 0, .arr 11 [.agg bs] true 0, .arr 11 [.agg ds] true 0]⟩, ⟨12, 2, .i x0, [.arr 11 [.agg xs] true 0, .arr 11 [.agg bs] true 0, .arr 11 [.agg ds] true 0]⟩, ⟨12, 4, .ptr 2 0 i 1, [.arr 11 [.agg xs] true 0, .arr 11 [.agg bs] true 0, .arr 11 [.agg ds] true 0]⟩, ⟨12, 5, .i x1, [.arr 11 [.agg xs] true 0, .arr 11 [.agg bs] true 0, .arr 11 [.agg ds] true 0]⟩, ⟨12, 8, .ptr 0 0 i 1, [.arr 11 [.agg xs] true 0, .arr 11 [.agg bs] true 0, .arr 11 [.agg ds] true 0]⟩, ⟨12, 9, .tuple [], [.arr 11 [.agg cs0] true 0, .arr 11 [.agg bs] true 0, .arr 11 [.agg ds] true 0]⟩] fun kf hk => ⟨_, by kernel_rfl, (oB [.arr 11 [.agg xs] true 0, .arr 11 [.agg bs] true 0, .arr 11 [.agg ds] true 0] (decide_eq_true g0) (oP [.arr 11 [.agg xs] true 0, .arr 11 [.agg bs] true 0, .arr 11 [.agg ds] true 0] g1 (oP [.arr 11 [.agg xs] true 0, .arr 11 [.agg bs] true 0, .arr 11 [.agg ds] true 0] g2 (oP [.arr 11 [.agg xs] true 0, .arr 11 [.agg bs] true 0, .arr 11 [.agg ds] true 0] g3 (oP [.arr 11 [.agg xs] true 0, .arr 11 [.agg bs] true 0, .arr 11 [.agg ds] true 0] g4 (oP [.arr 11 [.agg xs] true 0, .arr 11 [.agg bs] true 0, .arr 11 [.agg ds] true 0] g5 (oS g6 .nil)))))))⟩
theorem cl_j_1 (rw : List HV) (st : Int) (xs bs ds : List HV) (bv : Int) (k n i : Nat) {y11 y12 : HV}(g0 : ¬ ((i : Int) < (n : Int))) : RT polCl 31 (sub [1, 1, 1, 1, 1, 0, 1, 0, 0, 1, 1, 0, 0, 0, 1, 0, 0] B31) (env31 (.imm .arg 1 rw) (.i st) (.imm .lit 1 []) (.i 0) (.i 0) (.ptr 0 0 0 1) (.ptr 1 0 0 1) (.i bv) (.ptr 2 0 0 1) y11 y12 (.i st) (.i (k : Int)) (.i (n : Int)) (.i (i : Int))) [.arr 11 [.agg xs] true 0, .arr 11 [.agg bs] true 0, .arr 11 [.agg ds] true 0] (.exit 2) (env31 (.imm .arg 1 rw) (.i st) (.imm .lit 1 []) (.i 0) (.i 0) (.ptr 0 0 0 1) (.ptr 1 0 0 1) (.i bv) (.ptr 2 0 0 1) y11 y12 (.i st) (.i (k : Int)) (.i (n : Int)) (.i (i : Int))) [.arr 11 [.agg xs] true 0, .arr 11 [.agg bs] true 0, .arr 11 [.agg ds] true 0] :=
  RunsTo.hin 0 60 [⟨10, 0, .bool false, [.arr 11 [.agg xs] true 0, .arr 11 [.agg bs] true 0, .arr 11 [.agg ds] true 0]⟩] fun kf hk => ⟨_, by kernel_rfl, (oB [.arr 11 [.agg xs] true 0, .arr 11 [.agg bs] true 0, .arr 11 [.agg ds] true 0] (decide_eq_false g0) .nil)⟩
theorem cl_k_0 (rw : List HV) (st : Int) (xs bs ds : List HV) (bv : Int) (k : Nat) {y11 y12 y46 y47 : HV} {sm : Int} {ag : List HV} (g0 : loadV Tp [.arr 11 [.agg xs] true 0, .arr 11 [.agg bs] true 0, .arr 11 [.agg ds] true 0] 66 (.ptr 0 0 0 1) = some (.agg xs)) (g1 : ∀ kf, callN Tp polCl (kf + 1) 50 [.imm .arg 1 rw, .agg xs] [.arr 11 [.agg xs] true 0, .arr 11 [.agg bs] true 0, .arr 11 [.agg ds] true 0] = some (.tuple [.i sm, .agg ag], [.arr 11 [.agg xs] true 0, .arr 11 [.agg bs] true 0, .arr 11 [.agg ds] true 0])) (g2 : storeV Tp [.arr 11 [.agg xs] true 0, .arr 11 [.agg bs] true 0, .arr 11 [.agg ds] true 0] 66 (.ptr 2 0 0 1) (.agg ag) = some [.arr 11 [.agg xs] true 0, .arr 11 [.agg bs] true 0, .arr 11 [.agg ag] true 0]) (g3 : bv < sm) (g4 : loadV Tp [.arr 11 [.agg xs] true 0, .arr 11 [.agg bs] true 0, .arr 11 [.agg ag] true 0] 66 (.ptr 0 0 0 1) = some (.agg xs)) (g5 : storeV Tp [.arr 11 [.agg xs] true 0, .arr 11 [.agg bs] true 0, .arr 11 [.agg ag] true 0] 66 (.ptr 1 0 0 1) (.agg xs) = some [.arr 11 [.agg xs] true 0, .arr 11 [.agg xs] true 0, .arr 11 [.agg ag] true 0]) : RT polCl 31 (sub [1, 1, 1, 1, 1, 0, 1, 0, 0, 1, 1, 0, 0, 1] B31) (env31 (.imm .arg 1 rw) (.i st) (.imm .lit 1 []) (.i 0) (.i 0) (.ptr 0 0 0 1) (.ptr 1 0 0 1) (.i bv) (.ptr 2 0 0 1) y11 y12 (.i st) (.i (k : Int)) y46 y47) [.arr 11 [.agg xs] true 0, .arr 11 [.agg bs] true 0, .arr 11 [.agg ds] true 0] .normal (env31 (.imm .arg 1 rw) (.i st) (.imm .lit 1 []) (.i 0) (.i 0) (.ptr 0 0 0 1) (.ptr 1 0 0 1) (.i sm) (.ptr 2 0 0 1) y11 (.i sm) (.i st) (.i (k : Int)) y46 y47) [.arr 11 [.agg xs] true 0, .arr 11 [.agg xs] true 0, .arr 11 [.agg ag] true 0] :=
  RunsTo.hin 0 60 [⟨15, 1, .agg xs, [.arr 11 [.agg xs] true 0, .arr 11 [.agg bs] true 0, .arr 11 [.agg ds] true 0]⟩, ⟨15, 2, .tuple [.i sm, .agg ag], [.arr 11 [.agg xs] true 0, .arr 11 [.agg bs] true 0, .arr 11 [.agg ds] true 0]⟩, ⟨15, 7, .tuple [], [.arr 11 [.agg xs] true 0, .arr 11 [.agg bs] true 0, .arr 11 [.agg ag] true 0]⟩, ⟨16, 2, .bool true, [.arr 11 [.agg xs] true 0, .arr 11 [.agg bs] true 0, .arr 11 [.agg ag] true 0]⟩, ⟨17, 1, .agg xs, [.arr 11 [.agg xs] true 0, .arr 11 [.agg bs] true 0, .arr 11 [.agg ag] true 0]⟩, ⟨17, 3, .tuple [], [.arr 11 [.agg xs] true 0, .arr 11 [.agg xs] true 0, .arr 11 [.agg ag] true 0]⟩] fun kf hk => ⟨_, by kernel_rfl, (oP [.arr 11 [.agg xs] true 0, .arr 11 [.agg bs] true 0, .arr 11 [.agg ds] true 0] g0 (oC (g1 kf) (oS g2 (oB [.arr 11 [.agg xs] true 0, .arr 11 [.agg bs] true 0, .arr 11 [.agg ag] true 0] (decide_eq_true g3) (oP [.arr 11 [.agg xs] true 0, .arr 11 [.agg bs] true 0, .arr 11 [.agg ag] true 0] g4 (oS g5 .nil))))))⟩
theorem cl_k_1 (rw : List HV) (st : Int) (xs bs ds : List HV) (bv : Int) (k : Nat) {y11 y12 y46 y47 : HV} {sm : Int} {ag : List HV} (g0 : loadV Tp [.arr 11 [.agg xs] true 0, .arr 11 [.agg bs] true 0, .arr 11 [.agg ds] true 0] 66 (.ptr 0 0 0 1) = some (.agg xs)) (g1 : ∀ kf, callN Tp polCl (kf + 1) 50 [.imm .arg 1 rw, .agg xs] [.arr 11 [.agg xs] true 0, .arr 11 [.agg bs] true 0, .arr 11 [.agg ds] true 0] = some (.tuple [.i sm, .agg ag], [.arr 11 [.agg xs] true 0, .arr 11 [.agg bs] true 0, .arr 11 [.agg ds] true 0])) (g2 : storeV Tp [.arr 11 [.agg xs] true 0, .arr 11 [.agg bs] true 0, .arr 11 [.agg ds] true 0] 66 (.ptr 2 0 0 1) (.agg ag) = some [.arr 11 [.agg xs] true 0, .arr 11 [.agg bs] true 0, .arr 11 [.agg ag] true 0]) (g3 : ¬ (bv < sm)) : RT polCl 31 (sub [1, 1, 1, 1, 1, 0, 1, 0, 0, 1, 1, 0, 0, 1] B31) (env31 (.imm .arg 1 rw) (.i st) (.imm .lit 1 []) (.i 0) (.i 0) (.ptr 0 0 0 1) (.ptr 1 0 0 1) (.i bv) (.ptr 2 0 0 1) y11 y12 (.i st) (.i (k : Int)) y46 y47) [.arr 11 [.agg xs] true 0, .arr 11 [.agg bs] true 0, .arr 11 [.agg ds] true 0] .normal (env31 (.imm .arg 1 rw) (.i st) (.imm .lit 1 []) (.i 0) (.i 0) (.ptr 0 0 0 1) (.ptr 1 0 0 1) (.i bv) (.ptr 2 0 0 1) y11 (.i sm) (.i st) (.i (k : Int)) y46 y47) [.arr 11 [.agg xs] true 0, .arr 11 [.agg bs] true 0, .arr 11 [.agg ag] true 0] :=
  RunsTo.hin 0 60 [⟨15, 1, .agg xs, [.arr 11 [.agg xs] true 0, .arr 11 [.agg bs] true 0, .arr 11 [.agg ds] true 0]⟩, ⟨15, 2, .tuple [.i sm, .agg ag], [.arr 11 [.agg xs] true 0, .arr 11 [.agg bs] true 0, .arr 11 [.agg ds] true 0]⟩, ⟨15, 7, .tuple [], [.arr 11 [.agg xs] true 0, .arr 11 [.agg bs] true 0, .arr 11 [.agg ag] true 0]⟩, ⟨16, 2, .bool false, [.arr 11 [.agg xs] true 0, .arr 11 [.agg bs] true 0, .arr 11 [.agg ag] true 0]⟩] fun kf hk => ⟨_, by kernel_rfl, (oP [.arr 11 [.agg xs] true 0, .arr 11 [.agg bs] true 0, .arr 11 [.agg ds] true 0] g0 (oC (g1 kf) (oS g2 (oB [.arr 11 [.agg xs] true 0, .arr 11 [.agg bs] true 0, .arr 11 [.agg ag] true 0] (decide_eq_false g3) .nil))))⟩
theorem cl_l_0 (rw : List HV) (st : Int) (xs bs ds : List HV) (bv : Int) (k : Nat) {y11 y12 y46 y47 : HV} : RT polCl 31 (sub [1, 1, 1, 1, 1, 0, 1, 0, 0, 1, 1, 1] B31) (env31 (.imm .arg 1 rw) (.i st) (.imm .lit 1 []) (.i 0) (.i 0) (.ptr 0 0 0 1) (.ptr 1 0 0 1) (.i bv) (.ptr 2 0 0 1) y11 y12 (.i st) (.i (k : Int)) y46 y47) [.arr 11 [.agg xs] true 0, .arr 11 [.agg bs] true 0, .arr 11 [.agg ds] true 0] .normal (env31 (.imm .arg 1 rw) (.i st) (.imm .lit 1 []) (.i 0) (.i 0) (.ptr 0 0 0 1) (.ptr 1 0 0 1) (.i bv) (.ptr 2 0 0 1) y11 y12 (.i st) (.i (IntKind.i64.wrap ((k : Int) + 1))) y46 y47) [.arr 11 [.agg xs] true 0, .arr 11 [.agg bs] true 0, .arr 11 [.agg ds] true 0] :=
  RunsTo.hin 0 60 [] fun kf hk => ⟨_, by kernel_rfl, .nil⟩
theorem cl_m_0 (rw : List HV) (st : Int) (xs bs ds : List HV) (bv : Int) {y11 y12 y42 y43 y46 y47 : HV} {m : Nat} {ts : List HV} (g0 : sliceV Tp 66 (.ptr 1 0 0 1) none (some (.i (rw.length : Int))) none = some (.aview 1 0 0 rw.length)) (g1 : ∀ kf, callN Tp polCl (kf + 1) 52 [.aview 1 0 0 rw.length] [.arr 11 [.agg xs] true 0, .arr 11 [.agg bs] true 0, .arr 11 [.agg ds] true 0] = some (.sl 3 0 m none m 1, [.arr 11 [.agg xs] true 0, .arr 11 [.agg bs] true 0, .arr 11 [.agg ds] true 0, .arr 1 ts true 0])) : RT polCl 31 (sub [1, 1, 1, 1, 1, 1] B31) (env31 (.imm .arg 1 rw) (.i st) (.imm .lit 1 []) (.i 0) (.i 0) (.ptr 0 0 0 1) (.ptr 1 0 0 1) (.i bv) (.ptr 2 0 0 1) y11 y12 y42 y43 y46 y47) [.arr 11 [.agg xs] true 0, .arr 11 [.agg bs] true 0, .arr 11 [.agg ds] true 0] .ret (env31 (.imm .arg 1 rw) (.i st) (.sl 3 0 m none m 1) (.i bv) (.i 0) (.ptr 0 0 0 1) (.ptr 1 0 0 1) (.i bv) (.ptr 2 0 0 1) y11 y12 y42 y43 y46 y47) [.arr 11 [.agg xs] true 0, .arr 11 [.agg bs] true 0, .arr 11 [.agg ds] true 0, .arr 1 ts true 0] :=
  RunsTo.hin 0 60 [⟨19, 2, .aview 1 0 0 rw.length, [.arr 11 [.agg xs] true 0, .arr 11 [.agg bs] true 0, .arr 11 [.agg ds] true 0]⟩, ⟨19, 3, .sl 3 0 m none m 1, [.arr 11 [.agg xs] true 0, .arr 11 [.agg bs] true 0, .arr 11 [.agg ds] true 0, .arr 1 ts true 0]⟩] fun kf hk => ⟨_, by kernel_rfl, (oP [.arr 11 [.agg xs] true 0, .arr 11 [.agg bs] true 0, .arr 11 [.agg ds] true 0] g0 (oC (g1 kf) .nil))⟩
end Go.Proofs.Ytlendaofkmhgmaa
end
section
open Go Go.HL Go.HL.So
namespace Go.Proofs.Ytlendaofkmhgmaa
open Go.Proofs.Try renaming prog → Tp
open Go.HL.HV renaming undef → Ud
theorem res31 : Try.f31.results.toList = [.tmp 4, .tmp 5, .tmp 6] := by kernel_rfl
section
variable {d : List (List Int)} {st : Int}
abbrev clE (d : List (List Int)) (st bv : Int) (v11 v12 v42 v43 v46 v47 : HV) : Env := (env31 (.imm .arg 1 (d.map encR)) (.int .i64 st) (.imm .lit 1 []) (.int .i64 0) (.int .i64 0) (.ptr 0 0 0 1) (.ptr 1 0 0 1) (.int .i64 bv) (.ptr 2 0 0 1) v11 v12 v42 v43 v46 v47)
abbrev clH (xs bs ds : List Int) : Heap := [pB xs, pB bs, pB ds]
theorem cl_in (hd : okD d) (h2 : 2 ≤ d.length) {p bs : List Int} {j : Nat} {bv : Int} (hp : PB d.length j p) (hj : j ≤ 200) {kN : Nat} : ∀ k i (u : List Int), i + k = d.length → u.length = 11 → (∀ x, x < 11 → u.getD x 0 = if x < i then (cstep d p).getD x 0 else (pad p).getD x 0) →
    ∃ y11, RT polCl 31 (sub [1, 1, 1, 1, 1, 0, 1, 0, 0, 1, 1, 0, 0, 0, 1, 0] B31) (clE d st bv Ud Ud (.int .i64 st) (.int .i64 (kN : Int)) (.int .i64 (d.length : Int)) (.int .i64 (i : Int))) (clH u bs (degs (chosen d p))) (.exit 2)
      (clE d st bv y11 Ud (.int .i64 st) (.int .i64 (kN : Int)) (.int .i64 (d.length : Int)) (.int .i64 (d.length : Int))) (clH (pad (cstep d p)) bs (degs (chosen d p))) := by
  have hdn := hd.1
  have hda := degs_at (p := p) hd h2
  intro k
  induction k with
  | zero =>
    intro i u hi hu hx
    have : i = d.length := by omega
    subst this
    have e : u = pad (cstep d p) := li_ext (by rw [hu, pad_len (by rw [cstep_len]; omega)]) fun x hxl => by
      rw [hu] at hxl
      rw [hx x hxl]
      split
      · rw [pad_get _ _ (by rw [cstep_len]; assumption)]
      · rw [pad_hi (l := p) (by rw [hp.1]; omega) hxl, pad_hi (l := cstep d p) (by rw [cstep_len]; omega) hxl]
    rw [e]
    exact ⟨_, lpo ((cl_j_1 (d.map encR) st ((pad (cstep d p)).map encI) (bs.map encI) ((degs (chosen d p)).map encI) bv kN d.length d.length (y11 := Ud) (y12 := Ud) (by omega)))⟩
  | succ k ih =>
    intro i u hi hu hx
    have hxi := hx i (by omega)
    rw [if_neg (by omega), pad_get _ _ (by rw [hp.1]; omega)] at hxi
    have b1 := hp.2 i (by omega)
    have b2 := hda.2 i (by omega)
    have w1 : IntKind.i64.wrap ((degs (chosen d p)).getD i 0 - 2) = (degs (chosen d p)).getD i 0 - 2 := wrap_id (by omega) (by omega)
    have w2 : IntKind.i64.wrap (u.getD i 0 + ((degs (chosen d p)).getD i 0 - 2)) = (cstep d p).getD i 0 := by
      rw [cstep_at (by omega), hxi]; exact wrap_id (by omega) (by omega)
    have s := cl_j_0 (d.map encR) st (u.map encI) (bs.map encI) ((degs (chosen d p)).map encI) bv kN d.length i (y11 := Ud) (y12 := Ud) (by omega) (px (H := []) (by omega)) (pl_at (H := clH u bs (degs (chosen d p))) (b := 0) rfl hu (by omega)) (px (H := []) (by omega)) (pl_at (H := clH u bs (degs (chosen d p))) (b := 2) rfl hda.1 (by omega)) (px (H := []) (by omega))
      (by rw [w1, w2]; exact pst (H := clH u bs (degs (chosen d p))) (b := 0) (i := i) rfl hu (by omega) _)
    rw [wrap_succ (by omega)] at s
    obtain ⟨y11, r⟩ := ih (i + 1) (u.set i ((cstep d p).getD i 0)) (by omega) (by simpa using hu) (fun x hxl => by
      rw [getDs _ _ _ _ (by omega)]
      by_cases e : i = x
      · subst e; rw [if_pos rfl, if_pos (by omega)]
      · rw [if_neg e, hx x hxl]
        by_cases c : x < i
        · rw [if_pos c, if_pos (by omega)]
        · rw [if_neg c, if_neg (by omega)])
    exact ⟨y11, lop (s) (gc_eq _ rfl) (r)⟩
theorem cl_out (hd : okD d) (h2 : 2 ≤ d.length) {s : Nat} (hs : s ≤ 100) : ∀ k i (p b : List Int) (v : Int), i + k = s → PB d.length i p → b.length = d.length →
    ∃ y11 y12 y42 y43 y46 y47 xs ds, RT polCl 31 (sub [1, 1, 1, 1, 1, 0, 1, 0] B31) (clE d (s : Int) v Ud Ud (.int .i64 (s : Int)) (.int .i64 (i : Int)) Ud Ud) (clH (pad p) (pad b) (degs (chosen d p))) (.exit 0)
      (clE d (s : Int) (clim d k p b v).2 y11 y12 y42 y43 y46 y47) (clH xs (pad (clim d k p b v).1) ds) := by
  have hdn := hd.1
  intro k
  induction k with
  | zero =>
    intro i p b v hi hp hb
    have : i = s := by omega
    subst this
    have s1 := cl_g_1 (d.map encR) (i : Int) ((pad p).map encI) ((pad b).map encI) ((degs (chosen d p)).map encI) v i (y11 := Ud) (y12 := Ud) (y46 := Ud) (y47 := Ud) (by omega)
    have s2 := cl_hf_0 (d.map encR) (i : Int) ((pad p).map encI) ((pad b).map encI) ((degs (chosen d p)).map encI) v i (y11 := Ud) (y12 := Ud) (y46 := Ud) (y47 := Ud)
    exact ⟨_, _, _, _, _, _, _, _, lpo (sq (s1) (sqo (s2) (c := sub [1, 1, 1, 1, 1, 0, 1, 0, 0, 1] B31) (b := sub [1, 1, 1, 1, 1, 0, 1, 0, 0, 1, 1] B31)) (c := sub [1, 1, 1, 1, 1, 0, 1, 0, 0] B31))⟩
  | succ k ih =>
    intro i p b v hi hp hb
    have hda := degs_at (p := p) hd h2
    have hp' := hp.step hd h2
    have s1 := cl_g_0 (d.map encR) (s : Int) ((pad p).map encI) ((pad b).map encI) ((degs (chosen d p)).map encI) v i (y11 := Ud) (y12 := Ud) (y46 := Ud) (y47 := Ud) (by omega)
    have s2 := cl_ht_0 (d.map encR) (s : Int) ((pad p).map encI) ((pad b).map encI) ((degs (chosen d p)).map encI) v i (y11 := Ud) (y12 := Ud) (y46 := Ud) (y47 := Ud)
    have s3 := cl_i_0 (d.map encR) (s : Int) ((pad p).map encI) ((pad b).map encI) ((degs (chosen d p)).map encI) v i (y11 := Ud) (y12 := Ud) (y46 := Ud) (y47 := Ud)
    rw [List.length_map] at s3
    obtain ⟨z11, r0⟩ := cl_in (st := (s : Int)) (bs := pad b) (bv := v) (kN := i) hd h2 hp (by omega) d.length 0 (pad p) (by omega) (pad_len (by rw [hp.1]; omega)) (fun x hx => by rw [if_neg (by omega)])
    have hq := q50 (pol' := polCl) (by kernel_rfl) hd (pad_small (l := cstep d p) (by rw [cstep_len]; omega) (hp'.ok (by omega))) (clH (pad (cstep d p)) (pad b) (degs (chosen d p))) (arg_rw _ d)
    rw [bnd_pad (by omega) (cstep_len d p), chosen_cong (p := pad (cstep d p)) (p' := cstep d p) (by omega) (fun a ha => pad_get _ a (by rw [cstep_len]; exact ha))] at hq
    have hl11 : (pad (cstep d p)).length = 11 := pad_len (by rw [cstep_len]; omega)
    have hl11' : (pad b).length = 11 := pad_len (by omega)
    have hda' := degs_at (p := cstep d p) hd h2
    rw [clim]
    by_cases c : v < boundS d (cstep d p)
    · have s4 := cl_k_0 (d.map encR) (s : Int) ((pad (cstep d p)).map encI) ((pad b).map encI) ((degs (chosen d p)).map encI) v i (y12 := Ud) (y11 := z11) (y46 := .int .i64 (d.length : Int)) (y47 := .int .i64 (d.length : Int)) (pl_all (b := 0) rfl hl11) hq (pst_all (H := clH (pad (cstep d p)) (pad b) (degs (chosen d p))) (b := 2) (t := degs (chosen d p)) rfl hda.1 hda'.1) c (pl_all (H := clH (pad (cstep d p)) (pad b) (degs (chosen d (cstep d p)))) (b := 0) rfl hl11) (pst_all (H := clH (pad (cstep d p)) (pad b) (degs (chosen d (cstep d p)))) (b := 1) (t := pad b) rfl hl11' hl11)
      have s5 := cl_l_0 (d.map encR) (s : Int) ((pad (cstep d p)).map encI) ((pad (cstep d p)).map encI) ((degs (chosen d (cstep d p))).map encI) (boundS d (cstep d p)) i (y11 := z11) (y12 := .int .i64 (boundS d (cstep d p))) (y46 := .int .i64 (d.length : Int)) (y47 := .int .i64 (d.length : Int))
      rw [wrap_succ (by omega)] at s5
      obtain ⟨y11, y12, y42, y43, y46, y47, xs, ds, r⟩ := ih (i + 1) (cstep d p) (cstep d p) (boundS d (cstep d p)) (by omega) hp' (cstep_len d p)
      rw [if_pos c, if_pos c]
      exact ⟨y11, y12, y42, y43, y46, y47, xs, ds, lop (sq (s1) (sq (s2) (sq (RunsTo.block_normal (i := 1) (c := sub [1, 1, 1, 1, 1, 0, 1, 0, 0, 1, 1, 0] B31) (sq (sq (s3) (bke (c := sub [1, 1, 1, 1, 1, 0, 1, 0, 0, 1, 1, 0, 0, 0, 1] B31) (lpi (e0 := (clE d (s : Int) v Ud Ud (.int .i64 (s : Int)) (.int .i64 (i : Int)) (.int .i64 (d.length : Int)) (.int .i64 ((0 : Nat) : Int)))) r0 (b := sub [1, 1, 1, 1, 1, 0, 1, 0, 0, 1, 1, 0, 0, 0, 1, 0, 0] B31))) (c := sub [1, 1, 1, 1, 1, 0, 1, 0, 0, 1, 1, 0, 0, 0] B31)) (s4) (c := sub [1, 1, 1, 1, 1, 0, 1, 0, 0, 1, 1, 0, 0] B31)) (by kernel_rfl)) (s5) (c := sub [1, 1, 1, 1, 1, 0, 1, 0, 0, 1, 1] B31)) (c := sub [1, 1, 1, 1, 1, 0, 1, 0, 0, 1] B31)) (c := sub [1, 1, 1, 1, 1, 0, 1, 0, 0] B31)) (gc_eq _ rfl) (r)⟩
    · have s4 := cl_k_1 (d.map encR) (s : Int) ((pad (cstep d p)).map encI) ((pad b).map encI) ((degs (chosen d p)).map encI) v i (y12 := Ud) (y11 := z11) (y46 := .int .i64 (d.length : Int)) (y47 := .int .i64 (d.length : Int)) (pl_all (b := 0) rfl hl11) hq (pst_all (H := clH (pad (cstep d p)) (pad b) (degs (chosen d p))) (b := 2) (t := degs (chosen d p)) rfl hda.1 hda'.1) c
      have s5 := cl_l_0 (d.map encR) (s : Int) ((pad (cstep d p)).map encI) ((pad b).map encI) ((degs (chosen d (cstep d p))).map encI) v i (y11 := z11) (y12 := .int .i64 (boundS d (cstep d p))) (y46 := .int .i64 (d.length : Int)) (y47 := .int .i64 (d.length : Int))
      rw [wrap_succ (by omega)] at s5
      obtain ⟨y11, y12, y42, y43, y46, y47, xs, ds, r⟩ := ih (i + 1) (cstep d p) b v (by omega) hp' hb
      rw [if_neg c, if_neg c]
      exact ⟨y11, y12, y42, y43, y46, y47, xs, ds, lop (sq (s1) (sq (s2) (sq (RunsTo.block_normal (i := 1) (c := sub [1, 1, 1, 1, 1, 0, 1, 0, 0, 1, 1, 0] B31) (sq (sq (s3) (bke (c := sub [1, 1, 1, 1, 1, 0, 1, 0, 0, 1, 1, 0, 0, 0, 1] B31) (lpi (e0 := (clE d (s : Int) v Ud Ud (.int .i64 (s : Int)) (.int .i64 (i : Int)) (.int .i64 (d.length : Int)) (.int .i64 ((0 : Nat) : Int)))) r0 (b := sub [1, 1, 1, 1, 1, 0, 1, 0, 0, 1, 1, 0, 0, 0, 1, 0, 0] B31))) (c := sub [1, 1, 1, 1, 1, 0, 1, 0, 0, 1, 1, 0, 0, 0] B31)) (s4) (c := sub [1, 1, 1, 1, 1, 0, 1, 0, 0, 1, 1, 0, 0] B31)) (by kernel_rfl)) (s5) (c := sub [1, 1, 1, 1, 1, 0, 1, 0, 0, 1, 1] B31)) (c := sub [1, 1, 1, 1, 1, 0, 1, 0, 0, 1] B31)) (c := sub [1, 1, 1, 1, 1, 0, 1, 0, 0] B31)) (gc_eq _ rfl) (r)⟩
end
theorem slArr {n : Nat} (h : n ≤ 11) {b : Nat} : sliceV Tp 66 (.ptr b 0 0 1) none (some (.int .i64 (n : Int))) none = some (.aview b 0 0 n) := by
  have e : boundV (some (.int .i64 (n : Int))) = some (some n) := by
    show (if (0 : Int) ≤ (n : Int) then some (some ((n : Int)).toNat) else none) = _
    rw [if_pos (by omega), Int.toNat_natCast]
  have ha : tyAgg Tp 3 = false := by kernel_rfl
  simp only [sliceV, e, boundV, u66, z3]
  simp [h, ha]
theorem arg_av {H : Heap} {b n : Nat} {u : List Int} (hb : H[b]? = some (pB u)) (hn : n ≤ u.length) : toArg H 6 (.aview b 0 0 n) = some (.imm .arg 1 ((u.take n).map encI)) := by
  have hm : mapO (toArg H 5) ((u.take n).map encI) = some ((u.take n).map encI) := mapO_self (f := toArg H 5) (g := encI) (fun _ => rfl) _
  have e : ∀ B, H[b]? = B → toArg H 6 (.aview b 0 0 n) = (match B with | some (.arr _ els _ _) => (match els[0]? with | some (HV.agg cs) => if els.length = 1 ∧ 0 + n ≤ cs.length then (match mapO (toArg H 5) ((cs.drop 0).take n) with | some l => some (HV.imm .arg 1 l) | none => none) else none | _ => none) | _ => none) := fun B hB => by subst hB; rfl
  rw [e _ hb]
  show (if [HV.agg (u.map encI)].length = 1 ∧ 0 + n ≤ (u.map encI).length then (match mapO (toArg H 5) (((u.map encI).drop 0).take n) with | some l => some (HV.imm .arg 1 l) | none => none) else none) = _
  rw [if_pos ⟨rfl, by rw [List.length_map]; omega⟩, List.drop_zero, ← List.map_take, hm]
theorem q52a {pol' : Pol} (hp : pol'.prim 52 = some clone52) {H : Heap} {b n : Nat} {u : List Int} (hb : H[b]? = some (pB u)) (hn : n ≤ u.length) (hu : u.length ≤ 1000) (h0 : 1 ≤ n) :
    ∀ kf, callN Tp pol' (kf + 1) 52 [.aview b 0 0 n] H = some (.sl H.length 0 n none n 1, H ++ [bI (u.take n)]) := fun kf => by
  have hl : (u.take n).length = n := by rw [List.length_take]; omega
  rw [prim_call (pol := pol') (g := 52) (F := clone52) hp (rs := [.imm .arg 1 ((u.take n).map encI)]) (by simp only [mapO, arg_av hb hn]) (res := .own 1 ((u.take n).map encI)) (by simp only [clone52, liF, mapO_map decI_enc]; rw [if_pos (by omega)]), recv_ints, hl]
theorem pad_take {n : Nat} {l : List Int} (h : l.length = n) : (pad l).take n = l := by rw [pad, ← h, List.take_left]
open Classical in
theorem climb_ok : PrimOk Tp 31 climb31 := by
  refine primOk_pure (pol := polCl) (fn := Try.f31) (cd := B31) follows_mixed soundCl (by kernel_rfl) (by kernel_rfl) (fnok polCl.prim _ _ (by kernel_rfl)) (by kernel_rfl) ?_
  intro args res h
  obtain ⟨d, s0, rfl, hq⟩ := riF_inv h
  clear h
  split at hq
  case isFalse => cases hq
  rename_i hc
  cases hq
  have a := cl_a_0 (d.map encR) s0
  have bad : ∀ (E : Env) (Hd : Heap), RT polCl 31 (sub [1, 0] B31) (env31 (.imm .arg 1 (d.map encR)) (.int .i64 s0) (.imm .lit 1 []) (.int .i64 0) (.int .i64 0) Ud Ud Ud Ud Ud Ud Ud Ud Ud Ud) [] .ret E Hd → E.get 4 = .imm .lit 1 [] → E.get 5 = .int .i64 0 → E.get 6 = .int .i64 2 → ¬ (okD d ∧ 0 ≤ s0 ∧ s0 ≤ 100) →
      ∃ x E H' v, RT polCl 31 B31 (args0 [.imm .arg 1 (d.map encR), .int .i64 s0]) [] x E H' ∧ (∀ i, x ≠ .exit i) ∧ resultsV Tp Try.f31 E H' = some v ∧ toRes H' (polCl.deep 31) v = some (if okD d ∧ 0 ≤ s0 ∧ s0 ≤ 100 then .tuple [.own 1 ((climT d s0.toNat).1.map encI), .int .i64 (climT d s0.toNat).2, .int .i64 0] else .tuple [.own 1 [], .int .i64 0, .int .i64 2]) := by
    intro E Hd t h4 h5 h6 hn
    rw [if_neg hn]
    exact ⟨_, _, _, .tuple [.imm .lit 1 [], .int .i64 0, .int .i64 2], sq (a) (sqo (t) (c := sub [1] B31) (b := sub [1, 1] B31)) (c := B31), by simp, by simp only [resultsV, res31, mapO, resultV, h4, h5, h6], rfl⟩
  by_cases c1 : okD d
  · have hdn := c1.1
    have m1 := prim_miles (pol' := polCl) (by kernel_rfl) hc.1 hc.2 [] true (okB_true c1)
    by_cases c2 : 0 ≤ s0 ∧ s0 ≤ 100
    · rw [if_pos ⟨c1, c2⟩]
      obtain ⟨s, rfl⟩ : ∃ x : Nat, s0 = (x : Int) := ⟨s0.toNat, by omega⟩
      rw [Int.toNat_natCast]
      have b := cl_b_0 (d.map encR) (s : Int) (y7 := Ud) (y8 := Ud) (y9 := Ud) (y10 := Ud) (y11 := Ud) (y12 := Ud) (y42 := Ud) (y43 := Ud) (y46 := Ud) (y47 := Ud) m1 c2
      by_cases c3 : d.length < 3
      · have mk := makeV_ok (P := Tp) (H := []) (t := 23) (e := 3) (k := 1) (bt := 8) (zv := .int .i64 0) (n := (d.length : Int)) u23 (by kernel_rfl) (by simp [cellsOf, cellV]) (by simp [cellsOf]) (by omega) (by omega) (by simp only [roomMax]; omega)
        rw [Int.toNat_natCast] at mk
        have hrep : List.replicate d.length (HV.int .i64 0) = (zer d.length).map encI := by simp [encI, zer]
        have e1 : IntKind.i64.wrap (((d.map encR).length : Int) - 1) = ((d.length - 1 : Nat) : Int) := by rw [List.length_map, wrap_pred (by omega) (by omega)]
        have b1 := c1.at (i := 0) (j := d.length - 1) (by omega) (by omega)
        have c := cl_c_0 (d.map encR) (s : Int) (y7 := Ud) (y8 := Ud) (y9 := Ud) (y10 := Ud) (y11 := Ud) (y12 := Ud) (y42 := Ud) (y43 := Ud) (y46 := Ud) (y47 := Ud) (by rw [List.length_map]; omega) (by rw [List.length_map]; exact mk) (g22' (d := d) (v := 0) (by omega)) (by rw [e1]; exact g23' c1 (by omega) (by omega)) (by
          rw [List.length_map, hrep]
          have := same_bI (zer d.length)
          simp only [bI] at this
          simp only [same, same_li, this, sameH, beq_self_eq_true, Bool.and_self])
        rw [wrap_id (by omega) (by omega), List.length_map, hrep] at c
        have t := sq (a) (sq (b) (sqo (c) (c := sub [1, 1] B31) (b := sub [1, 1, 1] B31)) (c := sub [1] B31)) (c := B31)
        have e : climT d s = (zer d.length, 2 * at2 d 0 (d.length - 1)) := by
          unfold climT
          rw [if_pos c3]
          unfold bndT
          rw [if_pos c3]
        rw [e]
        exact ⟨_, _, _, .tuple [.sl 0 0 d.length (some d.length) d.length 1, .int .i64 (2 * at2 d 0 (d.length - 1)), .int .i64 0], t, by simp, by simp only [resultsV, res31]; rfl, toRes_li2 (b := 0) (o := zer d.length) rfl (by simp [zer]) _ 0⟩
      · have c := cl_c_1 (d.map encR) (s : Int) (y7 := Ud) (y8 := Ud) (y9 := Ud) (y10 := Ud) (y11 := Ud) (y12 := Ud) (y42 := Ud) (y43 := Ud) (y46 := Ud) (y47 := Ud) (by rw [List.length_map]; omega)
        have dd := cl_d_0 (d.map encR) (s : Int) (y7 := Ud) (y8 := Ud) (y9 := Ud) (y10 := Ud) (y11 := Ud) (y12 := Ud) (y42 := Ud) (y43 := Ud) (y46 := Ud) (y47 := Ud)
        have hz := pad_zer (n := d.length) hdn.2
        have hzl : (zer d.length).length = d.length := by simp [zer]
        have hq := q50 (pol' := polCl) (by kernel_rfl) c1 (ps := List.replicate 11 0) ⟨rfl, fun x hx => by have := (List.mem_replicate.1 hx).2; omega⟩ [pB (List.replicate 11 0), pB (List.replicate 11 0)] (arg_rw _ d)
        have hb := bnd_pad (d := d) (p := zer d.length) (by omega) hzl
        have hch := chosen_cong (d := d) (p := pad (zer d.length)) (p' := zer d.length) (by omega) (fun a ha => pad_get _ a (by rw [hzl]; exact ha))
        rw [hz] at hb hch
        rw [hb, hch] at hq
        have hda := degs_at (p := zer d.length) c1 (by omega)
        have e := cl_e_0 (d.map encR) (s : Int) (y9 := Ud) (y10 := Ud) (y11 := Ud) (y12 := Ud) (y42 := Ud) (y43 := Ud) (y46 := Ud) (y47 := Ud) hq (pst_all (H := [pB (List.replicate 11 0), pB (List.replicate 11 0), pB (List.replicate 11 0)]) (b := 2) (t := List.replicate 11 0) rfl rfl hda.1)
        have f := cl_f_0 (d.map encR) (s : Int) ((List.replicate 11 (0 : Int)).map encI) ((List.replicate 11 (0 : Int)).map encI) ((degs (chosen d (zer d.length))).map encI) (boundS d (zer d.length)) (y11 := Ud) (y12 := Ud) (y42 := Ud) (y43 := Ud) (y46 := Ud) (y47 := Ud)
        obtain ⟨y11, y12, y42, y43, y46, y47, xs, ds, r⟩ := cl_out (s := s) c1 (by omega) (by omega) s 0 (zer d.length) (zer d.length) (boundS d (zer d.length)) (by omega) (PB.zero _) hzl
        rw [hz] at r
        have hcl := clim_len (d := d) s (zer d.length) (zer d.length) (boundS d (zer d.length)) hzl
        have ht : climT d s = clim d s (zer d.length) (zer d.length) (boundS d (zer d.length)) := by
          unfold climT
          rw [if_neg c3, bndT_eq c3 hzl]
        rw [ht]
        generalize clim d s (zer d.length) (zer d.length) (boundS d (zer d.length)) = w at r hcl ⊢
        have hpl : (pad w.1).length = 11 := pad_len (by omega)
        have k52 := q52a (pol' := polCl) (by kernel_rfl) (H := clH xs (pad w.1) ds) (b := 1) (n := d.length) (u := pad w.1) rfl (by omega) (by omega) (by omega)
        rw [pad_take hcl] at k52
        have m := cl_m_0 (d.map encR) (s : Int) (xs.map encI) ((pad w.1).map encI) (ds.map encI) w.2 (y11 := y11) (y12 := y12) (y42 := y42) (y43 := y43) (y46 := y46) (y47 := y47) (by rw [List.length_map]; exact slArr hdn.2) (by rw [List.length_map]; exact k52)
        have t := sq (a) (sq (b) (sq (c) (sq (dd) (sq (e) (sq (sq (f) (bke (c := sub [1, 1, 1, 1, 1, 0, 1] B31) (lpi (e0 := (clE d (s : Int) (boundS d (zer d.length)) Ud Ud (.int .i64 (s : Int)) (.int .i64 ((0 : Nat) : Int)) Ud Ud)) r (b := sub [1, 1, 1, 1, 1, 0, 1, 0, 0] B31))) (c := sub [1, 1, 1, 1, 1, 0] B31)) (m) (c := sub [1, 1, 1, 1, 1] B31)) (c := sub [1, 1, 1, 1] B31)) (c := sub [1, 1, 1] B31)) (c := sub [1, 1] B31)) (c := sub [1] B31)) (c := B31)
        exact ⟨_, _, _, .tuple [.sl 3 0 d.length none d.length 1, .int .i64 w.2, .int .i64 0], t, by simp, by simp only [resultsV, res31]; rfl, toRes_li2 (b := 3) (o := w.1) rfl hcl _ 0⟩
    · exact bad _ _ (cl_b_1 (d.map encR) s0 (y7 := Ud) (y8 := Ud) (y9 := Ud) (y10 := Ud) (y11 := Ud) (y12 := Ud) (y42 := Ud) (y43 := Ud) (y46 := Ud) (y47 := Ud) m1 c2) rfl rfl rfl (fun h => c2 h.2)
  · have m1 := prim_miles (pol' := polCl) (by kernel_rfl) hc.1 hc.2 [] false (okB_false c1)
    exact bad _ _ (cl_b_2 (d.map encR) s0 (y7 := Ud) (y8 := Ud) (y9 := Ud) (y10 := Ud) (y11 := Ud) (y12 := Ud) (y42 := Ud) (y43 := Ud) (y46 := Ud) (y47 := Ud) m1) rfl rfl rfl (fun h => c1 h.1)
end Go.Proofs.Ytlendaofkmhgmaa
end
section
open Go Go.HL
namespace Go.Proofs.Ytlendaofkmhgmaa
set_option maxRecDepth 100000
open Go.Proofs.Try renaming prog → Tp
open Go.HL.HV renaming undef → Ud
noncomputable def B32 : Code := Try.f32.body.getD .skip
abbrev env32 (v0 v1 v4 v5 v6 v7 v8 v9 v10 v11 v12 v13 v14 v15 v16 v17 : HV) : Env := [(0, v0), (1, v1), (4, v4), (5, v5), (6, v6), (7, v7), (8, v8), (9, v9), (10, v10), (11, v11), (12, v12), (13, v13), (14, v14), (15, v15), (16, v16), (17, v17)]
theorem rc_a_0 (rw : List HV) (st : Int)  : RT polRc 32 (sub [0] B32) [(0, .imm .arg 1 rw), (1, .i st)] [] .normal (env32 (.imm .arg 1 rw) (.i st) (.imm .lit 1 []) (.i 0) Ud Ud Ud Ud Ud Ud Ud Ud Ud Ud Ud Ud) [] :=
  RunsTo.hin 0 60 [] fun kf hk => ⟨_, by kernel_rfl, .nil⟩
theorem rc_b_0 (rw : List HV) (st : Int)  {y6 y7 y8 y9 y10 y11 y12 y13 y14 y15 y16 y17 : HV} : RT polRc 32 (sub [1, 0] B32) (env32 (.imm .arg 1 rw) (.i st) (.imm .lit 1 []) (.i 0) y6 y7 y8 y9 y10 y11 y12 y13 y14 y15 y16 y17) [] .normal (env32 (.imm .arg 1 rw) (.i st) (.imm .lit 1 []) (.i 0) (.i (rw.length : Int)) y7 y8 y9 y10 y11 y12 y13 y14 y15 y16 y17) [] :=
  RunsTo.hin 0 60 [] fun kf hk => ⟨_, by kernel_rfl, .nil⟩
theorem rc_c_0 (rw : List HV) (st : Int) (n : Nat)  {y7 y8 y9 y10 y11 y12 y13 y14 y15 y16 y17 : HV}(g0 : makeV Tp false 23 (.i (n : Int)) (.i (n : Int)) [] = some (.sl 0 0 n (some n) n 1, [.arr 1 (List.replicate n (.i 0)) true 0])) : RT polRc 32 (sub [1, 1, 0] B32) (env32 (.imm .arg 1 rw) (.i st) (.imm .lit 1 []) (.i 0) (.i (n : Int)) y7 y8 y9 y10 y11 y12 y13 y14 y15 y16 y17) [] .normal (env32 (.imm .arg 1 rw) (.i st) (.imm .lit 1 []) (.i 0) (.i (n : Int)) (.sl 0 0 n (some n) n 1) y8 y9 y10 y11 y12 y13 y14 y15 y16 y17) [.arr 1 (List.replicate n (.i 0)) true 0] :=
  RunsTo.hin 0 60 [⟨2, 1, .sl 0 0 n (some n) n 1, [.arr 1 (List.replicate n (.i 0)) true 0]⟩] fun kf hk => ⟨_, by kernel_rfl, (oC (g0) .nil)⟩
theorem rc_d_0 (rw : List HV) (st : Int) (H : Heap) (n : Nat) (pb : Nat) {y8 y9 y10 y11 y12 y13 y14 y15 y16 y17 : HV} {sv : Int} {H0 : Heap} (g0 : ∀ kf, callN Tp polRc (kf + 1) 21 [.imm .arg 1 rw, .sl pb 0 n (some n) n 1] H = some (.i sv, H0)) : RT polRc 32 (sub [1, 1, 1, 0] B32) (env32 (.imm .arg 1 rw) (.i st) (.imm .lit 1 []) (.i 0) (.i (n : Int)) (.sl pb 0 n (some n) n 1) y8 y9 y10 y11 y12 y13 y14 y15 y16 y17) H .normal (env32 (.imm .arg 1 rw) (.i st) (.imm .lit 1 []) (.i 0) (.i (n : Int)) (.sl pb 0 n (some n) n 1) (.sl pb 0 n (some n) n 1) (.i sv) y10 y11 y12 y13 y14 y15 y16 y17) H0 :=
  RunsTo.hin 0 60 [⟨3, 3, .i sv, H0⟩] fun kf hk => ⟨_, by kernel_rfl, (oC (g0 kf) .nil)⟩
theorem rc_e_0 (rw : List HV) (st : Int) (H : Heap) (n : Nat) (pb bb : Nat) (v : Int) {y10 y11 y12 y13 y14 y15 y16 y17 : HV} : RT polRc 32 (sub [1, 1, 1, 1, 0, 0] B32) (env32 (.imm .arg 1 rw) (.i st) (.imm .lit 1 []) (.i 0) (.i (n : Int)) (.sl pb 0 n (some n) n 1) (.sl bb 0 n (some n) n 1) (.i v) y10 y11 y12 y13 y14 y15 y16 y17) H .normal (env32 (.imm .arg 1 rw) (.i st) (.imm .lit 1 []) (.i 0) (.i (n : Int)) (.sl pb 0 n (some n) n 1) (.sl bb 0 n (some n) n 1) (.i v) (.i 0) y11 y12 y13 y14 y15 y16 y17) H :=
  RunsTo.hin 0 60 [] fun kf hk => ⟨_, by kernel_rfl, .nil⟩
theorem rc_f_0 (rw : List HV) (st : Int) (H : Heap) (n : Nat) (pb bb : Nat) (v : Int) (k : Nat) {y11 y12 y13 y14 y15 y16 y17 : HV}(g0 : (k : Int) < st) (g1 : 2 < (n : Int)) : RT polRc 32 (sub [1, 1, 1, 1, 0, 1, 0, 0, 0] B32) (env32 (.imm .arg 1 rw) (.i st) (.imm .lit 1 []) (.i 0) (.i (n : Int)) (.sl pb 0 n (some n) n 1) (.sl bb 0 n (some n) n 1) (.i v) (.i (k : Int)) y11 y12 y13 y14 y15 y16 y17) H .normal (env32 (.imm .arg 1 rw) (.i st) (.imm .lit 1 []) (.i 0) (.i (n : Int)) (.sl pb 0 n (some n) n 1) (.sl bb 0 n (some n) n 1) (.i v) (.i (k : Int)) y11 y12 y13 y14 y15 y16 y17) H :=
  RunsTo.hin 0 60 [⟨5, 2, .bool true, H⟩, ⟨5, 5, .bool true, H⟩] fun kf hk => ⟨_, by kernel_rfl, (oB H (decide_eq_true g0) (oB H (decide_eq_true g1) .nil))⟩
theorem rc_f_1 (rw : List HV) (st : Int) (H : Heap) (n : Nat) (pb bb : Nat) (v : Int) (k : Nat) {y11 y12 y13 y14 y15 y16 y17 : HV}(g0 : (k : Int) < st) (g1 : ¬ (2 < (n : Int))) : RT polRc 32 (sub [1, 1, 1, 1, 0, 1, 0, 0, 0] B32) (env32 (.imm .arg 1 rw) (.i st) (.imm .lit 1 []) (.i 0) (.i (n : Int)) (.sl pb 0 n (some n) n 1) (.sl bb 0 n (some n) n 1) (.i v) (.i (k : Int)) y11 y12 y13 y14 y15 y16 y17) H (.exit 0) (env32 (.imm .arg 1 rw) (.i st) (.imm .lit 1 []) (.i 0) (.i (n : Int)) (.sl pb 0 n (some n) n 1) (.sl bb 0 n (some n) n 1) (.i v) (.i (k : Int)) y11 y12 y13 y14 y15 y16 y17) H :=
  RunsTo.hin 0 60 [⟨5, 2, .bool true, H⟩, ⟨5, 5, .bool false, H⟩] fun kf hk => ⟨_, by kernel_rfl, (oB H (decide_eq_true g0) (oB H (decide_eq_false g1) .nil))⟩
theorem rc_f_2 (rw : List HV) (st : Int) (H : Heap) (n : Nat) (pb bb : Nat) (v : Int) (k : Nat) {y11 y12 y13 y14 y15 y16 y17 : HV}(g0 : ¬ ((k : Int) < st)) : RT polRc 32 (sub [1, 1, 1, 1, 0, 1, 0, 0, 0] B32) (env32 (.imm .arg 1 rw) (.i st) (.imm .lit 1 []) (.i 0) (.i (n : Int)) (.sl pb 0 n (some n) n 1) (.sl bb 0 n (some n) n 1) (.i v) (.i (k : Int)) y11 y12 y13 y14 y15 y16 y17) H (.exit 0) (env32 (.imm .arg 1 rw) (.i st) (.imm .lit 1 []) (.i 0) (.i (n : Int)) (.sl pb 0 n (some n) n 1) (.sl bb 0 n (some n) n 1) (.i v) (.i (k : Int)) y11 y12 y13 y14 y15 y16 y17) H :=
  RunsTo.hin 0 60 [⟨5, 2, .bool false, H⟩] fun kf hk => ⟨_, by kernel_rfl, (oB H (decide_eq_false g0) .nil)⟩
theorem rc_g_0 (rw : List HV) (st : Int) (H : Heap) (n : Nat) (pb bb : Nat) (v : Int) (k : Nat) {y11 y12 y13 y14 y15 y16 y17 : HV} {c : Nat} {m : Nat} {H0 : Heap} (g0 : ∀ kf, callN Tp polRc (kf + 1) 51 [.imm .arg 1 rw, .sl pb 0 n (some n) n 1] H = some (.sl c 0 m none m 3, H0)) : RT polRc 32 (sub [1, 1, 1, 1, 0, 1, 0, 0, 1, 0, 0, 0] B32) (env32 (.imm .arg 1 rw) (.i st) (.imm .lit 1 []) (.i 0) (.i (n : Int)) (.sl pb 0 n (some n) n 1) (.sl bb 0 n (some n) n 1) (.i v) (.i (k : Int)) y11 y12 y13 y14 y15 y16 y17) H .normal (env32 (.imm .arg 1 rw) (.i st) (.imm .lit 1 []) (.i 0) (.i (n : Int)) (.sl pb 0 n (some n) n 1) (.sl bb 0 n (some n) n 1) (.i v) (.i (k : Int)) (.sl c 0 m none m 3) y12 y13 y14 y15 y16 y17) H0 :=
  RunsTo.hin 0 60 [⟨7, 2, .sl c 0 m none m 3, H0⟩] fun kf hk => ⟨_, by kernel_rfl, (oC (g0 kf) .nil)⟩
theorem rc_h_0 (rw : List HV) (st : Int) (H : Heap) (n : Nat) (pb bb : Nat) (v : Int) (k : Nat) (c m : Nat) (q : Nat) {y12 y13 y14 y15 y16 y17 : HV} {H0 : Heap} (g0 : makeV Tp false 23 (.i (n : Int)) (.i (n : Int)) H = some (.sl q 0 n (some n) n 1, H0)) : RT polRc 32 (sub [1, 1, 1, 1, 0, 1, 0, 0, 1, 0, 0, 1, 0] B32) (env32 (.imm .arg 1 rw) (.i st) (.imm .lit 1 []) (.i 0) (.i (n : Int)) (.sl pb 0 n (some n) n 1) (.sl bb 0 n (some n) n 1) (.i v) (.i (k : Int)) (.sl c 0 m none m 3) y12 y13 y14 y15 y16 y17) H .normal (env32 (.imm .arg 1 rw) (.i st) (.imm .lit 1 []) (.i 0) (.i (n : Int)) (.sl pb 0 n (some n) n 1) (.sl bb 0 n (some n) n 1) (.i v) (.i (k : Int)) (.sl c 0 m none m 3) (.sl q 0 n (some n) n 1) y13 y14 y15 y16 y17) H0 :=
  RunsTo.hin 0 60 [⟨8, 1, .sl q 0 n (some n) n 1, H0⟩] fun kf hk => ⟨_, by kernel_rfl, (oC (g0) .nil)⟩
theorem rc_i_0 (rw : List HV) (st : Int) (H : Heap) (n : Nat) (pb bb : Nat) (v : Int) (k : Nat) (c m : Nat) (q : Nat) {y13 y14 y15 y16 y17 : HV} : RT polRc 32 (sub [1, 1, 1, 1, 0, 1, 0, 0, 1, 0, 0, 1, 1, 0, 0] B32) (env32 (.imm .arg 1 rw) (.i st) (.imm .lit 1 []) (.i 0) (.i (n : Int)) (.sl pb 0 n (some n) n 1) (.sl bb 0 n (some n) n 1) (.i v) (.i (k : Int)) (.sl c 0 m none m 3) (.sl q 0 n (some n) n 1) y13 y14 y15 y16 y17) H .normal (env32 (.imm .arg 1 rw) (.i st) (.imm .lit 1 []) (.i 0) (.i (n : Int)) (.sl pb 0 n (some n) n 1) (.sl bb 0 n (some n) n 1) (.i v) (.i (k : Int)) (.sl c 0 m none m 3) (.sl q 0 n (some n) n 1) (.i 0) y14 y15 y16 y17) H :=
  RunsTo.hin 0 60 [] fun kf hk => ⟨_, by kernel_rfl, .nil⟩
theorem rc_j_0 (rw : List HV) (st : Int) (H : Heap) (n : Nat) (pb bb : Nat) (v : Int) (k : Nat) (c m : Nat) (q : Nat) (i : Nat) {y14 y15 y16 y17 : HV} {x0 : Int} {H0 : Heap} (g0 : (i : Int) < (n : Int)) (g1 : idxV Tp 23 (.sl pb 0 n (some n) n 1) (.i (i : Int)) = some (.ptr pb i 0 n)) (g2 : loadV Tp H 3 (.ptr pb i 0 n) = some (.i x0)) (g3 : idxV Tp 23 (.sl q 0 n (some n) n 1) (.i (i : Int)) = some (.ptr q i 0 n)) (g4 : storeV Tp H 3 (.ptr q i 0 n) (.i (IntKind.i64.wrap (x0 - 2))) = some H0) : RT polRc 32 (sub [1, 1, 1, 1, 0, 1, 0, 0, 1, 0, 0, 1, 1, 0, 1, 0, 0] B32) (env32 (.imm .arg 1 rw) (.i st) (.imm .lit 1 []) (.i 0) (.i (n : Int)) (.sl pb 0 n (some n) n 1) (.sl bb 0 n (some n) n 1) (.i v) (.i (k : Int)) (.sl c 0 m none m 3) (.sl q 0 n (some n) n 1) (.i (i : Int)) y14 y15 y16 y17) H .normal (env32 (.imm .arg 1 rw) (.i st) (.imm .lit 1 []) (.i 0) (.i (n : Int)) (.sl pb 0 n (some n) n 1) (.sl bb 0 n (some n) n 1) (.i v) (.i (k : Int)) (.sl c 0 m none m 3) (.sl q 0 n (some n) n 1) (.i (IntKind.i64.wrap ((i : Int) + 1))) y14 y15 y16 y17) H0 :=
  RunsTo.hin 0 60 [⟨10, 2, .bool true, H⟩, ⟨12, 4, .ptr pb i 0 n, H⟩, ⟨12, 5, .i x0, H⟩, ⟨12, 7, .ptr q i 0 n, H⟩, ⟨12, 8, .tuple [], H0⟩] fun kf hk => ⟨_, by kernel_rfl, (oB H (decide_eq_true g0) (oP H g1 (oP H g2 (oP H g3 (oS g4 .nil)))))⟩
theorem rc_j_1 (rw : List HV) (st : Int) (H : Heap) (n : Nat) (pb bb : Nat) (v : Int) (k : Nat) (c m : Nat) (q : Nat) (i : Nat) {y14 y15 y16 y17 : HV}(g0 : ¬ ((i : Int) < (n : Int))) : RT polRc 32 (sub [1, 1, 1, 1, 0, 1, 0, 0, 1, 0, 0, 1, 1, 0, 1, 0, 0] B32) (env32 (.imm .arg 1 rw) (.i st) (.imm .lit 1 []) (.i 0) (.i (n : Int)) (.sl pb 0 n (some n) n 1) (.sl bb 0 n (some n) n 1) (.i v) (.i (k : Int)) (.sl c 0 m none m 3) (.sl q 0 n (some n) n 1) (.i (i : Int)) y14 y15 y16 y17) H (.exit 2) (env32 (.imm .arg 1 rw) (.i st) (.imm .lit 1 []) (.i 0) (.i (n : Int)) (.sl pb 0 n (some n) n 1) (.sl bb 0 n (some n) n 1) (.i v) (.i (k : Int)) (.sl c 0 m none m 3) (.sl q 0 n (some n) n 1) (.i (i : Int)) y14 y15 y16 y17) H :=
  RunsTo.hin 0 60 [⟨10, 2, .bool false, H⟩] fun kf hk => ⟨_, by kernel_rfl, (oB H (decide_eq_false g0) .nil)⟩
theorem rc_k_0 (rw : List HV) (st : Int) (H : Heap) (n : Nat) (pb bb : Nat) (v : Int) (k : Nat) (c m : Nat) (q : Nat) {y13 y14 y15 y16 y17 : HV} : RT polRc 32 (sub [1, 1, 1, 1, 0, 1, 0, 0, 1, 0, 0, 1, 1, 1, 0, 0] B32) (env32 (.imm .arg 1 rw) (.i st) (.imm .lit 1 []) (.i 0) (.i (n : Int)) (.sl pb 0 n (some n) n 1) (.sl bb 0 n (some n) n 1) (.i v) (.i (k : Int)) (.sl c 0 m none m 3) (.sl q 0 n (some n) n 1) y13 y14 y15 y16 y17) H .normal (env32 (.imm .arg 1 rw) (.i st) (.imm .lit 1 []) (.i 0) (.i (n : Int)) (.sl pb 0 n (some n) n 1) (.sl bb 0 n (some n) n 1) (.i v) (.i (k : Int)) (.sl c 0 m none m 3) (.sl q 0 n (some n) n 1) y13 (.i 0) y15 y16 y17) H :=
  RunsTo.hin 0 60 [] fun kf hk => ⟨_, by kernel_rfl, .nil⟩
theorem rc_l_0 (rw : List HV) (st : Int) (H : Heap) (n : Nat) (pb bb : Nat) (v : Int) (k : Nat) (c m : Nat) (q : Nat) (j ea eb : Nat) {y7 y13 y15 y16 y17 : HV} {x0 : Int} {H0 : Heap} {x1 : Int} {H1 : Heap} (g0 : (j : Int) < (m : Int)) (g1 : idxV Tp 70 (.sl c 0 m none m 3) (.i (j : Int)) = some (.ptr c j 0 m)) (g2 : loadV Tp H 3 (.ptr c j 0 m) = some (.i (ea : Int))) (g3 : idxV Tp 70 (.sl c 0 m none m 3) (.i (j : Int)) = some (.ptr c j 0 m)) (g4 : loadV Tp H 3 (.ptr c j 1 m) = some (.i (eb : Int))) (g5 : idxV Tp 23 (.sl q 0 n (some n) n 1) (.i (ea : Int)) = some (.ptr q ea 0 n)) (g6 : loadV Tp H 3 (.ptr q ea 0 n) = some (.i x0)) (g7 : idxV Tp 23 (.sl q 0 n (some n) n 1) (.i (ea : Int)) = some (.ptr q ea 0 n)) (g8 : storeV Tp H 3 (.ptr q ea 0 n) (.i (IntKind.i64.wrap (x0 + 1))) = some H0) (g9 : idxV Tp 23 (.sl q 0 n (some n) n 1) (.i (eb : Int)) = some (.ptr q eb 0 n)) (g10 : loadV Tp H0 3 (.ptr q eb 0 n) = some (.i x1)) (g11 : idxV Tp 23 (.sl q 0 n (some n) n 1) (.i (eb : Int)) = some (.ptr q eb 0 n)) (g12 : storeV Tp H0 3 (.ptr q eb 0 n) (.i (IntKind.i64.wrap (x1 + 1))) = some H1) : RT polRc 32 (sub [1, 1, 1, 1, 0, 1, 0, 0, 1, 0, 0, 1, 1, 1, 0, 1, 0, 0] B32) (env32 (.imm .arg 1 rw) (.i st) (.imm .lit 1 []) (.i 0) (.i (n : Int)) y7 (.sl bb 0 n (some n) n 1) (.i v) (.i (k : Int)) (.sl c 0 m none m 3) (.sl q 0 n (some n) n 1) y13 (.i (j : Int)) y15 y16 y17) H .normal (env32 (.imm .arg 1 rw) (.i st) (.imm .lit 1 []) (.i 0) (.i (n : Int)) y7 (.sl bb 0 n (some n) n 1) (.i v) (.i (k : Int)) (.sl c 0 m none m 3) (.sl q 0 n (some n) n 1) y13 (.i (IntKind.i64.wrap ((j : Int) + 1))) (.i (ea : Int)) (.i (eb : Int)) y17) H1 :=
  RunsTo.hin 0 60 [⟨14, 3, .bool true, H⟩, ⟨16, 2, .ptr c j 0 m, H⟩, ⟨16, 4, .i (ea : Int), H⟩, ⟨16, 7, .ptr c j 0 m, H⟩, ⟨16, 9, .i (eb : Int), H⟩, ⟨17, 4, .ptr q ea 0 n, H⟩, ⟨17, 5, .i x0, H⟩, ⟨17, 7, .ptr q ea 0 n, H⟩, ⟨17, 8, .tuple [], H0⟩, ⟨18, 4, .ptr q eb 0 n, H0⟩, ⟨18, 5, .i x1, H0⟩, ⟨18, 7, .ptr q eb 0 n, H0⟩, ⟨18, 8, .tuple [], H1⟩] fun kf hk => ⟨_, by kernel_rfl, (oB H (decide_eq_true g0) (oP H g1 (oP H g2 (oP H g3 (oP H g4 (oP H g5 (oP H g6 (oP H g7 (oS g8 (oP H0 g9 (oP H0 g10 (oP H0 g11 (oS g12 .nil)))))))))))))⟩
theorem rc_l_1 (rw : List HV) (st : Int) (H : Heap) (n : Nat) (pb bb : Nat) (v : Int) (k : Nat) (c m : Nat) (q : Nat) (j ea eb : Nat) {y7 y13 y15 y16 y17 : HV}(g0 : ¬ ((j : Int) < (m : Int))) : RT polRc 32 (sub [1, 1, 1, 1, 0, 1, 0, 0, 1, 0, 0, 1, 1, 1, 0, 1, 0, 0] B32) (env32 (.imm .arg 1 rw) (.i st) (.imm .lit 1 []) (.i 0) (.i (n : Int)) y7 (.sl bb 0 n (some n) n 1) (.i v) (.i (k : Int)) (.sl c 0 m none m 3) (.sl q 0 n (some n) n 1) y13 (.i (j : Int)) y15 y16 y17) H (.exit 4) (env32 (.imm .arg 1 rw) (.i st) (.imm .lit 1 []) (.i 0) (.i (n : Int)) y7 (.sl bb 0 n (some n) n 1) (.i v) (.i (k : Int)) (.sl c 0 m none m 3) (.sl q 0 n (some n) n 1) y13 (.i (j : Int)) y15 y16 y17) H :=
  RunsTo.hin 0 60 [⟨14, 3, .bool false, H⟩] fun kf hk => ⟨_, by kernel_rfl, (oB H (decide_eq_false g0) .nil)⟩
theorem rc_m_0 (rw : List HV) (st : Int) (H : Heap) (n : Nat) (pb bb : Nat) (v : Int) (k : Nat) (c m : Nat) (q : Nat) {y7 y11 y13 y14 y15 y16 y17 : HV} {sv : Int} {H0 : Heap} (g0 : ∀ kf, callN Tp polRc (kf + 1) 21 [.imm .arg 1 rw, .sl q 0 n (some n) n 1] H = some (.i sv, H0)) (g1 : v < sv) : RT polRc 32 (sub [1, 1, 1, 1, 0, 1, 0, 0, 1, 0, 0, 1, 1, 1, 1] B32) (env32 (.imm .arg 1 rw) (.i st) (.imm .lit 1 []) (.i 0) (.i (n : Int)) y7 (.sl bb 0 n (some n) n 1) (.i v) (.i (k : Int)) y11 (.sl q 0 n (some n) n 1) y13 y14 y15 y16 y17) H .normal (env32 (.imm .arg 1 rw) (.i st) (.imm .lit 1 []) (.i 0) (.i (n : Int)) (.sl q 0 n (some n) n 1) (.sl q 0 n (some n) n 1) (.i sv) (.i (k : Int)) y11 (.sl q 0 n (some n) n 1) y13 y14 y15 y16 (.i sv)) H0 :=
  RunsTo.hin 0 60 [⟨20, 2, .i sv, H0⟩, ⟨21, 2, .bool true, H0⟩] fun kf hk => ⟨_, by kernel_rfl, (oC (g0 kf) (oB H0 (decide_eq_true g1) .nil))⟩
theorem rc_m_1 (rw : List HV) (st : Int) (H : Heap) (n : Nat) (pb bb : Nat) (v : Int) (k : Nat) (c m : Nat) (q : Nat) {y7 y11 y13 y14 y15 y16 y17 : HV} {sv : Int} {H0 : Heap} (g0 : ∀ kf, callN Tp polRc (kf + 1) 21 [.imm .arg 1 rw, .sl q 0 n (some n) n 1] H = some (.i sv, H0)) (g1 : ¬ (v < sv)) : RT polRc 32 (sub [1, 1, 1, 1, 0, 1, 0, 0, 1, 0, 0, 1, 1, 1, 1] B32) (env32 (.imm .arg 1 rw) (.i st) (.imm .lit 1 []) (.i 0) (.i (n : Int)) y7 (.sl bb 0 n (some n) n 1) (.i v) (.i (k : Int)) y11 (.sl q 0 n (some n) n 1) y13 y14 y15 y16 y17) H .normal (env32 (.imm .arg 1 rw) (.i st) (.imm .lit 1 []) (.i 0) (.i (n : Int)) (.sl q 0 n (some n) n 1) (.sl bb 0 n (some n) n 1) (.i v) (.i (k : Int)) y11 (.sl q 0 n (some n) n 1) y13 y14 y15 y16 (.i sv)) H0 :=
  RunsTo.hin 0 60 [⟨20, 2, .i sv, H0⟩, ⟨21, 2, .bool false, H0⟩] fun kf hk => ⟨_, by kernel_rfl, (oC (g0 kf) (oB H0 (decide_eq_false g1) .nil))⟩
theorem rc_n_0 (rw : List HV) (st : Int) (H : Heap) (n : Nat) (pb bb : Nat) (v : Int) (k : Nat) {y11 y12 y13 y14 y15 y16 y17 : HV} : RT polRc 32 (sub [1, 1, 1, 1, 0, 1, 0, 0, 1, 1] B32) (env32 (.imm .arg 1 rw) (.i st) (.imm .lit 1 []) (.i 0) (.i (n : Int)) (.sl pb 0 n (some n) n 1) (.sl bb 0 n (some n) n 1) (.i v) (.i (k : Int)) y11 y12 y13 y14 y15 y16 y17) H .normal (env32 (.imm .arg 1 rw) (.i st) (.imm .lit 1 []) (.i 0) (.i (n : Int)) (.sl pb 0 n (some n) n 1) (.sl bb 0 n (some n) n 1) (.i v) (.i (IntKind.i64.wrap ((k : Int) + 1))) y11 y12 y13 y14 y15 y16 y17) H :=
  RunsTo.hin 0 60 [] fun kf hk => ⟨_, by kernel_rfl, .nil⟩
theorem rc_o_0 (rw : List HV) (st : Int) (H : Heap) (n : Nat) (pb bb : Nat) (v : Int) {y10 y11 y12 y13 y14 y15 y16 y17 : HV} : RT polRc 32 (sub [1, 1, 1, 1, 1] B32) (env32 (.imm .arg 1 rw) (.i st) (.imm .lit 1 []) (.i 0) (.i (n : Int)) (.sl pb 0 n (some n) n 1) (.sl bb 0 n (some n) n 1) (.i v) y10 y11 y12 y13 y14 y15 y16 y17) H .ret (env32 (.imm .arg 1 rw) (.i st) (.sl bb 0 n (some n) n 1) (.i v) (.i (n : Int)) (.sl pb 0 n (some n) n 1) (.sl bb 0 n (some n) n 1) (.i v) y10 y11 y12 y13 y14 y15 y16 y17) H :=
  RunsTo.hin 0 60 [] fun kf hk => ⟨_, by kernel_rfl, .nil⟩
end Go.Proofs.Ytlendaofkmhgmaa
end
section
open Go Go.HL
namespace Go.Proofs.Ytlendaofkmhgmaa
theorem row_congr {n : Nat} {g h : Nat → Int} (e : ∀ b, b < n → g b = h b) : (List.range n).map g = (List.range n).map h := List.map_congr_left fun b hb => e b (List.mem_range.1 hb)
end Go.Proofs.Ytlendaofkmhgmaa
end
section
open Go Go.HL
namespace Go.Proofs.Ytlendaofkmhgmaa
open Go.Proofs.Try renaming prog → Tp
open Go.HL.HV renaming undef → Ud
abbrev slT (n a : Nat) : HV := .sl (a + 1) 0 n (some n) n 1
structure TS (n i : Nat) (H : Heap) : Prop where
  len : H.length = i + 1
  out : H[0]? = some (.arr 1 ((List.range i).map (slT n)) true (if i = 0 then 0 else i + 1))
  row : ∀ a, a < i → H[a + 1]? = some (bI (List.replicate n 0))
section
variable {R : List (List Int)} {n : Nat} {mo : Int}
structure TM (n : Nat) (f : Nat → Nat → Int) (H : Heap) : Prop where
  len : H.length = n + 1
  out : H[0]? = some (.arr 1 ((List.range n).map (slT n)) true (n + 1))
  row : ∀ a, a < n → H[a + 1]? = some (bI ((List.range n).map (f a)))
theorem TS.mem {H : Heap} (h : TS n n H) (hn : 1 ≤ n) : TM n (fun _ _ => 0) H := by
  refine ⟨h.len, by rw [h.out, if_neg (by omega)], fun a ha => ?_⟩
  rw [h.row a ha]
  have e : List.replicate n (0 : Int) = (List.range n).map fun _ => (0 : Int) := by
    apply List.ext_getElem?
    intro i
    by_cases h : i < n
    · rw [List.getElem?_map, List.getElem?_range h, List.getElem?_replicate, if_pos h]; simp
    · rw [List.getElem?_eq_none (by simp; omega), List.getElem?_eq_none (by simp; omega)]
  rw [e]
theorem TM.ld {f : Nat → Nat → Int} {H : Heap} (h : TM n f H) {i : Nat} (hi : i < n) : loadV Tp H 23 (.ptr 0 i 0 n) = some (slT n i) := by
  refine load_elem (b := 0) h.out (by simp) ?_ rfl a23 i23
  rw [List.getElem?_map, List.getElem?_range hi]; rfl
theorem TM.st {f : Nat → Nat → Int} {H : Heap} (h : TM n f H) {i k : Nat} (hi : i < n) (hk : k < n) (x : Int) : storeV Tp H 3 (.ptr (i + 1) k 0 n) (.int .i64 x) = some (H.set (i + 1) (bI (((List.range n).map (f i)).set k x))) := by
  have := store_out (h.row i hi) (y := k) (by simpa using hk) x
  rwa [show ((List.range n).map (f i)).length = n by simp] at this
theorem TM.congr {f g : Nat → Nat → Int} {H : Heap} (h : TM n f H) (e : ∀ a b, a < n → b < n → f a b = g a b) : TM n g H := ⟨h.len, h.out, fun a ha => by rw [h.row a ha, row_congr fun b hb => e a b ha hb]⟩
end
end Go.Proofs.Ytlendaofkmhgmaa
end
section
open Go Go.HL
namespace Go.Proofs.Ytlendaofkmhgmaa
section
variable {d : List (List Int)}
def lastP : Nat → List Int → Nat
  | s, [] => s
  | _, v :: p => lastP v.toNat p
structure Pre (n : Nat) (p : List Int) (L : Nat) : Prop where
  inn : inT n (0 :: p)
  nd : (0 :: p).Nodup
  left : ∀ y : Nat, L.testBit y = true ↔ y < n ∧ (y : Int) ∉ (0 :: p)
theorem Pre.lt {n L : Nat} {p : List Int} (h : Pre n p L) : L < 2 ^ n := Nat.lt_pow_two_of_testBit _ fun i hi => by
  cases hb : L.testBit i with
  | false => rfl
  | true => have := ((h.left i).1 hb).1; omega
theorem Pre.step {n L y : Nat} {p : List Int} (h : Pre n p L) (hn : n ≤ 11) (hb : L.testBit y = true) : Pre n (p ++ [(y : Int)]) (wo L y) := by
  obtain ⟨h1, h2⟩ := (h.left y).1 hb
  have hL := h.lt
  have hp := pow_le hn
  have e : (0 :: (p ++ [(y : Int)])) = (0 :: p) ++ [(y : Int)] := rfl
  refine ⟨fun v hv => ?_, ?_, fun u => ?_⟩
  · rw [e, List.mem_append, List.mem_singleton] at hv
    rcases hv with hv | rfl
    · exact h.inn v hv
    · omega
  · rw [e, List.nodup_append]
    refine ⟨h.nd, by simp, fun a ha b hb' => ?_⟩
    rw [List.mem_singleton] at hb'
    subst hb'
    exact fun e => h2 (e ▸ ha)
  · rw [wo_bit (by omega) (by omega), e, Bool.and_eq_true, h.left, decide_eq_true_eq]
    simp only [List.mem_append, List.mem_singleton, not_or]
    constructor
    · rintro ⟨⟨g1, g2⟩, g3⟩; exact ⟨g1, g2, by omega⟩
    · rintro ⟨g1, g2, g3⟩; exact ⟨⟨g1, g2⟩, by omega⟩
end
end Go.Proofs.Ytlendaofkmhgmaa
end
section
open Go Go.HL
namespace Go.Proofs.Ytlendaofkmhgmaa
open Go.Proofs.Try renaming prog → Tp
open Go.HL.HV renaming undef → Ud
def anyF (f : Nat → Bool) : Nat → Nat → Bool
  | 0, _ => false
  | k + 1, i => f i || anyF f k (i + 1)
def tight (d : List (List Int)) (fa : List Int) (v u : Nat) : Bool := decide (at2 d v u + fa.getD u 0 = fa.getD v 0)
def ldF (d : List (List Int)) (fa : List Int) (to : Nat) : Nat → Nat → Nat → Bool
  | 0, v, _ => decide (v = to)
  | k + 1, v, L => decide (v = to) || anyF (fun u => L.testBit u && tight d fa v u && ldF d fa to k u (wo L u)) d.length 0
def ldT (d : List (List Int)) (fa : List Int) (to v L : Nat) : Bool := ldF d fa to L v L
theorem a22 : tyAgg Tp 22 = false := by kernel_rfl
theorem i22 : (Tp.underlying 22).isSome = true := by kernel_rfl
theorem a74 : tyAgg Tp 74 = false := by kernel_rfl
theorem i74 : (Tp.underlying 74).isSome = true := by kernel_rfl
theorem a75 : tyAgg Tp 75 = false := by kernel_rfl
theorem i75 : (Tp.underlying 75).isSome = true := by kernel_rfl
abbrev fnK : HV := .func 53 [] [.ptr 1 0 0 1, .ptr 6 0 0 1, .ptr 0 0 0 1, .ptr 3 0 0 1, .ptr 7 0 0 1]
abbrev bB (g : Int × Int → Bool) (k : Int × Int) : HV := .bool (g k)
structure WM (d : List (List Int)) (fa : List Int) (to : Nat) (ks : List (Int × Int)) (g : Int × Int → Bool) (H : Heap) : Prop where
  b0 : H[0]? = some (.arr 1 [.imm .arg 1 (d.map encR)] true 0)
  b1 : H[1]? = some (.arr 1 [.int .i64 (to : Int)] true 0)
  b2 : H[2]? = some (bI fa)
  b3 : H[3]? = some (.arr 1 [.sl 2 0 d.length none d.length 1] true 5)
  b5 : H[5]? = some (.map (ks.map encP) (ks.map (bB g)) 0)
  b6 : H[6]? = some (.arr 1 [.map 5] true 6)
  b7 : H[7]? = some (.arr 1 [fnK] true 8)
  nd : ks.Nodup
  rf : sameH H H = true
  mx : mxs H ≤ 8
structure FrW (H H' : Heap) : Prop where
  len : H'.length = H.length
  same : ∀ k, k ≠ 5 → H'[k]? = H[k]?
theorem FrW.refl (H : Heap) : FrW H H := ⟨rfl, fun _ _ => rfl⟩
theorem FrW.trans {H H' H'' : Heap} (h : FrW H H') (h' : FrW H' H'') : FrW H H'' := ⟨h'.len.trans h.len, fun k hk => (h'.same k hk).trans (h.same k hk)⟩
section
variable {d : List (List Int)} {fa : List Int} {to : Nat} {ks : List (Int × Int)} {g : Int × Int → Bool} {H : Heap}
theorem WM.l0 (h : WM d fa to ks g H) : loadV Tp H 22 (.ptr 0 0 0 1) = some (.imm .arg 1 (d.map encR)) := load_elem (b := 0) h.b0 rfl rfl rfl a22 i22
theorem WM.l1 (h : WM d fa to ks g H) : loadV Tp H 3 (.ptr 1 0 0 1) = some (.int .i64 (to : Int)) := load_elem (b := 1) h.b1 rfl rfl rfl a3 i3
theorem WM.l3 (h : WM d fa to ks g H) : loadV Tp H 23 (.ptr 3 0 0 1) = some (.sl 2 0 d.length none d.length 1) := load_elem (b := 3) h.b3 rfl rfl rfl a23 i23
theorem WM.l5 (h : WM d fa to ks g H) : loadV Tp H 74 (.ptr 6 0 0 1) = some (.map 5) := load_elem (b := 6) h.b6 rfl rfl rfl a74 i74
theorem WM.l6 (h : WM d fa to ks g H) : loadV Tp H 75 (.ptr 7 0 0 1) = some fnK := load_elem (b := 7) h.b7 rfl rfl rfl a75 i75
theorem WM.l2 (h : WM d fa to ks g H) (hf : fa.length = d.length) {v : Nat} (hv : v < d.length) : loadV Tp H 3 (.ptr 2 v 0 d.length) = some (.int .i64 (fa.getD v 0)) := by
  rw [← hf]
  exact load_out h.b2 (by omega)
theorem WM.set (h : WM d fa to ks g H) {k : Nat} {B : Blk} (hk : 8 ≤ k) (hB : sameH [B] [B] = true) (hm : B.mx ≤ 8) : WM d fa to ks g (H.set k B) := by
  have hs : ∀ j, j < 8 → (H.set k B)[j]? = H[j]? := fun j hj => List.getElem?_set_ne (by omega)
  refine ⟨by rw [hs 0 (by omega)]; exact h.b0, by rw [hs 1 (by omega)]; exact h.b1, by rw [hs 2 (by omega)]; exact h.b2, by rw [hs 3 (by omega)]; exact h.b3, by rw [hs 5 (by omega)]; exact h.b5, by rw [hs 6 (by omega)]; exact h.b6, by rw [hs 7 (by omega)]; exact h.b7, h.nd, sameH_set h.rf hB, ?_⟩
  have hx := h.mx
  rw [mxs_le] at hx ⊢
  intro C hC
  rcases List.mem_or_eq_of_mem_set hC with hC | rfl
  · exact hx C hC
  · exact hm
theorem WM.take (h : WM d fa to ks g H) {m : Nat} (hm : 8 ≤ m) : WM d fa to ks g (H.take m) := by
  have hs : ∀ j, j < 8 → (H.take m)[j]? = H[j]? := fun j hj => by rw [List.getElem?_take, if_pos (by omega)]
  refine ⟨by rw [hs 0 (by omega)]; exact h.b0, by rw [hs 1 (by omega)]; exact h.b1, by rw [hs 2 (by omega)]; exact h.b2, by rw [hs 3 (by omega)]; exact h.b3, by rw [hs 5 (by omega)]; exact h.b5, by rw [hs 6 (by omega)]; exact h.b6, by rw [hs 7 (by omega)]; exact h.b7, h.nd, sameH_take h.rf, ?_⟩
  have hx := h.mx
  rw [mxs_le] at hx ⊢
  exact fun C hC => hx C (List.mem_of_mem_take hC)
theorem WM.gc (h : WM d fa to ks g H) {b r : Nat} (hb : 8 ≤ b) : gc b r H = H.take (max b r) := by
  have := h.mx
  unfold HL.gc
  congr 1
  omega
end
end Go.Proofs.Ytlendaofkmhgmaa
end
section
open Go Go.HL
namespace Go.Proofs.Ytlendaofkmhgmaa
def Good (d : List (List Int)) (fa : List Int) (to : Nat) (ks : List (Int × Int)) (g : Int × Int → Bool) (B : Nat) : Prop := ∀ q, q ∈ ks → q.2 < (B : Int) → g q = ldT d fa to q.1.toNat q.2.toNat
def Kept (ks ks' : List (Int × Int)) (g g' : Int × Int → Bool) (w : Nat) : Prop := ∀ q : Int × Int, (w : Int) < q.2 → (q ∈ ks' ↔ q ∈ ks) ∧ g' q = g q
end Go.Proofs.Ytlendaofkmhgmaa
end
section
open Go Go.HL
namespace Go.Proofs.Ytlendaofkmhgmaa
section
variable {d : List (List Int)} {fa : List Int} {to : Nat}
theorem Good.mono {ks : List (Int × Int)} {g : Int × Int → Bool} {B B' : Nat} (h : Good d fa to ks g B) (hB : B' ≤ B) : Good d fa to ks g B' := fun q hq hq2 => h q hq (by omega)
theorem Good.step {ks ks' : List (Int × Int)} {g g' : Int × Int → Bool} {B w : Nat} (h : Good d fa to ks g B) (h' : Good d fa to ks' g' (w + 1)) (hk : Kept ks ks' g g' w) : Good d fa to ks' g' B := fun q hq hq2 => by
  by_cases c : q.2 < ((w + 1 : Nat) : Int)
  · exact h' q hq c
  · have := hk q (by omega)
    rw [this.2]
    exact h q (this.1.1 hq) hq2
abbrev tvW (m : Nat) : HV := .sl 11 0 m none m 1
structure BW (d : List (List Int)) (fa : List Int) (to v w : Nat) (o : List Int) (tv : HV) (H : Heap) : Prop where
  mem : ∃ ks g, WM d fa to ks g H ∧ Good d fa to ks g (w + 1)
  box : H[8]? = some (boxK v w)
  st : (tv = .sl 9 0 1 (some 1) 1 1 ∧ o.length = 1 ∧ H.length = 10 ∧ H[9]? = some (bI o)) ∨ (tv = tvW o.length ∧ H.length = 12 ∧ H[11]? = some (bI o))
theorem BW.len {v w : Nat} {o : List Int} {tv : HV} {H : Heap} (h : BW d fa to v w o tv H) : 10 ≤ H.length ∧ H.length ≤ 12 ∧ bnd tv ≤ H.length := by
  rcases h.st with ⟨h1, _, h3, _⟩ | ⟨h1, h3, _⟩ <;> rw [h1, h3] <;> simp [bnd]
end
end Go.Proofs.Ytlendaofkmhgmaa
end
section
open Go Go.HL
namespace Go.Proofs.Ytlendaofkmhgmaa
def Ch (R : Nat → Nat → Prop) : Nat → List Int → Prop
  | _, [] => True
  | s, v :: p => R s v.toNat ∧ Ch R v.toNat p
theorem Ch.mono {R R' : Nat → Nat → Prop} (h : ∀ a b, R a b → R' a b) : ∀ (p : List Int) (s : Nat), Ch R s p → Ch R' s p
  | [], _, _ => trivial
  | v :: p, s, hp => ⟨h _ _ hp.1, Ch.mono h p _ hp.2⟩
theorem Ch.split {R : Nat → Nat → Prop} : ∀ (p q : List Int) (s : Nat), Ch R s (p ++ q) ↔ Ch R s p ∧ Ch R (lastP s p) q
  | [], q, s => by simp [Ch, lastP]
  | v :: p, q, s => by rw [List.cons_append, Ch, Ch, lastP, Ch.split p q, and_assoc]
theorem inT.hd {n : Nat} {v : Int} {p : List Int} (h : inT n (v :: p)) : v.toNat < n ∧ ((v.toNat : Nat) : Int) = v := by
  have := h v (by simp); omega
end Go.Proofs.Ytlendaofkmhgmaa
end
section
open Go Go.HL
namespace Go.Proofs.Ytlendaofkmhgmaa
theorem toRes_li1 {H : Heap} {b k : Nat} {cap : Option Nat} {o : List Int} (hb : H[b]? = some (bI o)) (hk : o.length = k) (e : Int) : toRes H false (.tuple [.sl b 0 k cap k 1, .int .i64 e]) = some (.tuple [.own 1 (o.map encI), .int .i64 e]) := by
  have hr := resCell_sl (H := H) (no := [b]) (b := b) (k := 1) (m := k) (cap := cap) (els := o.map encI) hb (by simpa using hk) (mapO_self (fun r => frz_int 4 r) _)
  have ho : ownedAll H false (.tuple [.sl b 0 k cap k 1, .int .i64 e]) = [b] := by simp [ownedAll, cellsOf, owned, hb]
  simp only [toRes, ho, List.nodup_cons, List.not_mem_nil, not_false_eq_true, List.nodup_nil, and_self, if_true, mapO, resVal, hr]
  rfl
end Go.Proofs.Ytlendaofkmhgmaa
end
section
open Go Go.HL Go.HL.So
namespace Go.Proofs.Ytlendaofkmhgmaa
open Go.Proofs.Try renaming prog → Tp
open Go.HL.HV renaming undef → Ud
theorem res32 : Try.f32.results.toList = [.tmp 4, .tmp 5] := by kernel_rfl
theorem dstep_len (t : List Int) (e : Ed) : (dstep t e).length = t.length := by simp [dstep]
theorem dstep_diff {n : Nat} {t u : List Int} {c : Nat → Int} {e : Ed} (ht : n ≤ t.length) (hu : n ≤ u.length) (ha : e.2.1.toNat < n) (hb : e.2.2.toNat < n) (h : ∀ x, x < n → t.getD x 0 = u.getD x 0 + c x) : ∀ x, x < n → (dstep t e).getD x 0 = (dstep u e).getD x 0 + c x := fun x hx => by
  unfold dstep
  rw [getDs _ _ _ _ (by simp; omega), getDs _ _ _ _ (by omega), getDs _ _ _ _ (by omega), getDs _ _ _ _ (by simp; omega), getDs _ _ _ _ (by omega), getDs _ _ _ _ (by omega)]
  have h1 := h x hx
  have h2 := h _ ha
  have h3 := h _ hb
  by_cases c1 : e.2.2.toNat = x
  · by_cases c2 : e.2.1.toNat = e.2.2.toNat
    · rw [if_pos c1, if_pos c2, if_pos c1, if_pos c2]
      rw [c2, c1] at h2 ⊢
      omega
    · rw [if_pos c1, if_neg c2, if_pos c1, if_neg c2]
      rw [c1] at h3 ⊢
      omega
  · rw [if_neg c1, if_neg c1]
    by_cases c3 : e.2.1.toNat = x
    · rw [if_pos c3, if_pos c3]
      rw [c3] at h2 ⊢
      omega
    · rw [if_neg c3, if_neg c3]; exact h1
theorem fold_diff {n : Nat} {c : Nat → Int} : ∀ (l : List Ed) (t u : List Int), EIn n l → n ≤ t.length → n ≤ u.length → (∀ x, x < n → t.getD x 0 = u.getD x 0 + c x) → ∀ x, x < n → (l.foldl dstep t).getD x 0 = (l.foldl dstep u).getD x 0 + c x
  | [], _, _, _, _, _, h => h
  | e :: l, t, u, he, ht, hu, h => by
    obtain ⟨⟨_, h1⟩, _, h2⟩ := he e (by simp)
    exact fold_diff l _ _ (fun x hx => he x (by simp [hx])) (by rw [dstep_len]; exact ht) (by rw [dstep_len]; exact hu) (dstep_diff ht hu h1 h2 h)
theorem foldD_len : ∀ (l : List Ed) (t : List Int), (l.foldl dstep t).length = t.length
  | [], _ => rfl
  | e :: l, t => by rw [List.foldl_cons, foldD_len l, dstep_len]
def sub2 (p : List Int) : List Int := p.map fun v => v - 2
theorem sub2_at {p : List Int} {x : Nat} (hx : x < p.length) : (sub2 p).getD x 0 = p.getD x 0 - 2 := by
  simp [sub2, List.getD, List.getElem?_map, List.getElem?_eq_getElem hx]
theorem fold_cstep {d : List (List Int)} {p : List Int} (hd : okD d) (hp : p.length = d.length) : (chosen d p).foldl dstep (sub2 p) = cstep d p := by
  have hdn := hd.1
  have hl : (sub2 p).length = d.length := by simp [sub2, hp]
  refine li_ext (by rw [foldD_len, hl, cstep_len]) fun x hx => ?_
  rw [foldD_len, hl] at hx
  rw [cstep_at hx, fold_diff (n := d.length) (c := fun x => p.getD x 0 - 2) (chosen d p) (sub2 p) (List.replicate 11 0) (chosen_in hd) (by omega) (by simp; omega) (fun y hy => by
    rw [sub2_at (by omega)]
    have : (List.replicate 11 (0 : Int)).getD y 0 = 0 := by rw [List.getD, List.getElem?_replicate, if_pos (by omega)]; rfl
    rw [this]; omega) x hx]
  show (degs (chosen d p)).getD x 0 + _ = _
  omega
section
variable {d : List (List Int)} {st : Int}
abbrev rcF (d : List (List Int)) (st : Int) (v7 : HV) (bb : Nat) (bv : Int) (v10 v11 v12 v13 v14 v15 v16 v17 : HV) : Env := (env32 (.imm .arg 1 (d.map encR)) (.int .i64 st) (.imm .lit 1 []) (.int .i64 0) (.int .i64 (d.length : Int)) v7 (.sl bb 0 d.length (some d.length) d.length 1) (.int .i64 bv) v10 v11 v12 v13 v14 v15 v16 v17)
abbrev rcE (d : List (List Int)) (st : Int) (pb bb : Nat) (bv : Int) (v10 v11 v12 v13 v14 v15 v16 v17 : HV) : Env := (env32 (.imm .arg 1 (d.map encR)) (.int .i64 st) (.imm .lit 1 []) (.int .i64 0) (.int .i64 (d.length : Int)) (.sl pb 0 d.length (some d.length) d.length 1) (.sl bb 0 d.length (some d.length) d.length 1) (.int .i64 bv) v10 v11 v12 v13 v14 v15 v16 v17)
theorem rc_in1 {Hx : Heap} {pb bb c m kk : Nat} {bv : Int} {p : List Int} (hN : d.length ≤ 1000) (hpb : Hx[pb]? = some (bI p)) (hp : p.length = d.length) (hv : ∀ x, x < d.length → -5000 ≤ p.getD x 0 ∧ p.getD x 0 ≤ 5000) : ∀ k i (u : List Int), i + k = d.length → u.length = d.length → (∀ x, x < i → u.getD x 0 = p.getD x 0 - 2) →
    RT polRc 32 (sub [1, 1, 1, 1, 0, 1, 0, 0, 1, 0, 0, 1, 1, 0, 1, 0] B32) (rcE d st pb bb bv (.int .i64 (kk : Int)) (.sl c 0 m none m 3) (.sl Hx.length 0 d.length (some d.length) d.length 1) (.int .i64 (i : Int)) Ud Ud Ud Ud) (Hx ++ [bI u]) (.exit 2)
      (rcE d st pb bb bv (.int .i64 (kk : Int)) (.sl c 0 m none m 3) (.sl Hx.length 0 d.length (some d.length) d.length 1) (.int .i64 (d.length : Int)) Ud Ud Ud Ud) (Hx ++ [bI (sub2 p)]) := by
  have hlt : pb < Hx.length := by
    rcases Nat.lt_or_ge pb Hx.length with h | h
    · exact h
    · rw [List.getElem?_eq_none h] at hpb; cases hpb
  intro k
  induction k with
  | zero =>
    intro i u hi hu hx
    have : i = d.length := by omega
    subst this
    have e : u = sub2 p := li_ext (by simp [sub2, hu, hp]) fun x hxl => by rw [hx x (by omega), sub2_at (by omega)]
    rw [e]
    exact lpo ((rc_j_1 (d.map encR) st (Hx ++ [bI (sub2 p)]) d.length pb bb bv kk c m Hx.length d.length (y14 := Ud) (y15 := Ud) (y16 := Ud) (y17 := Ud) (by omega)))
  | succ k ih =>
    intro i u hi hu hx
    have b1 := hv i (by omega)
    have w1 : IntKind.i64.wrap (p.getD i 0 - 2) = p.getD i 0 - 2 := wrap_id (by omega) (by omega)
    have hst := stg (H := Hx ++ [bI u]) (b := Hx.length) (k := i) (get_end _ _) hu (by omega) (p.getD i 0 - 2)
    rw [set_end] at hst
    have s := rc_j_0 (d.map encR) st (Hx ++ [bI u]) d.length pb bb bv kk c m Hx.length i (y14 := Ud) (y15 := Ud) (y16 := Ud) (y17 := Ud) (by omega) (ixg (by omega)) (ldg (g := p) (by rw [List.getElem?_append_left hlt]; exact hpb) hp (by omega)) (ixg (by omega)) (by rw [w1]; exact hst)
    rw [wrap_succ (by omega)] at s
    have r := ih (i + 1) (u.set i (p.getD i 0 - 2)) (by omega) (by simpa using hu) (fun x hxl => by
      rw [getDs _ _ _ _ (by omega)]
      by_cases e : i = x
      · subst e; rw [if_pos rfl]
      · rw [if_neg e]; exact hx x (by omega))
    exact lop (s) (by rw [show (Hx ++ [bI u]).length = (Hx ++ [bI (u.set i (p.getD i 0 - 2))]).length by simp]; exact gc_eq _ rfl) (r)
theorem rc_in2 {Hx : Heap} {bb c kk : Nat} {bv : Int} {cs : List Ed} (hN : d.length ≤ 1000) (hc : Hx[c]? = some (bF cs)) (he : EIn d.length cs) (hq : cs.length ≤ 200) : ∀ k j (u : List Int), j + k = cs.length → u.length = d.length → (∀ x, x < d.length → -6000 ≤ u.getD x 0 ∧ u.getD x 0 ≤ 6000 + 2 * (j : Int)) →
    ∃ y14 y15 y16, RT polRc 32 (sub [1, 1, 1, 1, 0, 1, 0, 0, 1, 0, 0, 1, 1, 1, 0, 1, 0] B32) (rcF d st Ud bb bv (.int .i64 (kk : Int)) (.sl c 0 cs.length none cs.length 3) (.sl Hx.length 0 d.length (some d.length) d.length 1) Ud (.int .i64 (j : Int)) Ud Ud Ud) (Hx ++ [bI u]) (.exit 4)
      (rcF d st Ud bb bv (.int .i64 (kk : Int)) (.sl c 0 cs.length none cs.length 3) (.sl Hx.length 0 d.length (some d.length) d.length 1) Ud y14 y15 y16 Ud) (Hx ++ [bI ((cs.drop j).foldl dstep u)]) := by
  have hlt : c < Hx.length := by
    rcases Nat.lt_or_ge c Hx.length with h | h
    · exact h
    · rw [List.getElem?_eq_none h] at hc; cases hc
  intro k
  induction k with
  | zero =>
    intro j u hj hu hb
    have : j = cs.length := by omega
    subst this
    rw [List.drop_length]
    exact ⟨_, _, _, lpo ((rc_l_1 (d.map encR) st (Hx ++ [bI u]) d.length 0 bb bv kk c cs.length Hx.length cs.length 0 0 (y7 := Ud) (y13 := Ud) (y15 := Ud) (y16 := Ud) (y17 := Ud) (by omega)))⟩
  | succ k ih =>
    intro j u hj hu hb
    have hdrop : cs.drop j = at_ cs j :: cs.drop (j + 1) := by
      rw [List.drop_eq_getElem_cons (by omega)]
      simp [at_, List.getD, List.getElem?_eq_getElem (show j < cs.length by omega)]
    have hmem : at_ cs j ∈ cs := by
      have : at_ cs j = cs[j] := by simp [at_, List.getD, List.getElem?_eq_getElem (show j < cs.length by omega)]
      rw [this]; exact List.getElem_mem _
    obtain ⟨ec, ea, eb, hae, ha, hbb⟩ : ∃ (ec : Int) (ea eb : Nat), at_ cs j = mkQ ec ea eb ∧ ea < d.length ∧ eb < d.length := by
      obtain ⟨⟨h1, h2⟩, h3, h4⟩ := he _ hmem
      refine ⟨(at_ cs j).1, (at_ cs j).2.1.toNat, (at_ cs j).2.2.toNat, ?_, h2, h4⟩
      show at_ cs j = ((at_ cs j).1, _, _)
      rw [Int.toNat_of_nonneg h1, Int.toNat_of_nonneg h3]
    have hcs : (Hx ++ [bI u])[c]? = some (bF cs) := by rw [List.getElem?_append_left hlt]; exact hc
    have l0 := lf0 (k := j) hcs rfl (by omega)
    have l1 := lf1 (k := j) hcs rfl (by omega)
    rw [hae] at l0 l1
    have b1 := hb ea ha
    have hb1 : ∀ x, x < d.length → -6000 ≤ (u.set ea (u.getD ea 0 + 1)).getD x 0 ∧ (u.set ea (u.getD ea 0 + 1)).getD x 0 ≤ 6001 + 2 * (j : Int) := fun x hx => by
      rw [getDs _ _ _ _ (by omega)]
      have := hb x hx
      split <;> omega
    have b2 := hb1 eb hbb
    have w1 : IntKind.i64.wrap (u.getD ea 0 + 1) = u.getD ea 0 + 1 := wrap_id (by omega) (by omega)
    have w2 : IntKind.i64.wrap ((u.set ea (u.getD ea 0 + 1)).getD eb 0 + 1) = (u.set ea (u.getD ea 0 + 1)).getD eb 0 + 1 := wrap_id (by omega) (by omega)
    have st1 := stg (H := Hx ++ [bI u]) (b := Hx.length) (k := ea) (get_end _ _) hu ha (u.getD ea 0 + 1)
    rw [set_end] at st1
    have st2 := stg (H := Hx ++ [bI (u.set ea (u.getD ea 0 + 1))]) (b := Hx.length) (k := eb) (get_end _ _) (by simpa using hu) hbb ((u.set ea (u.getD ea 0 + 1)).getD eb 0 + 1)
    rw [set_end] at st2
    have s := rc_l_0 (d.map encR) st (Hx ++ [bI u]) d.length 0 bb bv kk c cs.length Hx.length j ea eb (y7 := Ud) (y13 := Ud) (y15 := Ud) (y16 := Ud) (y17 := Ud) (by omega) (ixf (by omega)) l0 (ixf (by omega)) l1 (ixg ha) (ldg (g := u) (get_end _ _) hu ha) (ixg ha) (by rw [w1]; exact st1) (ixg hbb) (ldg (g := u.set ea (u.getD ea 0 + 1)) (get_end _ _) (by simpa using hu) hbb) (ixg hbb) (by rw [w2]; exact st2)
    rw [wrap_succ (by omega)] at s
    rw [hdrop, hae, List.foldl_cons]
    have hd' : dstep u (mkQ ec ea eb) = (u.set ea (u.getD ea 0 + 1)).set eb ((u.set ea (u.getD ea 0 + 1)).getD eb 0 + 1) := by simp only [dstep, Int.toNat_natCast]
    rw [← hd'] at s
    obtain ⟨y14, y15, y16, r⟩ := ih (j + 1) (dstep u (mkQ ec ea eb)) (by omega) (by rw [dstep_len]; exact hu) (fun x hx => by
      rw [hd', getDs _ _ _ _ (by simp; omega)]
      have := hb1 x hx
      split <;> omega)
    exact ⟨y14, y15, y16, lop (s) (by rw [show (Hx ++ [bI u]).length = (Hx ++ [bI (dstep u (mkQ ec ea eb))]).length by simp]; exact gc_eq _ rfl) (r)⟩
theorem q51s {pol' : Pol} (hp : pol'.prim 51 = some chosen51) {l : List Int} {b : Nat} {H : Heap} (hb : H[b]? = some (bI l)) (hd : okD d) (hn : l.length = d.length) (hl : prOk l) :
    ∀ kf, callN Tp pol' (kf + 1) 51 [.imm .arg 1 (d.map encR), .sl b 0 d.length (some d.length) d.length 1] H = some (.sl H.length 0 (chosen d l).length none (chosen d l).length 3, H ++ [bF (chosen d l)]) := fun kf => by
  rw [prim_call (pol := pol') (g := 51) (F := chosen51) hp (rs := [.imm .arg 1 (d.map encR), .imm .arg 1 (l.map encI)]) (by simp only [mapO, arg_rw, arg_slc hn hb]) (res := .own 3 ((chosen d l).map encF)) (by simp only [chosen51, rlF, mapO_map decR_enc, mapO_map decI_enc]; rw [if_pos ⟨hd, hn, hl⟩]), recv_F]
theorem q21s {pol' : Pol} (hp : pol'.prim 21 = some bound21) {l : List Int} {b : Nat} {H : Heap} (hb : H[b]? = some (bI l)) (hd : okD d) (hn : l.length = d.length) (hl : prOk l) :
    ∀ kf, callN Tp pol' (kf + 1) 21 [.imm .arg 1 (d.map encR), .sl b 0 d.length (some d.length) d.length 1] H = some (.int .i64 (bndT d l), H) := fun kf => by
  rw [prim_call (pol := pol') (g := 21) (F := bound21) hp (rs := [.imm .arg 1 (d.map encR), .imm .arg 1 (l.map encI)]) (by simp only [mapO, arg_rw, arg_slc hn hb]) (res := .int .i64 (bndT d l)) (by simp only [bound21, rlF, mapO_map decR_enc, mapO_map decI_enc]; rw [if_pos ⟨hd, hn, hl⟩])]; rfl
theorem rc_out (hd : okD d) (h3 : ¬ d.length < 3) {s : Nat} (hs : s ≤ 100) : ∀ k i (Hx : Heap) (p b : List Int) (bb : Nat) (v : Int), i + k = s → PB d.length i p → b.length = d.length → (Hx ++ [bI p])[bb]? = some (bI b) →
    ∃ H' pb' bb' y10 y11 y12 y13 y14 y15 y16 y17, RT polRc 32 (sub [1, 1, 1, 1, 0, 1, 0] B32) (rcE d (s : Int) Hx.length bb v (.int .i64 (i : Int)) Ud Ud Ud Ud Ud Ud Ud) (Hx ++ [bI p]) (.exit 0)
      (rcE d (s : Int) pb' bb' (clim d k p b v).2 y10 y11 y12 y13 y14 y15 y16 y17) H' ∧ H'[bb']? = some (bI (clim d k p b v).1) := by
  have hdn := hd.1
  intro k
  induction k with
  | zero =>
    intro i Hx p b bb v hi hp hb hg
    have : i = s := by omega
    subst this
    have s1 := rc_f_2 (d.map encR) (i : Int) (Hx ++ [bI p]) d.length Hx.length bb v i (y11 := Ud) (y12 := Ud) (y13 := Ud) (y14 := Ud) (y15 := Ud) (y16 := Ud) (y17 := Ud) (by omega)
    exact ⟨_, _, _, _, _, _, _, _, _, _, _, lpo (sqo (s1) (c := sub [1, 1, 1, 1, 0, 1, 0, 0] B32) (b := sub [1, 1, 1, 1, 0, 1, 0, 0, 1] B32)), hg⟩
  | succ k ih =>
    intro i Hx p b bb v hi hp hb hg
    have hp' := hp.step hd (by omega)
    have hbl : bb < (Hx ++ [bI p]).length := by
      rcases Nat.lt_or_ge bb (Hx ++ [bI p]).length with h | h
      · exact h
      · rw [List.getElem?_eq_none h] at hg; cases hg
    have s1 := rc_f_0 (d.map encR) (s : Int) (Hx ++ [bI p]) d.length Hx.length bb v i (y11 := Ud) (y12 := Ud) (y13 := Ud) (y14 := Ud) (y15 := Ud) (y16 := Ud) (y17 := Ud) (by omega) (by omega)
    have hpg : (Hx ++ [bI p])[Hx.length]? = some (bI p) := get_end _ _
    have s2 := rc_g_0 (d.map encR) (s : Int) (Hx ++ [bI p]) d.length Hx.length bb v i (y11 := Ud) (y12 := Ud) (y13 := Ud) (y14 := Ud) (y15 := Ud) (y16 := Ud) (y17 := Ud) (q51s (pol' := polRc) (by kernel_rfl) hpg hd hp.1 (hp.ok (by omega)))
    have hch := chosen_in (ps := p) hd
    have hcl := chosen_n (p := p) (show 2 ≤ d.length by omega)
    have hfc := fold_cstep hd hp.1
    generalize chosen d p = cs at s2 hch hcl hfc
    generalize hH : Hx ++ [bI p] = H at *
    have mk := makeV_ok (P := Tp) (H := H ++ [bF cs]) (t := 23) (e := 3) (k := 1) (bt := 8) (zv := .int .i64 0) (n := (d.length : Int)) u23 (by kernel_rfl) (by simp [cellsOf, cellV]) (by simp [cellsOf]) (by omega) (by omega) (by simp only [roomMax]; omega)
    rw [Int.toNat_natCast] at mk
    have hrep : List.replicate d.length (HV.int .i64 0) = (zer d.length).map encI := by simp [encI, zer]
    rw [hrep] at mk
    have s3 := rc_h_0 (d.map encR) (s : Int) (H ++ [bF cs]) d.length Hx.length bb v i H.length cs.length (H ++ [bF cs]).length (y12 := Ud) (y13 := Ud) (y14 := Ud) (y15 := Ud) (y16 := Ud) (y17 := Ud) mk
    have s4 := rc_i_0 (d.map encR) (s : Int) (H ++ [bF cs] ++ [bI (zer d.length)]) d.length Hx.length bb v i H.length cs.length (H ++ [bF cs]).length (y13 := Ud) (y14 := Ud) (y15 := Ud) (y16 := Ud) (y17 := Ud)
    have hHl : Hx.length < H.length := by rw [← hH]; simp
    have r1 := rc_in1 (d := d) (st := (s : Int)) (Hx := H ++ [bF cs]) (pb := Hx.length) (bb := bb) (c := H.length) (m := cs.length) (kk := i) (bv := v) (p := p) (by omega) (by rw [List.getElem?_append_left hHl]; exact hpg) hp.1 (fun x hx => by have := hp.2 x hx; omega) d.length 0 (zer d.length) (by omega) (by simp [zer]) (fun x hx => absurd hx (by omega))
    have s5 := rc_k_0 (d.map encR) (s : Int) (H ++ [bF cs] ++ [bI (sub2 p)]) d.length Hx.length bb v i H.length cs.length (H ++ [bF cs]).length (y14 := Ud) (y15 := Ud) (y16 := Ud) (y17 := Ud) (y13 := .int .i64 (d.length : Int))
    obtain ⟨y14, y15, y16, r2⟩ := rc_in2 (d := d) (st := (s : Int)) (Hx := H ++ [bF cs]) (bb := bb) (c := H.length) (kk := i) (bv := v) (cs := cs) (by omega) (get_end _ _) hch (by omega) cs.length 0 (sub2 p) (by omega) (by simp [sub2, hp.1]) (fun x hx => by
      rw [sub2_at (by rw [hp.1]; exact hx)]
      have := hp.2 x hx
      omega)
    rw [List.drop_zero, hfc] at r2
    have hng : (H ++ [bF cs] ++ [bI (cstep d p)])[(H ++ [bF cs]).length]? = some (bI (cstep d p)) := get_end _ _
    have k21 := q21s (pol' := polRc) (by kernel_rfl) hng hd (cstep_len d p) (hp'.ok (by omega))
    rw [bndT_eq h3 (cstep_len d p)] at k21
    have s7 := rc_n_0 (d.map encR) (s : Int) (H ++ [bF cs] ++ [bI (cstep d p)]) d.length (H ++ [bF cs]).length
    have hgc : ∀ (b' : Nat) (v' : Int), gc H.length (bndE (rcE d (s : Int) (H ++ [bF cs]).length b' v' (.int .i64 ((i + 1 : Nat) : Int)) Ud Ud Ud Ud Ud Ud Ud)) (H ++ [bF cs] ++ [bI (cstep d p)]) = H ++ [bF cs] ++ [bI (cstep d p)] := fun b' v' => gc_len (by
      rw [List.length_append]
      simp only [bndE, bnd, List.length_singleton]
      omega)
    rw [clim]
    by_cases c : v < boundS d (cstep d p)
    · have s6 := rc_m_0 (d.map encR) (s : Int) (H ++ [bF cs] ++ [bI (cstep d p)]) d.length Hx.length bb v i H.length cs.length (H ++ [bF cs]).length (y7 := Ud) (y13 := Ud) (y17 := Ud) (y11 := .sl H.length 0 cs.length none cs.length 3) (y14 := y14) (y15 := y15) (y16 := y16) k21 c
      have s7 := rc_n_0 (d.map encR) (s : Int) (H ++ [bF cs] ++ [bI (cstep d p)]) d.length (H ++ [bF cs]).length (H ++ [bF cs]).length (boundS d (cstep d p)) i (y13 := Ud) (y11 := .sl H.length 0 cs.length none cs.length 3) (y12 := .sl (H ++ [bF cs]).length 0 d.length (some d.length) d.length 1) (y14 := y14) (y15 := y15) (y16 := y16) (y17 := .int .i64 (boundS d (cstep d p)))
      rw [wrap_succ (by omega)] at s7
      rw [if_pos c, if_pos c]
      obtain ⟨H', pb', bb', y10, y11, y12, y13, z14, z15, z16, z17, r, hr⟩ := ih (i + 1) (H ++ [bF cs]) (cstep d p) (cstep d p) (H ++ [bF cs]).length (boundS d (cstep d p)) (by omega) hp' (cstep_len d p) hng
      exact ⟨H', pb', bb', y10, y11, y12, y13, z14, z15, z16, z17, lop (sq (s1) (sq (RunsTo.block_normal (i := 1) (c := sub [1, 1, 1, 1, 0, 1, 0, 0, 1, 0] B32) (sq (s2) (sq (s3) (sq (sq (s4) (bke (c := sub [1, 1, 1, 1, 0, 1, 0, 0, 1, 0, 0, 1, 1, 0, 1] B32) (lpi (e0 := (rcE d (s : Int) Hx.length bb v (.int .i64 (i : Int)) (.sl H.length 0 cs.length none cs.length 3) (.sl (H ++ [bF cs]).length 0 d.length (some d.length) d.length 1) (.int .i64 ((0 : Nat) : Int)) Ud Ud Ud Ud)) r1 (b := sub [1, 1, 1, 1, 0, 1, 0, 0, 1, 0, 0, 1, 1, 0, 1, 0, 0] B32))) (c := sub [1, 1, 1, 1, 0, 1, 0, 0, 1, 0, 0, 1, 1, 0] B32)) (sq (sq (s5) (bke (c := sub [1, 1, 1, 1, 0, 1, 0, 0, 1, 0, 0, 1, 1, 1, 0, 1] B32) (lpi (e0 := (rcE d (s : Int) Hx.length bb v (.int .i64 (i : Int)) (.sl H.length 0 cs.length none cs.length 3) (.sl (H ++ [bF cs]).length 0 d.length (some d.length) d.length 1) (.int .i64 (d.length : Int)) (.int .i64 ((0 : Nat) : Int)) Ud Ud Ud)) r2 (b := sub [1, 1, 1, 1, 0, 1, 0, 0, 1, 0, 0, 1, 1, 1, 0, 1, 0, 0] B32))) (c := sub [1, 1, 1, 1, 0, 1, 0, 0, 1, 0, 0, 1, 1, 1, 0] B32)) (s6) (c := sub [1, 1, 1, 1, 0, 1, 0, 0, 1, 0, 0, 1, 1, 1] B32)) (c := sub [1, 1, 1, 1, 0, 1, 0, 0, 1, 0, 0, 1, 1] B32)) (c := sub [1, 1, 1, 1, 0, 1, 0, 0, 1, 0, 0, 1] B32)) (c := sub [1, 1, 1, 1, 0, 1, 0, 0, 1, 0, 0] B32)) (by kernel_rfl)) (s7) (c := sub [1, 1, 1, 1, 0, 1, 0, 0, 1] B32)) (c := sub [1, 1, 1, 1, 0, 1, 0, 0] B32)) (hgc _ _) (r), hr⟩
    · have s6 := rc_m_1 (d.map encR) (s : Int) (H ++ [bF cs] ++ [bI (cstep d p)]) d.length Hx.length bb v i H.length cs.length (H ++ [bF cs]).length (y7 := Ud) (y13 := Ud) (y17 := Ud) (y11 := .sl H.length 0 cs.length none cs.length 3) (y14 := y14) (y15 := y15) (y16 := y16) k21 c
      have s7 := rc_n_0 (d.map encR) (s : Int) (H ++ [bF cs] ++ [bI (cstep d p)]) d.length (H ++ [bF cs]).length bb v i (y13 := Ud) (y11 := .sl H.length 0 cs.length none cs.length 3) (y12 := .sl (H ++ [bF cs]).length 0 d.length (some d.length) d.length 1) (y14 := y14) (y15 := y15) (y16 := y16) (y17 := .int .i64 (boundS d (cstep d p)))
      rw [wrap_succ (by omega)] at s7
      rw [if_neg c, if_neg c]
      obtain ⟨H', pb', bb', y10, y11, y12, y13, z14, z15, z16, z17, r, hr⟩ := ih (i + 1) (H ++ [bF cs]) (cstep d p) b bb v (by omega) hp' hb (by rw [List.append_assoc, List.getElem?_append_left hbl]; exact hg)
      exact ⟨H', pb', bb', y10, y11, y12, y13, z14, z15, z16, z17, lop (sq (s1) (sq (RunsTo.block_normal (i := 1) (c := sub [1, 1, 1, 1, 0, 1, 0, 0, 1, 0] B32) (sq (s2) (sq (s3) (sq (sq (s4) (bke (c := sub [1, 1, 1, 1, 0, 1, 0, 0, 1, 0, 0, 1, 1, 0, 1] B32) (lpi (e0 := (rcE d (s : Int) Hx.length bb v (.int .i64 (i : Int)) (.sl H.length 0 cs.length none cs.length 3) (.sl (H ++ [bF cs]).length 0 d.length (some d.length) d.length 1) (.int .i64 ((0 : Nat) : Int)) Ud Ud Ud Ud)) r1 (b := sub [1, 1, 1, 1, 0, 1, 0, 0, 1, 0, 0, 1, 1, 0, 1, 0, 0] B32))) (c := sub [1, 1, 1, 1, 0, 1, 0, 0, 1, 0, 0, 1, 1, 0] B32)) (sq (sq (s5) (bke (c := sub [1, 1, 1, 1, 0, 1, 0, 0, 1, 0, 0, 1, 1, 1, 0, 1] B32) (lpi (e0 := (rcE d (s : Int) Hx.length bb v (.int .i64 (i : Int)) (.sl H.length 0 cs.length none cs.length 3) (.sl (H ++ [bF cs]).length 0 d.length (some d.length) d.length 1) (.int .i64 (d.length : Int)) (.int .i64 ((0 : Nat) : Int)) Ud Ud Ud)) r2 (b := sub [1, 1, 1, 1, 0, 1, 0, 0, 1, 0, 0, 1, 1, 1, 0, 1, 0, 0] B32))) (c := sub [1, 1, 1, 1, 0, 1, 0, 0, 1, 0, 0, 1, 1, 1, 0] B32)) (s6) (c := sub [1, 1, 1, 1, 0, 1, 0, 0, 1, 0, 0, 1, 1, 1] B32)) (c := sub [1, 1, 1, 1, 0, 1, 0, 0, 1, 0, 0, 1, 1] B32)) (c := sub [1, 1, 1, 1, 0, 1, 0, 0, 1, 0, 0, 1] B32)) (c := sub [1, 1, 1, 1, 0, 1, 0, 0, 1, 0, 0] B32)) (by kernel_rfl)) (s7) (c := sub [1, 1, 1, 1, 0, 1, 0, 0, 1] B32)) (c := sub [1, 1, 1, 1, 0, 1, 0, 0] B32)) (hgc _ _) (r), hr⟩
end
theorem rclimb_ok : PrimOk Tp 32 climb32 := by
  refine primOk_pure (pol := polRc) (fn := Try.f32) (cd := B32) follows_mixed soundRc (by kernel_rfl) (by kernel_rfl) (fnok polRc.prim _ _ (by kernel_rfl)) (by kernel_rfl) ?_
  intro args res h
  obtain ⟨d, s0, rfl, hq⟩ := riF_inv h
  clear h
  split at hq
  case isFalse => cases hq
  rename_i hc
  obtain ⟨hd, hs⟩ := hc
  cases hq
  have hdn := hd.1
  obtain ⟨s, rfl⟩ : ∃ x : Nat, s0 = (x : Int) := ⟨s0.toNat, by omega⟩
  rw [Int.toNat_natCast]
  have hzl : (zer d.length).length = d.length := by simp [zer]
  have hz := PB.zero d.length
  have a := rc_a_0 (d.map encR) (s : Int)
  have b := rc_b_0 (d.map encR) (s : Int) (y6 := Ud) (y7 := Ud) (y8 := Ud) (y9 := Ud) (y10 := Ud) (y11 := Ud) (y12 := Ud) (y13 := Ud) (y14 := Ud) (y15 := Ud) (y16 := Ud) (y17 := Ud)
  rw [List.length_map] at b
  have mk := makeV_ok (P := Tp) (H := []) (t := 23) (e := 3) (k := 1) (bt := 8) (zv := .int .i64 0) (n := (d.length : Int)) u23 (by kernel_rfl) (by simp [cellsOf, cellV]) (by simp [cellsOf]) (by omega) (by omega) (by simp only [roomMax]; omega)
  rw [Int.toNat_natCast] at mk
  have hrep : List.replicate d.length (HV.int .i64 0) = (zer d.length).map encI := by simp [encI, zer]
  have c := rc_c_0 (d.map encR) (s : Int) d.length (y7 := Ud) (y8 := Ud) (y9 := Ud) (y10 := Ud) (y11 := Ud) (y12 := Ud) (y13 := Ud) (y14 := Ud) (y15 := Ud) (y16 := Ud) (y17 := Ud) mk
  rw [hrep] at c
  have dd := rc_d_0 (d.map encR) (s : Int) [bI (zer d.length)] d.length 0 (y8 := Ud) (y9 := Ud) (y10 := Ud) (y11 := Ud) (y12 := Ud) (y13 := Ud) (y14 := Ud) (y15 := Ud) (y16 := Ud) (y17 := Ud) (q21s (pol' := polRc) (by kernel_rfl) (H := [bI (zer d.length)]) (b := 0) rfl hd hzl (hz.ok (by omega)))
  have e := rc_e_0 (d.map encR) (s : Int) [bI (zer d.length)] d.length 0 0 (bndT d (zer d.length)) (y10 := Ud) (y11 := Ud) (y12 := Ud) (y13 := Ud) (y14 := Ud) (y15 := Ud) (y16 := Ud) (y17 := Ud)
  by_cases h3 : d.length < 3
  · have ht : climT d s = (zer d.length, bndT d (zer d.length)) := by
      unfold climT
      rw [if_pos h3]
    rw [ht]
    have o := rc_o_0 (d.map encR) (s : Int) [bI (zer d.length)] d.length 0 0 (bndT d (zer d.length)) (y10 := .int .i64 ((0 : Nat) : Int)) (y11 := Ud) (y12 := Ud) (y13 := Ud) (y14 := Ud) (y15 := Ud) (y16 := Ud) (y17 := Ud)
    by_cases h0 : (0 : Int) < (s : Int)
    · have f := rc_f_1 (d.map encR) (s : Int) [bI (zer d.length)] d.length 0 0 (bndT d (zer d.length)) 0 (y11 := Ud) (y12 := Ud) (y13 := Ud) (y14 := Ud) (y15 := Ud) (y16 := Ud) (y17 := Ud) (by omega) (by omega)
      have t := sq (a) (sq (b) (sq (c) (sq (dd) (sq (sq (e) (bke (c := sub [1, 1, 1, 1, 0, 1] B32) (lpo (sqo (f) (c := sub [1, 1, 1, 1, 0, 1, 0, 0] B32) (b := sub [1, 1, 1, 1, 0, 1, 0, 0, 1] B32)) (c := sub [1, 1, 1, 1, 0, 1, 0] B32))) (c := sub [1, 1, 1, 1, 0] B32)) (o) (c := sub [1, 1, 1, 1] B32)) (c := sub [1, 1, 1] B32)) (c := sub [1, 1] B32)) (c := sub [1] B32)) (c := B32)
      exact ⟨_, _, _, .tuple [.sl 0 0 d.length (some d.length) d.length 1, .int .i64 (bndT d (zer d.length))], t, by simp, by simp only [resultsV, res32]; rfl, toRes_li1 (b := 0) (o := zer d.length) rfl hzl _⟩
    · have f := rc_f_2 (d.map encR) (s : Int) [bI (zer d.length)] d.length 0 0 (bndT d (zer d.length)) 0 (y11 := Ud) (y12 := Ud) (y13 := Ud) (y14 := Ud) (y15 := Ud) (y16 := Ud) (y17 := Ud) (by omega)
      have t := sq (a) (sq (b) (sq (c) (sq (dd) (sq (sq (e) (bke (c := sub [1, 1, 1, 1, 0, 1] B32) (lpo (sqo (f) (c := sub [1, 1, 1, 1, 0, 1, 0, 0] B32) (b := sub [1, 1, 1, 1, 0, 1, 0, 0, 1] B32)) (c := sub [1, 1, 1, 1, 0, 1, 0] B32))) (c := sub [1, 1, 1, 1, 0] B32)) (o) (c := sub [1, 1, 1, 1] B32)) (c := sub [1, 1, 1] B32)) (c := sub [1, 1] B32)) (c := sub [1] B32)) (c := B32)
      exact ⟨_, _, _, .tuple [.sl 0 0 d.length (some d.length) d.length 1, .int .i64 (bndT d (zer d.length))], t, by simp, by simp only [resultsV, res32]; rfl, toRes_li1 (b := 0) (o := zer d.length) rfl hzl _⟩
  · have ht : climT d s = clim d s (zer d.length) (zer d.length) (bndT d (zer d.length)) := by
      unfold climT
      rw [if_neg h3]
    have hcl := clim_len (d := d) s (zer d.length) (zer d.length) (bndT d (zer d.length)) hzl
    obtain ⟨H', pb', bb', y10, y11, y12, y13, y14, y15, y16, y17, r, hr⟩ := rc_out hd h3 (s := s) (by omega) s 0 [] (zer d.length) (zer d.length) 0 (bndT d (zer d.length)) (by omega) hz hzl rfl
    rw [ht]
    generalize clim d s (zer d.length) (zer d.length) (bndT d (zer d.length)) = w at r hr hcl ⊢
    have o := rc_o_0 (d.map encR) (s : Int) H' d.length pb' bb' w.2 (y10 := y10) (y11 := y11) (y12 := y12) (y13 := y13) (y14 := y14) (y15 := y15) (y16 := y16) (y17 := y17)
    have t := sq (a) (sq (b) (sq (c) (sq (dd) (sq (sq (e) (bke (c := sub [1, 1, 1, 1, 0, 1] B32) (lpi (e0 := (rcE d (s : Int) 0 0 (bndT d (zer d.length)) (.int .i64 ((0 : Nat) : Int)) Ud Ud Ud Ud Ud Ud Ud)) r (b := sub [1, 1, 1, 1, 0, 1, 0, 0] B32))) (c := sub [1, 1, 1, 1, 0] B32)) (o) (c := sub [1, 1, 1, 1] B32)) (c := sub [1, 1, 1] B32)) (c := sub [1, 1] B32)) (c := sub [1] B32)) (c := B32)
    exact ⟨_, _, _, .tuple [.sl bb' 0 d.length (some d.length) d.length 1, .int .i64 w.2], t, by simp, by simp only [resultsV, res32]; rfl, toRes_li1 hr hcl _⟩
end Go.Proofs.Ytlendaofkmhgmaa
end
section
open Go Go.HL
namespace Go.Proofs.Ytlendaofkmhgmaa
open Go.Proofs.Try renaming prog → Tp
open Go.HL.HV renaming undef → Ud
noncomputable def polLc6 : Pol := { pol with prim := fun g => if g == 20 then some awakeF else if g == 15 then some table15 else if g == 31 then some climb31 else if g == 18 then some miles46 else if g == 32 then some climb32 else if g == 26 then some ints26 else none }
theorem soundLc6 (n : Nat) : CallSound Tp (callN Tp polLc6 n) := sound_prim _ (fun g f h => by
  split at h
  · rename_i hg; cases h; rw [eq_of_beq hg]; exact awake_prim
  split at h
  · rename_i hg; cases h; rw [eq_of_beq hg]; exact table_ok
  split at h
  · rename_i hg; cases h; rw [eq_of_beq hg]; exact climb_ok
  split at h
  · rename_i hg; cases h; rw [eq_of_beq hg]; exact dist_ok
  split at h
  · rename_i hg; cases h; rw [eq_of_beq hg]; exact rclimb_ok
  split at h
  · rename_i hg; cases h; rw [eq_of_beq hg]; exact ints_ok
  · cases h) n
end Go.Proofs.Ytlendaofkmhgmaa
end
section
open Go Go.HL
namespace Go.Proofs.Ytlendaofkmhgmaa
set_option maxRecDepth 100000
open Go.Proofs.Try renaming prog → Tp
open Go.HL.HV renaming undef → Ud
noncomputable def B6 : Code := Try.f6.body.getD .skip
abbrev env6 (v0 v1 v4 v5 v6 v7 v8 v9 v10 : HV) : Env := [(0, v0), (1, v1), (4, v4), (5, v5), (6, v6), (7, v7), (8, v8), (9, v9), (10, v10)]
theorem lcl_a_0 (N : Nat) (rw : List HV) (st : Int) : RT polLc6 6 (sub [0] B6) [(0, .imm .arg 1 rw), (1, .i st)] [] .normal (env6 (.imm .arg 1 rw) (.i st) (.bool false) Ud Ud Ud Ud Ud Ud) [] :=
  RunsTo.hin N 60 [] fun kf hk => ⟨_, by kernel_rfl, .nil⟩
theorem lcl_b_0 (N : Nat) (rw : List HV) (st : Int) (n : Nat) (xs : List HV) (g0 : ∀ kf, callN Tp polLc6 (kf + 1) 15 [.imm .arg 1 rw] [] = some (.sl 0 0 n none n 1, [.arr 1 xs true 0])) : RT polLc6 6 (sub [1, 0] B6) (env6 (.imm .arg 1 rw) (.i st) (.bool false) Ud Ud Ud Ud Ud Ud) [] .normal (env6 (.imm .arg 1 rw) (.i st) (.bool false) (.sl 0 0 n none n 1) Ud Ud Ud Ud Ud) [.arr 1 xs true 0] :=
  RunsTo.hin N 60 [⟨1, 1, .sl 0 0 n none n 1, [.arr 1 xs true 0]⟩] fun kf hk => ⟨_, by kernel_rfl, (oC (g0 kf) .nil)⟩
theorem lcl_c_0 (N : Nat) (rw : List HV) (st : Int) (n : Nat) (xs : List HV) (q : Nat) (a : Int) (e : Int) (os : List HV) (g0 : ∀ kf, callN Tp polLc6 (kf + 1) 31 [.sl 0 0 n none n 1, .i st] [.arr 1 xs true 0] = some (.tuple [.sl 1 0 q none q 1, .i a, .i e], [.arr 1 xs true 0, .arr 1 os true 0])) : RT polLc6 6 (sub [1, 1, 0] B6) (env6 (.imm .arg 1 rw) (.i st) (.bool false) (.sl 0 0 n none n 1) Ud Ud Ud Ud Ud) [.arr 1 xs true 0] .normal (env6 (.imm .arg 1 rw) (.i st) (.bool false) (.sl 0 0 n none n 1) (.sl 1 0 q none q 1) (.i a) (.i e) Ud Ud) [.arr 1 xs true 0, .arr 1 os true 0] :=
  RunsTo.hin N 60 [⟨2, 2, .tuple [.sl 1 0 q none q 1, .i a, .i e], [.arr 1 xs true 0, .arr 1 os true 0]⟩] fun kf hk => ⟨_, by kernel_rfl, (oC (g0 kf) .nil)⟩
theorem lcl_d_0 (N : Nat) (rw : List HV) (st : Int) (n : Nat) (xs : List HV) (q : Nat) (a e : Int) (os : List HV)(g0 : ∀ kf, callN Tp polLc6 (kf + 1) 18 [.sl 0 0 n none n 1] [.arr 1 xs true 0, .arr 1 os true 0] = some (.bool true, [.arr 1 xs true 0, .arr 1 os true 0])) (g1 : st < 0) (g2 : (q : Int) = 0) (g3 : a = 0) (g4 : e = 2) : RT polLc6 6 (sub [1, 1, 1, 0] B6) (env6 (.imm .arg 1 rw) (.i st) (.bool false) (.sl 0 0 n none n 1) (.sl 1 0 q none q 1) (.i a) (.i e) Ud Ud) [.arr 1 xs true 0, .arr 1 os true 0] .ret (env6 (.imm .arg 1 rw) (.i st) (.bool true) (.sl 0 0 n none n 1) (.sl 1 0 q none q 1) (.i a) (.i e) Ud Ud) [.arr 1 xs true 0, .arr 1 os true 0] :=
  RunsTo.hin N 60 [⟨3, 1, .bool true, [.arr 1 xs true 0, .arr 1 os true 0]⟩, ⟨3, 5, .bool true, [.arr 1 xs true 0, .arr 1 os true 0]⟩, ⟨4, 2, .bool true, [.arr 1 xs true 0, .arr 1 os true 0]⟩, ⟨4, 5, .bool true, [.arr 1 xs true 0, .arr 1 os true 0]⟩, ⟨4, 9, .bool true, [.arr 1 xs true 0, .arr 1 os true 0]⟩] fun kf hk => ⟨_, by kernel_rfl, (oC (g0 kf) (oB [.arr 1 xs true 0, .arr 1 os true 0] (decide_eq_true g1) (oB [.arr 1 xs true 0, .arr 1 os true 0] (decide_eq_true g2) (oB [.arr 1 xs true 0, .arr 1 os true 0] (decide_eq_true g3) (oB [.arr 1 xs true 0, .arr 1 os true 0] (decide_eq_true g4) .nil)))))⟩
theorem lcl_d_4 (N : Nat) (rw : List HV) (st : Int) (n : Nat) (xs : List HV) (q : Nat) (a e : Int) (os : List HV)(g0 : ∀ kf, callN Tp polLc6 (kf + 1) 18 [.sl 0 0 n none n 1] [.arr 1 xs true 0, .arr 1 os true 0] = some (.bool true, [.arr 1 xs true 0, .arr 1 os true 0])) (g1 : ¬ (st < 0)) (g2 : 100 < st) (g3 : (q : Int) = 0) (g4 : a = 0) (g5 : e = 2) : RT polLc6 6 (sub [1, 1, 1, 0] B6) (env6 (.imm .arg 1 rw) (.i st) (.bool false) (.sl 0 0 n none n 1) (.sl 1 0 q none q 1) (.i a) (.i e) Ud Ud) [.arr 1 xs true 0, .arr 1 os true 0] .ret (env6 (.imm .arg 1 rw) (.i st) (.bool true) (.sl 0 0 n none n 1) (.sl 1 0 q none q 1) (.i a) (.i e) Ud Ud) [.arr 1 xs true 0, .arr 1 os true 0] :=
  RunsTo.hin N 60 [⟨3, 1, .bool true, [.arr 1 xs true 0, .arr 1 os true 0]⟩, ⟨3, 5, .bool false, [.arr 1 xs true 0, .arr 1 os true 0]⟩, ⟨3, 9, .bool true, [.arr 1 xs true 0, .arr 1 os true 0]⟩, ⟨4, 2, .bool true, [.arr 1 xs true 0, .arr 1 os true 0]⟩, ⟨4, 5, .bool true, [.arr 1 xs true 0, .arr 1 os true 0]⟩, ⟨4, 9, .bool true, [.arr 1 xs true 0, .arr 1 os true 0]⟩] fun kf hk => ⟨_, by kernel_rfl, (oC (g0 kf) (oB [.arr 1 xs true 0, .arr 1 os true 0] (decide_eq_false g1) (oB [.arr 1 xs true 0, .arr 1 os true 0] (decide_eq_true g2) (oB [.arr 1 xs true 0, .arr 1 os true 0] (decide_eq_true g3) (oB [.arr 1 xs true 0, .arr 1 os true 0] (decide_eq_true g4) (oB [.arr 1 xs true 0, .arr 1 os true 0] (decide_eq_true g5) .nil))))))⟩
theorem lcl_d_8 (N : Nat) (rw : List HV) (st : Int) (n : Nat) (xs : List HV) (q : Nat) (a e : Int) (os : List HV)(g0 : ∀ kf, callN Tp polLc6 (kf + 1) 18 [.sl 0 0 n none n 1] [.arr 1 xs true 0, .arr 1 os true 0] = some (.bool true, [.arr 1 xs true 0, .arr 1 os true 0])) (g1 : ¬ (st < 0)) (g2 : ¬ (100 < st)) : RT polLc6 6 (sub [1, 1, 1, 0] B6) (env6 (.imm .arg 1 rw) (.i st) (.bool false) (.sl 0 0 n none n 1) (.sl 1 0 q none q 1) (.i a) (.i e) Ud Ud) [.arr 1 xs true 0, .arr 1 os true 0] .normal (env6 (.imm .arg 1 rw) (.i st) (.bool false) (.sl 0 0 n none n 1) (.sl 1 0 q none q 1) (.i a) (.i e) Ud Ud) [.arr 1 xs true 0, .arr 1 os true 0] :=
  RunsTo.hin N 60 [⟨3, 1, .bool true, [.arr 1 xs true 0, .arr 1 os true 0]⟩, ⟨3, 5, .bool false, [.arr 1 xs true 0, .arr 1 os true 0]⟩, ⟨3, 9, .bool false, [.arr 1 xs true 0, .arr 1 os true 0]⟩] fun kf hk => ⟨_, by kernel_rfl, (oC (g0 kf) (oB [.arr 1 xs true 0, .arr 1 os true 0] (decide_eq_false g1) (oB [.arr 1 xs true 0, .arr 1 os true 0] (decide_eq_false g2) .nil)))⟩
theorem lcl_d_9 (N : Nat) (rw : List HV) (st : Int) (n : Nat) (xs : List HV) (q : Nat) (a e : Int) (os : List HV)(g0 : ∀ kf, callN Tp polLc6 (kf + 1) 18 [.sl 0 0 n none n 1] [.arr 1 xs true 0, .arr 1 os true 0] = some (.bool false, [.arr 1 xs true 0, .arr 1 os true 0])) (g1 : (q : Int) = 0) (g2 : a = 0) (g3 : e = 2) : RT polLc6 6 (sub [1, 1, 1, 0] B6) (env6 (.imm .arg 1 rw) (.i st) (.bool false) (.sl 0 0 n none n 1) (.sl 1 0 q none q 1) (.i a) (.i e) Ud Ud) [.arr 1 xs true 0, .arr 1 os true 0] .ret (env6 (.imm .arg 1 rw) (.i st) (.bool true) (.sl 0 0 n none n 1) (.sl 1 0 q none q 1) (.i a) (.i e) Ud Ud) [.arr 1 xs true 0, .arr 1 os true 0] :=
  RunsTo.hin N 60 [⟨3, 1, .bool false, [.arr 1 xs true 0, .arr 1 os true 0]⟩, ⟨4, 2, .bool true, [.arr 1 xs true 0, .arr 1 os true 0]⟩, ⟨4, 5, .bool true, [.arr 1 xs true 0, .arr 1 os true 0]⟩, ⟨4, 9, .bool true, [.arr 1 xs true 0, .arr 1 os true 0]⟩] fun kf hk => ⟨_, by kernel_rfl, (oC (g0 kf) (oB [.arr 1 xs true 0, .arr 1 os true 0] (decide_eq_true g1) (oB [.arr 1 xs true 0, .arr 1 os true 0] (decide_eq_true g2) (oB [.arr 1 xs true 0, .arr 1 os true 0] (decide_eq_true g3) .nil))))⟩
theorem lcl_e_0 (N : Nat) (rw : List HV) (st : Int) (n : Nat) (xs : List HV) (q : Nat) (a e : Int) (os : List HV) (w : Nat) (c : Int) (ws : List HV) (g0 : ∀ kf, callN Tp polLc6 (kf + 1) 32 [.sl 0 0 n none n 1, .i st] [.arr 1 xs true 0, .arr 1 os true 0] = some (.tuple [.sl 2 0 w none w 1, .i c], [.arr 1 xs true 0, .arr 1 os true 0, .arr 1 ws true 0])) : RT polLc6 6 (sub [1, 1, 1, 1, 0] B6) (env6 (.imm .arg 1 rw) (.i st) (.bool false) (.sl 0 0 n none n 1) (.sl 1 0 q none q 1) (.i a) (.i e) Ud Ud) [.arr 1 xs true 0, .arr 1 os true 0] .normal (env6 (.imm .arg 1 rw) (.i st) (.bool false) (.sl 0 0 n none n 1) (.sl 1 0 q none q 1) (.i a) (.i e) (.sl 2 0 w none w 1) (.i c)) [.arr 1 xs true 0, .arr 1 os true 0, .arr 1 ws true 0] :=
  RunsTo.hin N 60 [⟨5, 2, .tuple [.sl 2 0 w none w 1, .i c], [.arr 1 xs true 0, .arr 1 os true 0, .arr 1 ws true 0]⟩] fun kf hk => ⟨_, by kernel_rfl, (oC (g0 kf) .nil)⟩
theorem lcl_f_0 (N : Nat) (rw : List HV) (st : Int) (n : Nat) (xs : List HV) (q : Nat) (a e : Int) (os : List HV) (w : Nat) (c : Int) (ws : List HV)(g0 : ∀ kf, callN Tp polLc6 (kf + 1) 26 [.sl 1 0 q none q 1, .sl 2 0 w none w 1] [.arr 1 xs true 0, .arr 1 os true 0, .arr 1 ws true 0] = some (.bool true, [.arr 1 xs true 0, .arr 1 os true 0, .arr 1 ws true 0])) (g1 : a = c) (g2 : e = 0) : RT polLc6 6 (sub [1, 1, 1, 1, 1] B6) (env6 (.imm .arg 1 rw) (.i st) (.bool false) (.sl 0 0 n none n 1) (.sl 1 0 q none q 1) (.i a) (.i e) (.sl 2 0 w none w 1) (.i c)) [.arr 1 xs true 0, .arr 1 os true 0, .arr 1 ws true 0] .ret (env6 (.imm .arg 1 rw) (.i st) (.bool true) (.sl 0 0 n none n 1) (.sl 1 0 q none q 1) (.i a) (.i e) (.sl 2 0 w none w 1) (.i c)) [.arr 1 xs true 0, .arr 1 os true 0, .arr 1 ws true 0] :=
  RunsTo.hin N 60 [⟨6, 2, .bool true, [.arr 1 xs true 0, .arr 1 os true 0, .arr 1 ws true 0]⟩, ⟨6, 6, .bool true, [.arr 1 xs true 0, .arr 1 os true 0, .arr 1 ws true 0]⟩, ⟨6, 10, .bool true, [.arr 1 xs true 0, .arr 1 os true 0, .arr 1 ws true 0]⟩] fun kf hk => ⟨_, by kernel_rfl, (oC (g0 kf) (oB [.arr 1 xs true 0, .arr 1 os true 0, .arr 1 ws true 0] (decide_eq_true g1) (oB [.arr 1 xs true 0, .arr 1 os true 0, .arr 1 ws true 0] (decide_eq_true g2) .nil)))⟩
end Go.Proofs.Ytlendaofkmhgmaa
end
section
open Go Go.HL
namespace Go.Proofs.Ytlendaofkmhgmaa
open Go.Proofs.Try renaming prog → Tp
open Go.HL.HV renaming undef → Ud
theorem res6 : Try.f6.results.toList = [.tmp 4] := by kernel_rfl
section
variable {pol' : Pol} {d : List (List Int)} {l : List Int} {H : Heap}
open Classical in
theorem q31 (hp : pol'.prim 31 = some climb31) (hx : H[0]? = some (.arr 1 (d.map encO) true 0)) (h1 : d.length ≤ 1000) (h2 : (d.all fun r => decide (r.length ≤ 1000)) = true) {s : Int} {o : List Int} {a e : Int} (he : (if okD d ∧ 0 ≤ s ∧ s ≤ 100 then ((climT d s.toNat).1, (climT d s.toNat).2, (0 : Int)) else ([], 0, 2)) = (o, a, e)) : ∀ k, callN Tp pol' (k + 1) 31 [.sl 0 0 d.length none d.length 1, .int .i64 s] H = some (.tuple [.sl H.length 0 o.length none o.length 1, .int .i64 a, .int .i64 e], H ++ [bI o]) := fun k => by
  rw [prim_call (pol := pol') (g := 31) (F := climb31) hp (rs := [.imm .arg 1 (d.map encR), .int .i64 s]) (by simp only [mapO, arg_rs rfl hx]; rfl) (res := .tuple [.own 1 (o.map encI), .int .i64 a, .int .i64 e]) (by
    simp only [climb31, riF, mapO_map decR_enc]
    rw [if_pos ⟨h1, h2⟩]
    split at he <;> rename_i hc <;> cases he
    · rw [if_pos hc]
    · rw [if_neg hc]; rfl)]
  simp only [recv, recvVals, recvVal, recvCell, encI_any, List.length_map]
  rfl
theorem q32 (hp : pol'.prim 32 = some climb32) (hx : H[0]? = some (.arr 1 (d.map encO) true 0)) (hd : okD d) {s : Int} (hs : 0 ≤ s ∧ s ≤ 100) : ∀ k, callN Tp pol' (k + 1) 32 [.sl 0 0 d.length none d.length 1, .int .i64 s] H = some (.tuple [.sl H.length 0 (climT d s.toNat).1.length none (climT d s.toNat).1.length 1, .int .i64 (climT d s.toNat).2], H ++ [bI (climT d s.toNat).1]) := fun k => by
  rw [prim_call (pol := pol') (g := 32) (F := climb32) hp (rs := [.imm .arg 1 (d.map encR), .int .i64 s]) (by simp only [mapO, arg_rs rfl hx]; rfl) (res := .tuple [.own 1 ((climT d s.toNat).1.map encI), .int .i64 (climT d s.toNat).2]) (by
    simp only [climb32, riF, mapO_map decR_enc]
    rw [if_pos ⟨hd, hs⟩])]
  simp only [recv, recvVals, recvVal, recvCell, encI_any, List.length_map]
  rfl
theorem q18z (hp : pol'.prim 18 = some miles46) (hx : H[0]? = some (.arr 1 (d.map encO) true 0)) (h1 : d.length ≤ 1000) (h2 : (d.all fun r => decide (r.length ≤ 1000)) = true) (b : Bool) (hb : okB d = b) : ∀ k, callN Tp pol' (k + 1) 18 [.sl 0 0 d.length none d.length 1] H = some (.bool b, H) := fun k => by
  rw [prim_call (pol := pol') (g := 18) (F := miles46) hp (rs := [.imm .arg 1 (d.map encR)]) (by simp only [mapO, arg_rs rfl hx]) (res := .bool b) (by simp only [miles46, rwF, mapO_map decR_enc]; rw [if_pos ⟨h1, h2⟩, hb])]; rfl
theorem q26z (hp : pol'.prim 26 = some ints26) {o : List Int} {a b n : Nat} (hn : o.length = n) (ho : n ≤ 1000) (h2 : H[a]? = some (bI o)) (h3 : H[b]? = some (bI o)) : ∀ k, callN Tp pol' (k + 1) 26 [.sl a 0 n none n 1, .sl b 0 n none n 1] H = some (.bool true, H) := fun k => by
  rw [prim_call (pol := pol') (g := 26) (F := ints26) hp (rs := [.imm .arg 1 (o.map encI), .imm .arg 1 (o.map encI)]) (by simp only [mapO, arg_sl hn h2, arg_sl hn h3]) (res := .bool true) (by simp only [ints26, llF, mapO_map decI_enc]; rw [if_pos (by omega), decide_eq_true trivial])]; rfl
end
theorem climT_len (d : List (List Int)) (s : Nat) : (climT d s).1.length = d.length := by
  unfold climT
  split
  · simp [zer]
  · exact clim_len _ _ _ _ (by simp [zer])
open Classical in
theorem roundClimbs_law (R0 : List (List Int)) (st : Int) : ∃ E H, RT polLc6 6 B6 (args0 [.imm .arg 1 (R0.map encR), .int .i64 st]) [] .ret E H ∧ E.get 4 = .bool true := by
  have a1 := lcl_a_0 0 (R0.map encR) st
  have k15 : ∀ k, callN Tp polLc6 (k + 1) 15 [.imm .arg 1 (R0.map encR)] [] = some (.sl 0 0 (tabL R0).length none (tabL R0).length 1, [.arr 1 ((tabL R0).map encO) true 0]) := fun k => by
    rw [prim_call (pol := polLc6) (g := 15) (F := table15) (by kernel_rfl) (rs := [.imm .arg 1 (R0.map encR)]) (by simp only [mapO, arg_rw]) (res := .own 1 ((tabL R0).map encO)) (by simp only [table15, rwF, mapO_map decR_enc]), recv_rows]; rfl
  have b1 := lcl_b_0 0 (R0.map encR) st _ _ k15
  obtain ⟨hd12, hdr⟩ := tabL_len R0
  generalize tabL R0 = d at b1 hd12 hdr
  have up : ∀ (o : List Int) (a e : Int) (E : Env) (H : Heap), (if okD d ∧ 0 ≤ st ∧ st ≤ 100 then ((climT d st.toNat).1, (climT d st.toNat).2, (0 : Int)) else ([], 0, 2)) = (o, a, e) →
      RT polLc6 6 (sub [1, 1, 1] B6) (env6 (.imm .arg 1 (R0.map encR)) (.int .i64 st) (.bool false) (.sl 0 0 d.length none d.length 1) (.sl 1 0 o.length none o.length 1) (.int .i64 a) (.int .i64 e) Ud Ud) [.arr 1 (d.map encO) true 0, bI o] .ret E H →
      RT polLc6 6 B6 (args0 [.imm .arg 1 (R0.map encR), .int .i64 st]) [] .ret E H := fun o a e E H he t => by
    have c1 := lcl_c_0 0 (R0.map encR) st d.length (d.map encO) o.length a e (o.map encI) (q31 (pol' := polLc6) (by kernel_rfl) (d := d) (H := [.arr 1 (d.map encO) true 0]) rfl (by omega) hdr he)
    have t1 := sq c1 t (c := sub [1, 1] B6)
    exact sq a1 (sq b1 t1 (c := sub [1] B6)) (c := B6)
  have fin : ∀ (E : Env) (H : Heap), RT polLc6 6 (sub [1, 1, 1, 0] B6) (env6 (.imm .arg 1 (R0.map encR)) (.int .i64 st) (.bool false) (.sl 0 0 d.length none d.length 1) (.sl 1 0 ([] : List Int).length none ([] : List Int).length 1) (.int .i64 0) (.int .i64 2) Ud Ud) [.arr 1 (d.map encO) true 0, bI []] .ret E H → E.get 4 = .bool true → ¬ (okD d ∧ 0 ≤ st ∧ st ≤ 100) →
      ∃ E H, RT polLc6 6 B6 (args0 [.imm .arg 1 (R0.map encR), .int .i64 st]) [] .ret E H ∧ E.get 4 = .bool true := fun E H t h4 hn =>
    ⟨_, _, up [] 0 2 _ _ (if_neg hn) (sqo t (c := sub [1, 1, 1] B6) (b := sub [1, 1, 1, 1] B6)), h4⟩
  by_cases c1 : okD d
  · have hd := c1.1
    by_cases c2 : st < 0
    · have k18 := q18z (pol' := polLc6) (by kernel_rfl) (d := d) (H := [.arr 1 (d.map encO) true 0, bI []]) rfl (by omega) hdr true (okB_true c1)
      exact fin _ _ (lcl_d_0 0 (R0.map encR) st d.length (d.map encO) 0 0 2 (([] : List Int).map encI) k18 c2 rfl rfl rfl) rfl (fun h => by omega)
    · by_cases c3 : 100 < st
      · have k18 := q18z (pol' := polLc6) (by kernel_rfl) (d := d) (H := [.arr 1 (d.map encO) true 0, bI []]) rfl (by omega) hdr true (okB_true c1)
        exact fin _ _ (lcl_d_4 0 (R0.map encR) st d.length (d.map encO) 0 0 2 (([] : List Int).map encI) k18 c2 c3 rfl rfl rfl) rfl (fun h => by omega)
      · have hs : 0 ≤ st ∧ st ≤ 100 := by omega
        have hln := climT_len d st.toNat
        have k32 := q32 (pol' := polLc6) (by kernel_rfl) (d := d) (H := [.arr 1 (d.map encO) true 0, bI (climT d st.toNat).1]) rfl c1 hs
        have up' := fun E H => up _ _ _ E H (if_pos ⟨c1, hs⟩)
        generalize climT d st.toNat = w at *
        have k18 := q18z (pol' := polLc6) (by kernel_rfl) (d := d) (H := [.arr 1 (d.map encO) true 0, bI w.1]) rfl (by omega) hdr true (okB_true c1)
        have d1 := lcl_d_8 0 (R0.map encR) st d.length (d.map encO) w.1.length w.2 0 (w.1.map encI) k18 c2 c3
        have e1 := lcl_e_0 0 (R0.map encR) st d.length (d.map encO) w.1.length w.2 0 (w.1.map encI) _ _ _ k32
        have f1 := lcl_f_0 0 (R0.map encR) st d.length (d.map encO) w.1.length w.2 0 (w.1.map encI) w.1.length w.2 (w.1.map encI) (q26z (pol' := polLc6) (by kernel_rfl) (o := w.1) (H := [.arr 1 (d.map encO) true 0, bI w.1, bI w.1]) rfl (by omega) rfl rfl) rfl rfl
        exact ⟨_, _, up' _ _ (sq (d1) (sq (e1) (f1) (c := sub [1, 1, 1, 1] B6)) (c := sub [1, 1, 1] B6)), rfl⟩
  · have k18 := q18z (pol' := polLc6) (by kernel_rfl) (d := d) (H := [.arr 1 (d.map encO) true 0, bI []]) rfl (by omega) hdr false (okB_false c1)
    exact fin _ _ (lcl_d_9 0 (R0.map encR) st d.length (d.map encO) 0 0 2 (([] : List Int).map encI) k18 rfl rfl rfl) rfl (fun h => c1 h.1)
end Go.Proofs.Ytlendaofkmhgmaa
end
section
namespace Go.HL
open Go.ChangeShapes Go.WideShapes Go.ChangeAt Go.RowKit Go.Deep
theorem okNil (w : World) (r : Nat) : okOf Ctx.nil w.heap.size false r := by
  refine ⟨fun hM => ?_, by simp⟩
  obtain ⟨b, y, h1, _, _⟩ := M_iff.1 hM
  simp [Ctx.nil] at h1
theorem cell_lt {w : World} {a : Addr} {v : Value} (h : w.cell? a = some v) : a.block < w.heap.size := by
  rcases Nat.lt_or_ge a.block w.heap.size with hl | hl
  · exact hl
  · have : w.heap[a.block]? = none := by simp [hl]
    simp [World.cell?, this] at h
end Go.HL
end
section
namespace Go.HL
open Go.ChangeShapes Go.WideShapes Go.ChangeAt Go.RowKit Go.Deep
theorem ints_cells {H : Type} {enc : TypeId × Value → H} {P : Program} {W : World} {base fuel : Nat} {sp : Nat → Bool} {held : Bool} {t q : TypeId} {cs : List Value} {x : DataW H × List MemPlace} (ht : P.underlying t = some (.slice q)) (hq : P.underlying q = some (.int .i64)) (cq : P.cellsOf q = 1)
    (hf : DataW.trod enc P W base sp held fuel t cs = some x) : ∃ (l : List Int) (v : Value), cs = [v] ∧ V W (okOf Ctx.nil W.heap.size) Ctx.nil (.imm .arg 1 (l.map encI)) v := by
  rcases open_slice ht hf with ⟨h0, _⟩ | ⟨a', len, cap, m, n, D, Pl, h0, hb, hl, hm, hmm, hx, hel⟩
  · exact ⟨[], _, h0, .imm .arg 1 [] none 0 (fun _ => .bool false) (by simp) (by simp) (by simp) (by simp) (by simp) (by simp)⟩
  · subst h0
    have hlm : len ≤ m := by rw [hmm]; split <;> omega
    have each : ∀ i, i < len → ∃ z : Int, W.cell? (a'.add i) = some (.int .i64 z) := by
      intro i hi
      obtain ⟨cs', h1, h2⟩ := hel i (by omega)
      rw [cq] at h1
      obtain ⟨_, hlen, hcell⟩ := World.cells?_some h1
      match cs', hlen with
      | [v0], _ =>
        obtain ⟨z0, e0, _, _⟩ := DataW.trod_int hq h2
        simp at e0
        subst e0
        have c0 := hcell 0 (by omega)
        rw [add_add] at c0
        exact ⟨z0, by simpa using c0⟩
    obtain ⟨f, hf⟩ := choose_lt each
    refine ⟨(List.range len).map f, _, rfl, ?_⟩
    have hlen : (((List.range len).map f).map encI).length = len := by simp
    have key := V.imm (w := W) (ok := okOf Ctx.nil W.heap.size) (c := Ctx.nil) .arg 1 (((List.range len).map f).map encI) (some a') cap (fun j => .int .i64 (f j))
      (by rw [hlen]; exact hl) (by simp) ?_ ?_ ?_ ?_
    · rw [hlen] at key; exact key
    · intro hne
      have h0 : 0 < len := by
        rcases Nat.eq_zero_or_pos len with h | h
        · subst h; simp at hne
        · exact h
      obtain ⟨b, off, spot⟩ := a'
      have hspot : spot = none := by simpa [Addr.add] using World.cell?_spot (hf 0 h0)
      subst hspot
      refine ⟨b, off, rfl, by simpa [Addr.add] using cell_lt (hf 0 h0), okNil W b, fun j hj => ?_⟩
      rw [hlen] at hj
      have c0 := hf j (by omega)
      rw [add_plain] at c0
      exact c0
    · intro v hv
      obtain ⟨p, _, rfl⟩ := List.mem_map.1 hv
      rfl
    · intro v hv
      obtain ⟨p, _, rfl⟩ := List.mem_map.1 hv
      rfl
    · intro i v j x hi hj
      have hil : i < len := by have := lt_of_get hi; rw [hlen] at this; exact this
      have : v = encI (f i) := by
        rw [List.getElem?_map, List.getElem?_map, List.getElem?_range hil] at hi
        simpa using hi.symm
      subst this
      have hjx : j < 1 := lt_of_get hj
      match j, hjx, hj with
      | 0, _, hj =>
        simp [encI, cellsOf] at hj
        subst hj
        have e1 : i * 1 + 0 = i := by omega
        rw [e1]
        exact V.int _ _
def encRH (r : List Int) : HV := .imm .arg 1 (r.map encI)
theorem rows_cells {H : Type} {enc : TypeId × Value → H} {P : Program} {W : World} {base fuel : Nat} {sp : Nat → Bool} {held : Bool} {s t q : TypeId} {cs : List Value} {x : DataW H × List MemPlace} (hs : P.underlying s = some (.slice t)) (ct : P.cellsOf t = 1) (ht : P.underlying t = some (.slice q)) (hq : P.underlying q = some (.int .i64)) (cq : P.cellsOf q = 1)
    (hf : DataW.trod enc P W base sp held fuel s cs = some x) : ∃ (R : List (List Int)) (v : Value), cs = [v] ∧ V W (okOf Ctx.nil W.heap.size) Ctx.nil (.imm .arg 1 (R.map encRH)) v := by
  rcases open_slice hs hf with ⟨h0, _⟩ | ⟨a', len, cap, m, n, D, Pl, h0, hb, hl, hm, hmm, hx, hel⟩
  · exact ⟨[], _, h0, .imm .arg 1 [] none 0 (fun _ => .bool false) (by simp) (by simp) (by simp) (by simp) (by simp) (by simp)⟩
  · subst h0
    have hlm : len ≤ m := by rw [hmm]; split <;> omega
    have each : ∀ i, i < len → ∃ p : List Int × Value, W.cell? (a'.add i) = some p.2 ∧ V W (okOf Ctx.nil W.heap.size) Ctx.nil (encRH p.1) p.2 := by
      intro i hi
      obtain ⟨cs', h1, h2⟩ := hel i (by omega)
      rw [ct, Nat.mul_one] at h1
      obtain ⟨_, hlen, hcell⟩ := World.cells?_some h1
      obtain ⟨l, v, rfl, hV⟩ := ints_cells ht hq cq h2
      have c0 := hcell 0 (by omega)
      rw [add_add] at c0
      exact ⟨(l, v), by simpa using c0, hV⟩
    obtain ⟨f, hf⟩ := choose_lt each
    refine ⟨(List.range len).map fun i => (f i).1, _, rfl, ?_⟩
    have hlen : (((List.range len).map fun i => (f i).1).map encRH).length = len := by simp
    have key := V.imm (w := W) (ok := okOf Ctx.nil W.heap.size) (c := Ctx.nil) .arg 1 (((List.range len).map fun i => (f i).1).map encRH) (some a') cap (fun j => (f j).2)
      (by rw [hlen]; exact hl) (by simp) ?_ ?_ ?_ ?_
    · rw [hlen] at key; exact key
    · intro hne
      have h0 : 0 < len := by
        rcases Nat.eq_zero_or_pos len with h | h
        · subst h; simp at hne
        · exact h
      obtain ⟨b, off, spot⟩ := a'
      have hspot : spot = none := by simpa [Addr.add] using World.cell?_spot (hf 0 h0).1
      subst hspot
      refine ⟨b, off, rfl, by simpa [Addr.add] using cell_lt (hf 0 h0).1, okNil W b, fun j hj => ?_⟩
      rw [hlen, Nat.mul_one] at hj
      have c0 := (hf j hj).1
      rw [add_plain] at c0
      exact c0
    · intro v hv
      obtain ⟨p, _, rfl⟩ := List.mem_map.1 hv
      rfl
    · intro v hv
      obtain ⟨p, _, rfl⟩ := List.mem_map.1 hv
      rfl
    · intro i v j x hi hj
      have hil : i < len := by have := lt_of_get hi; rw [hlen] at this; exact this
      have : v = encRH (f i).1 := by
        rw [List.getElem?_map, List.getElem?_map, List.getElem?_range hil] at hi
        simpa using hi.symm
      subst this
      have hjx : j < 1 := lt_of_get hj
      obtain rfl : j = 0 := by omega
      simp [encRH, cellsOf] at hj
      subst hj
      have e1 : i * 1 + 0 = i := by omega
      rw [e1]
      exact (hf i hil).2
theorem arg_rows_ok {H : Type} {enc : TypeId × Value → H} {P : Program} {W : World} {base : Nat} {s t q : TypeId} {v : Value} {d : DataW H} {ps : List MemPlace} (hs : P.underlying s = some (.slice t)) (ct : P.cellsOf t = 1) (ht : P.underlying t = some (.slice q)) (hq : P.underlying q = some (.int .i64)) (cq : P.cellsOf q = 1)
    (hval : Value.okWide P W .any base s v) (hd : DataW.Trod enc P W 0 (fun _ => true) true s v d ps) : ∃ R : List (List Int), V W (okOf Ctx.nil W.heap.size) Ctx.nil (.imm .arg 1 (R.map encRH)) v := by
  obtain ⟨a, len, cap, rfl⟩ := okWide_slice hs hval
  obtain ⟨fuel, hf⟩ := hd
  obtain ⟨R, v, hv, h⟩ := rows_cells hs ct ht hq cq hf
  simp [Value.cells] at hv
  subst hv
  exact ⟨R, h⟩
end Go.HL
end
