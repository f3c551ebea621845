/- A part of the proof. -/
import Derived.Test.YtmhfkhlamnapdaaP5C
set_option linter.unusedVariables false
set_option linter.unusedSimpArgs false
section
open Go Go.HL
namespace Go.Proofs.Ytmhfkhlamnapdaa
theorem res57 : Try.f57.results.toList = [.tmp 8] := by kernel_rfl
theorem info3b : (Try.prog.info? 3).map (fun i => (i.size, i.bytes, zeroFits i)) = some (1, 8, true) := by kernel_rfl
theorem appV_ints {H : Heap} {b : Nat} {o xs : List Int} (hb : H[b]? = some (bI o)) (hlen : o.length + xs.length ≤ 1000) (hx : xs ≠ []) :
    appV H 1 8 (.sl b 0 o.length none o.length 1) (xs.map encI) = some (.sl b 0 (o.length + xs.length) none (o.length + xs.length) 1, H.set b (bI (o ++ xs))) := by
  have hbl : ∀ l : List Int, bndL (l.map encI) = 0 := by
    intro l
    induction l with
    | nil => rfl
    | cons a l ih => simp only [List.map_cons, bndL, ih, encI, bnd]; rfl
  have hne : xs.map encI ≠ [] := by simpa using hx
  simp only [appV, if_neg hne, hb, List.length_map, hbl]
  rw [if_pos ⟨trivial, trivial, trivial, by rw [show roomMax = 70368744177664 from rfl]; omega⟩, if_pos ⟨trivial, trivial, trivial⟩]
  simp only [bI, List.map_append, Nat.max_zero]
theorem set_self' {H : Heap} {b : Nat} {B : Blk} (hb : H[b]? = some B) : H.set b B = H := by
  apply List.ext_getElem?
  intro k
  rw [List.getElem?_set]
  by_cases e : b = k
  · subst e; rw [if_pos rfl, if_pos (lt_of_get hb), hb]
  · rw [if_neg e]
theorem app_sq {H : Heap} {b : Nat} {x : HV} {o xs : List Int} (hb : H[b]? = some (bI o)) (hs : srcOf H x = some (xs.map encI, 1)) (hlen : o.length + xs.length ≤ 1000) :
    builtinV Try.prog .append [24, 24] [.sl b 0 o.length none o.length 1, x] H = some (.sl b 0 (o.length + xs.length) none (o.length + xs.length) 1, H.set b (bI (o ++ xs))) := by
  have hi := info3b
  cases hinf : Try.prog.info? 3 with
  | none => rw [hinf] at hi; cases hi
  | some inf =>
    rw [hinf] at hi
    simp only [Option.map, Option.some.injEq, Prod.mk.injEq] at hi
    obtain ⟨e1, e2, e3⟩ := hi
    simp only [builtinV, u24b, hinf, hs, e1, e2, e3]
    rw [if_pos ⟨.inl trivial, by omega, trivial⟩]
    by_cases hx : xs = []
    · subst hx
      simp only [List.map_nil, appV, if_true, List.length_nil, Nat.add_zero, List.append_nil, set_self' hb]
    · exact appV_ints hb hlen hx
theorem src_sl {H : Heap} {b off len tot : Nat} {o : List Int} (hb : H[b]? = some (bI o)) (ht : o.length = tot) (h : off + len ≤ tot) : srcOf H (.sl b off len none tot 1) = some (((o.drop off).take len).map encI, 1) := by
  simp only [srcOf]
  split
  · rename_i h0
    subst h0
    simp
  · simp only [view, hb, List.length_map, ht]
    rw [if_pos ⟨trivial, by omega, trivial⟩]
    simp [List.map_take, List.map_drop]
/-- The document's sort: each number behind those that are not smaller. -/
def dsIns (t : Int) : List Int → List Int
  | [] => [t]
  | a :: l => if t ≤ a then a :: dsIns t l else t :: a :: l
def dsAcc : List Int → List Int → List Int
  | acc, [] => acc
  | acc, t :: l => dsAcc (dsIns t acc) l
theorem dsIns_len (t : Int) : ∀ l : List Int, (dsIns t l).length = l.length + 1
  | [] => rfl
  | a :: l => by
    rw [dsIns]
    split
    · simp [dsIns_len t l]
    · rfl
theorem dsIns_at (t : Int) : ∀ (l : List Int) (p : Nat), p ≤ l.length → (∀ i, i < p → t ≤ l.getD i 0) → (p < l.length → ¬ t ≤ l.getD p 0) → dsIns t l = l.take p ++ [t] ++ l.drop p
  | [], p, h, _, _ => by simp [dsIns]
  | a :: l, 0, _, _, h => by
    have h := h (by simp)
    simp only [List.getD_cons_zero] at h
    rw [dsIns, if_neg h]; simp
  | a :: l, p + 1, h0, h1, h2 => by
    have ha := h1 0 (by omega)
    simp only [List.getD_cons_zero] at ha
    rw [dsIns, if_pos ha, dsIns_at t l p (by simpa using h0) (fun i hi => by simpa using h1 (i + 1) (by omega)) (fun hp => by simpa using h2 (by simpa using hp))]
    simp
def RT (n : Int) (l : List (Int × Int)) (T : Int → Int → Int) (x w : Int) : Prop :=
  ∀ H, CallsTo (P := Try.prog) (pol := polN) 57 [.int .i64 n, .imm .arg 2 (l.map encP), .int .i64 x, .int .i64 w] H (.int .i64 (T x w)) H
abbrev rtE (n : Int) (lc : List HV) (x w : Int) (r8 : Int) (v9 v10 v11 v12 v13 v14 v15 v16 : HV) : Env := env57 (.int .i64 n) (.imm .arg 2 lc) (.int .i64 x) (.int .i64 w) (.int .i64 r8) v9 v10 v11 v12 v13 v14 v15 v16
section
variable {n : Int} {lc : List HV} {x w : Int}
theorem rt_scan {tb nbk m i : Nat} {q : Int} {o : List Int} {H : Heap} (ho : H[tb]? = some (bI o)) (h1000 : o.length ≤ 1000) : ∀ d j, j + d = o.length → (∀ i, i < j → q ≤ o.getD i 0) →
    ∃ p : Nat, RunsTo Try.prog polN 57 (sub [1, 1, 1, 0, 1, 0, 0, 1, 0, 0, 1, 1, 1, 0, 0] B57) (rtE n lc x w 0 (.sl tb 0 o.length none o.length 1) (.sl nbk 0 m none m 1) (.int .i64 (i : Int)) (.int .i64 q) (.int .i64 (j : Int)) .undef .undef .undef) H
      (.exit 2) (polN.keys 57) (rtE n lc x w 0 (.sl tb 0 o.length none o.length 1) (.sl nbk 0 m none m 1) (.int .i64 (i : Int)) (.int .i64 q) (.int .i64 (p : Int)) .undef .undef .undef) H ∧ p ≤ o.length ∧ dsIns q o = o.take p ++ [q] ++ o.drop p := by
  intro d
  induction d with
  | zero =>
    intro j hj h
    have hj : j = o.length := by omega
    exact ⟨j, RunsTo.loop_out (rt_l_2 0 n lc x w H tb o.length nbk m i q j (by omega)) (by simp) (by kernel_rfl) (by kernel_rfl), by omega, dsIns_at q o j (by omega) h (fun hp => by omega)⟩
  | succ d ih =>
    intro j hj h
    by_cases c : q ≤ o.getD j 0
    · have s := rt_l_0 0 n lc x w H tb o.length nbk m i q j _ (by omega) (gi2 (by omega)) (gl2 ho rfl (by omega)) c
      rw [wrap_succ (by omega)] at s
      obtain ⟨p, r, h1, h2⟩ := ih (j + 1) (by omega) (fun i hi => by
        by_cases e : i = j
        · rw [e]; exact c
        · exact h i (by omega))
      exact ⟨p, RunsTo.loop s (by kernel_rfl) (gc_eq _ rfl) r rfl (by kernel_rfl) (by kernel_rfl), h1, h2⟩
    · have s := rt_l_1 0 n lc x w H tb o.length nbk m i q j _ (by omega) (gi2 (by omega)) (gl2 ho rfl (by omega)) c
      exact ⟨j, RunsTo.loop_out s (by simp) (by kernel_rfl) (by kernel_rfl), by omega, dsIns_at q o j (by omega) h (fun _ => c)⟩
end
section
variable {n : Int} {lc : List HV} {x w : Int}
theorem slV_hi {b m j : Nat} (h : j ≤ m) : sliceV Try.prog 24 (.sl b 0 m none m 1) none (some (.int .i64 (j : Int))) none = some (.sl b 0 j none m 1) := by
  have hb0 : boundV (some (.int .i64 (j : Int))) = some (some j) := by simp [boundV]
  have hbn : boundV none = some none := rfl
  simp only [sliceV, hb0, hbn, u24b, z3b, if_true, Option.getD, Option.map]
  rw [if_pos (by omega)]
  simp
end
section
variable {n : Int} {lc : List HV} {x w : Int}
theorem slV_lo {b m j : Nat} (h : j ≤ m) : sliceV Try.prog 24 (.sl b 0 m none m 1) (some (.int .i64 (j : Int))) none none = some (.sl b j (m - j) none m 1) := by
  have hb0 : boundV (some (.int .i64 (j : Int))) = some (some j) := by simp [boundV]
  have hbn : boundV none = some none := rfl
  simp only [sliceV, hb0, hbn, u24b, z3b, if_true, Option.getD, Option.map]
  rw [if_pos (by omega)]
  simp
end
section
variable {n : Int} {lc : List HV} {x w : Int}
theorem rt_ins {tb nbk m i p : Nat} {q : Int} {o : List Int} {H : Heap} (ho : H[tb]? = some (bI o)) (h100 : o.length ≤ 100) (hp : p ≤ o.length) (hd : dsIns q o = o.take p ++ [q] ++ o.drop p) :
    RunsTo Try.prog polN 57 (sub [1, 1, 1, 0, 1, 0, 0, 1, 0, 0, 1, 1, 1, 1] B57) (rtE n lc x w 0 (.sl tb 0 o.length none o.length 1) (.sl nbk 0 m none m 1) (.int .i64 (i : Int)) (.int .i64 q) (.int .i64 (p : Int)) .undef .undef .undef) H
      .normal (polN.keys 57) (rtE n lc x w 0 (.sl H.length 0 (o.length + 1) none (o.length + 1) 1) (.sl nbk 0 m none m 1) (.int .i64 (i : Int)) (.int .i64 q) (.int .i64 (p : Int)) (.sl H.length 0 (p + 1) none (p + 1) 1) .undef .undef) (H ++ [bI (dsIns q o)]) := by
  have htl := lt_of_get ho
  have hap : ∀ xs : List Int, (H ++ [bI xs])[tb]? = some (bI o) := fun xs => by rw [List.getElem?_append_left htl]; exact ho
  have hsl : ∀ xs : List Int, (H ++ [bI xs])[H.length]? = some (bI xs) := fun xs => by rw [List.getElem?_append_right (Nat.le_refl _)]; simp
  have hst : ∀ xs ys : List Int, (H ++ [bI xs]).set H.length (bI ys) = H ++ [bI ys] := fun xs ys => by rw [List.set_append_right _ _ (Nat.le_refl _)]; simp
  have g2 := app_sq (H := H ++ [bI []]) (b := H.length) (x := .sl tb 0 p none o.length 1) (o := []) (xs := o.take p) (hsl []) (by
    have := src_sl (H := H ++ [bI []]) (off := 0) (len := p) (hap []) rfl (by omega)
    rw [List.drop_zero] at this; exact this) (by simp; omega)
  have hl1 : (o.take p).length = p := by simp; omega
  rw [hst, List.nil_append, hl1, List.length_nil, Nat.zero_add] at g2
  have g3 := appV_ints (H := H ++ [bI (o.take p)]) (b := H.length) (o := o.take p) (xs := [q]) (hsl _) (by simp; omega) (by simp)
  rw [hst, hl1] at g3
  have hl2 : (o.take p ++ [q]).length = p + 1 := by simp; omega
  have g5 := app_sq (H := H ++ [bI (o.take p ++ [q])]) (b := H.length) (x := .sl tb p (o.length - p) none o.length 1) (o := o.take p ++ [q]) (xs := o.drop p) (hsl _) (by
    have := src_sl (H := H ++ [bI (o.take p ++ [q])]) (off := p) (len := o.length - p) (hap _) rfl (by omega)
    have e : (o.drop p).take (o.length - p) = o.drop p := List.take_of_length_le (by simp)
    rw [e] at this; exact this) (by simp; omega)
  have hl3 : p + 1 + (o.drop p).length = o.length + 1 := by simp; omega
  rw [hst, hl2, hl3, ← hd] at g5
  exact rt_m_0 0 n lc x w H tb o.length nbk m i q p H.length _ _ _ _ rfl (slV_hi hp) g2 g3 (slV_lo hp) g5
end
section
variable {n : Int} {l : List (Int × Int)} {T : Int → Int → Int} {x w : Int} {R : List Int}
theorem rt_loop (hm : R.length ≤ 50) (hT : ∀ u, u ∈ keep w R → RT n l T u x) : ∀ d i (o : List Int) (tb : Nat) (H : Heap), i + d = R.length → o.length ≤ i → H[1]? = some (bI R) → H[tb]? = some (bI o) →
    ∃ (tb' : Nat) (H' : Heap), RunsTo Try.prog polN 57 (sub [1, 1, 1, 0, 1, 0] B57) (rtE n (l.map encP) x w 0 (.sl tb 0 o.length none o.length 1) (.sl 1 0 R.length none R.length 1) (.int .i64 (i : Int)) .undef .undef .undef .undef .undef) H
      (.exit 0) (polN.keys 57) (rtE n (l.map encP) x w 0 (.sl tb' 0 (dsAcc o ((keep w (R.drop i)).map fun u => T u x)).length none (dsAcc o ((keep w (R.drop i)).map fun u => T u x)).length 1) (.sl 1 0 R.length none R.length 1) (.int .i64 (R.length : Int)) .undef .undef .undef .undef .undef) H' ∧
      H'[tb']? = some (bI (dsAcc o ((keep w (R.drop i)).map fun u => T u x))) ∧ (dsAcc o ((keep w (R.drop i)).map fun u => T u x)).length ≤ R.length := by
  intro d
  induction d with
  | zero =>
    intro i o tb H hi hoi h1 ho
    have hi : i = R.length := by omega
    subst hi
    rw [List.drop_length]
    exact ⟨tb, H, RunsTo.loop_out (RunsTo.seq_out (rt_e_1 0 n (l.map encP) x w H tb o.length 1 R.length R.length (by omega)) (by simp) (c := sub [1, 1, 1, 0, 1, 0, 0] B57) (b := sub [1, 1, 1, 0, 1, 0, 0, 1] B57) (by kernel_rfl)) (by simp) (by kernel_rfl) (by kernel_rfl), ho, hoi⟩
  | succ d ih =>
    intro i o tb H hi hoi h1 ho
    have hiR : i < R.length := by omega
    have hg : R[i] = R.getD i 0 := by simp [List.getD, List.getElem?_eq_getElem hiR]
    have e := rt_e_0 0 n (l.map encP) x w H tb o.length 1 R.length i (by omega)
    have hdr : R.drop i = R.getD i 0 :: R.drop (i + 1) := by rw [List.drop_eq_getElem_cons hiR, hg]
    by_cases c : R.getD i 0 = w
    · have f := rt_f_0 0 n (l.map encP) x w H tb o.length 1 R.length i _ (gi2 (by omega)) (gl2 h1 rfl (by omega)) c
      have nn := rt_n_0 0 n (l.map encP) x w H tb o.length 1 R.length i .undef .undef .undef
      rw [wrap_succ (by omega)] at nn
      have hk : keep w (R.drop i) = keep w (R.drop (i + 1)) := by rw [hdr]; simp only [keep, List.filter_cons, decide_eq_true c, Bool.not_true, Bool.false_eq_true, if_false]
      obtain ⟨tb', H', r, h2, h3⟩ := ih (i + 1) o tb H (by omega) (by omega) h1 ho
      rw [hk]
      have t1 := RunsTo.seq_out f (by simp) (c := sub [1, 1, 1, 0, 1, 0, 0, 1, 0, 0] B57) (b := sub [1, 1, 1, 0, 1, 0, 0, 1, 0, 0, 1] B57) (by kernel_rfl)
      have t2 := RunsTo.seq (RunsTo.block_exit (c := sub [1, 1, 1, 0, 1, 0, 0, 1, 0] B57) t1 (by kernel_rfl)) nn (c := sub [1, 1, 1, 0, 1, 0, 0, 1] B57) (by kernel_rfl) (by kernel_rfl)
      have t3 := RunsTo.seq e t2 (c := sub [1, 1, 1, 0, 1, 0, 0] B57) (by kernel_rfl) (by kernel_rfl)
      exact ⟨tb', H', RunsTo.loop t3 (by kernel_rfl) (gc_eq _ rfl) r rfl (by kernel_rfl) (by kernel_rfl), h2, h3⟩
    · have hmem : R.getD i 0 ∈ keep w R := by
        rw [keep, List.mem_filter]
        exact ⟨by rw [← hg]; exact List.getElem_mem hiR, by simp only [decide_eq_false c, Bool.not_false]⟩
      obtain ⟨N, hN⟩ := hT _ hmem H
      have f := rt_f_1 0 n (l.map encP) x w H tb o.length 1 R.length i _ (gi2 (by omega)) (gl2 h1 rfl (by omega)) c
      have g := rt_g_0 N n (l.map encP) x w H tb o.length 1 R.length i _ _ H (gi2 (by omega)) (gl2 h1 rfl (by omega)) (fun kf hk => hN (kf + 1) (by omega))
      have hh := rt_h_0 0 n (l.map encP) x w H tb o.length 1 R.length i (T (R.getD i 0) x)
      obtain ⟨p, rs, hp, hd⟩ := rt_scan (n := n) (lc := l.map encP) (x := x) (w := w) (nbk := 1) (m := R.length) (i := i) (q := T (R.getD i 0) x) ho (by omega) o.length 0 (by omega) (fun i hi => by omega)
      have ri := rt_ins (n := n) (lc := l.map encP) (x := x) (w := w) (nbk := 1) (m := R.length) (i := i) ho (by omega) hp hd
      have nn := rt_n_0 0 n (l.map encP) x w (H ++ [bI (dsIns (T (R.getD i 0) x) o)]) H.length (o.length + 1) 1 R.length i (.int .i64 (T (R.getD i 0) x)) (.int .i64 (p : Int)) (.sl H.length 0 (p + 1) none (p + 1) 1)
      rw [wrap_succ (by omega)] at nn
      have hk : (keep w (R.drop i)).map (fun u => T u x) = T (R.getD i 0) x :: (keep w (R.drop (i + 1))).map (fun u => T u x) := by
        rw [hdr]; simp only [keep, List.filter_cons, decide_eq_false c, Bool.not_false, if_true, List.map_cons]
      obtain ⟨tb', H', r, h2, h3⟩ := ih (i + 1) (dsIns (T (R.getD i 0) x) o) H.length (H ++ [bI (dsIns (T (R.getD i 0) x) o)]) (by omega) (by rw [dsIns_len]; omega) (by rw [List.getElem?_append_left (lt_of_get h1)]; exact h1) (by rw [List.getElem?_append_right (Nat.le_refl _)]; simp)
      rw [hk, dsAcc]
      rw [dsIns_len] at r
      have t0 := RunsTo.seq (RunsTo.block_exit (c := sub [1, 1, 1, 0, 1, 0, 0, 1, 0, 0, 1, 1, 1, 0] B57) rs (by kernel_rfl)) ri (c := sub [1, 1, 1, 0, 1, 0, 0, 1, 0, 0, 1, 1, 1] B57) (by kernel_rfl) (by kernel_rfl)
      have t1 := RunsTo.seq hh t0 (c := sub [1, 1, 1, 0, 1, 0, 0, 1, 0, 0, 1, 1] B57) (by kernel_rfl) (by kernel_rfl)
      have t2 := RunsTo.seq g t1 (c := sub [1, 1, 1, 0, 1, 0, 0, 1, 0, 0, 1] B57) (by kernel_rfl) (by kernel_rfl)
      have t3 := RunsTo.seq f t2 (c := sub [1, 1, 1, 0, 1, 0, 0, 1, 0, 0] B57) (by kernel_rfl) (by kernel_rfl)
      have t4 := RunsTo.seq (RunsTo.block_normal (i := 1) (c := sub [1, 1, 1, 0, 1, 0, 0, 1, 0] B57) t3 (by kernel_rfl)) nn (c := sub [1, 1, 1, 0, 1, 0, 0, 1] B57) (by kernel_rfl) (by kernel_rfl)
      have t5 := RunsTo.seq e t4 (c := sub [1, 1, 1, 0, 1, 0, 0] B57) (by kernel_rfl) (by kernel_rfl)
      exact ⟨tb', H', RunsTo.loop t5 (by kernel_rfl) (gc_all (by simp only [bndE, bnd, bndL, List.length_append, List.length_singleton]; omega)) r rfl (by kernel_rfl) (by kernel_rfl), h2, h3⟩
end
section
variable {n : Int} {l : List (Int × Int)} {T : Int → Int → Int} {x w : Int} {R : List Int}
theorem rt_best {o : List Int} {tb : Nat} {H : Heap} {lc : List HV} (ho : H[tb]? = some (bI o)) (hB : ∀ t, t ∈ o → 0 ≤ t ∧ t ≤ 100000) (hm : o.length ≤ 100) : ∀ d i bx, i + d = o.length →
    RunsTo Try.prog polN 57 (sub [1, 1, 1, 1, 1, 0, 1, 0] B57) (rtE n lc x w 0 (.sl tb 0 o.length none o.length 1) .undef .undef .undef .undef .undef (.int .i64 bx) (.int .i64 (i : Int))) H
      (.exit 4) (polN.keys 57) (rtE n lc x w 0 (.sl tb 0 o.length none o.length 1) .undef .undef .undef .undef .undef (.int .i64 (bestGo i bx (o.drop i))) (.int .i64 (o.length : Int))) H := by
  intro d
  induction d with
  | zero =>
    intro i bx hi
    have hi : i = o.length := by omega
    subst hi
    rw [List.drop_length]
    exact RunsTo.loop_out (rt_q_1 0 n lc x w H tb o.length o.length bx (by omega)) (by simp) (by kernel_rfl) (by kernel_rfl)
  | succ d ih =>
    intro i bx hi
    have hio : i < o.length := by omega
    have hg : o[i] = o.getD i 0 := by simp [List.getD, List.getElem?_eq_getElem hio]
    have hb := hB (o.getD i 0) (by rw [← hg]; exact List.getElem_mem hio)
    have s := rt_q_0 0 n lc x w H tb o.length i bx _ (by omega) (gi2 hio) (gl2 ho rfl hio)
    have w1 : IntKind.i64.wrap (((i : Nat) : Int) + 1) = (i : Int) + 1 := by rw [wrapI64]; omega
    have w2 : IntKind.i64.wrap ((i : Int) + 1 + o.getD i 0) = (i : Int) + 1 + o.getD i 0 := by rw [wrapI64]; omega
    rw [w1, w2] at s
    have r := ih (i + 1) (max bx ((i : Int) + 1 + o.getD i 0)) (by omega)
    rw [List.drop_eq_getElem_cons hio, bestGo, hg]
    exact RunsTo.loop s (by kernel_rfl) (gc_eq _ rfl) r rfl (by kernel_rfl) (by kernel_rfl)
end
section
variable {n : Int} {l : List (Int × Int)} {T : Int → Int → Int} {x w : Int} {R : List Int}
theorem dsIns_mem {t u : Int} : ∀ {l : List Int}, u ∈ dsIns t l ↔ u = t ∨ u ∈ l
  | [] => by simp [dsIns]
  | a :: l => by
    rw [dsIns]
    split
    · simp only [List.mem_cons, dsIns_mem (l := l)]
      exact ⟨fun h => by rcases h with h | h | h <;> simp [h], fun h => by rcases h with h | h | h <;> simp [h]⟩
    · simp
end
section
variable {n : Int} {l : List (Int × Int)} {T : Int → Int → Int} {x w : Int} {R : List Int}
theorem dsAcc_mem {u : Int} : ∀ {l acc : List Int}, u ∈ dsAcc acc l ↔ u ∈ acc ∨ u ∈ l
  | [], acc => by simp [dsAcc]
  | t :: l, acc => by
    rw [dsAcc, dsAcc_mem (l := l), dsIns_mem]
    simp only [List.mem_cons]
    exact ⟨fun h => by rcases h with (h | h) | h <;> simp [h], fun h => by rcases h with h | h | h <;> simp [h]⟩
end
section
variable {n : Int} {l : List (Int × Int)} {T : Int → Int → Int} {x w : Int} {R : List Int}
def dsort (l : List Int) : List Int := dsAcc [] l
end
section
variable {n : Int} {l : List (Int × Int)} {T : Int → Int → Int} {x w : Int} {R : List Int}
/-- One step of the document's time. -/
theorem rt_step (hn : (0 ≤ n ∧ n ≤ 1000) ∧ l.length ≤ 1000) (hv : (l.all fun p => decide ((0 ≤ p.1 ∧ p.1 < n) ∧ (0 ≤ p.2 ∧ p.2 < n))) = true) (hR : nbrs n.toNat l x = R) (hm : R.length ≤ 50) (hT : ∀ u, u ∈ keep w R → RT n l T u x) (hB : ∀ u, u ∈ keep w R → 0 ≤ T u x ∧ T u x ≤ 100000)
    (hrec : T x w = bestGo 0 0 (dsort ((keep w R).map fun u => T u x))) : RT n l T x w := by
  intro H
  have a := rt_a_0 0 n (l.map encP) x w []
  have b := rt_b_0 0 n (l.map encP) x w [] 0 [bI []] rfl
  have c51 : ∀ kf, callN Try.prog polN (kf + 1) 51 [.int .i64 n, .imm .arg 2 (l.map encP), .int .i64 x] [bI []] = some (.sl 1 0 R.length none R.length 1, [bI [], bI R]) := fun kf => by
    rw [prim_call (pol := polN) (g := 51) (F := nbrs51) (by kernel_rfl) (rs := [.int .i64 n, .imm .arg 2 (l.map encP), .int .i64 x]) (by
      have ha : toArg [bI []] 6 (.imm .arg 2 (l.map encP)) = some (.imm .arg 2 (l.map encP)) := by
        show argP (.imm .arg 2 (l.map encP)) = _
        simp only [argP, argP_pairs]
      simp only [mapO, ha]; rfl) (res := .own 1 (R.map encI)) (by
      simp only [nbrs51, mapO_map decP_enc]
      rw [if_pos ⟨hn, hv⟩, hR]), recv_ints]
    rfl
  have c := rt_c_0 0 n (l.map encP) x w [bI []] 0 1 R.length [bI [], bI R] c51
  have d := rt_d_0 0 n (l.map encP) x w [bI [], bI R] 0 0 1 R.length
  obtain ⟨tb, H', r, ho, hlen⟩ := rt_loop (n := n) (l := l) (T := T) (x := x) (w := w) hm hT R.length 0 [] 0 [bI [], bI R] (by omega) (by simp) rfl rfl
  rw [List.drop_zero] at r ho hlen
  have hE : dsAcc [] ((keep w R).map fun u => T u x) = dsort ((keep w R).map fun u => T u x) := rfl
  rw [hE] at r ho hlen
  have hB2 : ∀ t, t ∈ dsort ((keep w R).map fun u => T u x) → 0 ≤ t ∧ t ≤ 100000 := by
    intro t ht
    rw [dsort, dsAcc_mem] at ht
    rcases ht with ht | ht
    · cases ht
    · obtain ⟨u, hu, rfl⟩ := List.mem_map.1 ht
      exact hB u hu
  generalize dsort ((keep w R).map fun u => T u x) = o at r ho hlen hB2 hrec
  have e := rt_o_0 0 n (l.map encP) x w H' tb o.length 1 R.length (.int .i64 (R.length : Int))
  have f := rt_p_0 0 n (l.map encP) x w H' tb o.length 1 R.length (.int .i64 (R.length : Int)) 0
  have g := rt_best (n := n) (lc := l.map encP) (x := x) (w := w) ho hB2 (by omega) o.length 0 0 (by omega)
  rw [List.drop_zero, ← hrec] at g
  have z := rt_z_0 0 n (l.map encP) x w H' tb o.length o.length (T x w)
  have g' := RunsTo.loop_in (e0 := rtE n (l.map encP) x w 0 (.sl tb 0 o.length none o.length 1) (.sl 1 0 R.length none R.length 1) (.int .i64 (R.length : Int)) .undef .undef .undef (.int .i64 0) (.int .i64 0)) g (b := sub [1, 1, 1, 1, 1, 0, 1, 0, 0] B57) (by kernel_rfl) (by kernel_rfl) (by kernel_rfl)
  have t1 := RunsTo.seq f (RunsTo.block_exit (c := sub [1, 1, 1, 1, 1, 0, 1] B57) g' (by kernel_rfl)) (c := sub [1, 1, 1, 1, 1, 0] B57) (by kernel_rfl) (by kernel_rfl)
  have t2 := RunsTo.seq e (RunsTo.seq t1 z (c := sub [1, 1, 1, 1, 1] B57) (by kernel_rfl) (by kernel_rfl)) (c := sub [1, 1, 1, 1] B57) (by kernel_rfl) (by kernel_rfl)
  have t3 := RunsTo.seq d (RunsTo.block_exit (c := sub [1, 1, 1, 0, 1] B57) r (by kernel_rfl)) (c := sub [1, 1, 1, 0] B57) (by kernel_rfl) (by kernel_rfl)
  have t4 := RunsTo.seq c (RunsTo.seq t3 t2 (c := sub [1, 1, 1] B57) (by kernel_rfl) (by kernel_rfl)) (c := sub [1, 1] B57) (by kernel_rfl) (by kernel_rfl)
  have t5 := RunsTo.seq a (RunsTo.seq b t4 (c := sub [1] B57) (by kernel_rfl) (by kernel_rfl)) (c := B57) (by kernel_rfl) (by kernel_rfl)
  exact CallsTo.pure (P := Try.prog) (pol := polN) (g := 57) (fn := Try.f57) (cd := B57) (rs := [.int .i64 n, .imm .arg 2 (l.map encP), .int .i64 x, .int .i64 w]) (v := .int .i64 (T x w)) (r := .int .i64 (T x w)) (by kernel_rfl) (by kernel_rfl) (by kernel_rfl) (by kernel_rfl) (by kernel_rfl) (by
      have ha : toArg H 6 (.imm .arg 2 (l.map encP)) = some (.imm .arg 2 (l.map encP)) := by
        show argP (.imm .arg 2 (l.map encP)) = _
        simp only [argP, argP_pairs]
      simp only [mapO, ha]; rfl) t5 (by kernel_rfl) (by simp) (by simp only [resultsV, res57, mapO, resultV]; rfl) rfl
end
end Go.Proofs.Ytmhfkhlamnapdaa
end
section
open Go Go.HL
namespace Go.Proofs.Ytmhfkhlamnapdaa
def tmF (row : Int → List Int) : Nat → Int → Int → Int
  | 0, _, _ => 0
  | k + 1, v, w => bestGo 0 0 (dsort ((keep w (row v)).map fun u => tmF row k u v))
def Fl (l : List Int) : Prop := l.Pairwise fun a b => b ≤ a
theorem dsIns_perm (t : Int) : ∀ l : List Int, (dsIns t l).Perm (t :: l)
  | [] => .refl _
  | a :: l => by
    rw [dsIns]
    split
    · exact ((dsIns_perm t l).cons a).trans (.swap _ _ _)
    · exact .refl _
theorem dsIns_fl (t : Int) : ∀ {l : List Int}, Fl l → Fl (dsIns t l)
  | [], _ => by simp [dsIns, Fl]
  | a :: l, h => by
    rw [dsIns]
    obtain ⟨h1, h2⟩ := List.pairwise_cons.1 h
    split
    · rename_i hta
      refine List.pairwise_cons.2 ⟨fun b hb => ?_, dsIns_fl t h2⟩
      rcases dsIns_mem.1 hb with rfl | hb
      · exact hta
      · exact h1 b hb
    · rename_i hta
      refine List.pairwise_cons.2 ⟨fun b hb => ?_, h⟩
      rcases List.mem_cons.1 hb with rfl | hb
      · omega
      · have := h1 b hb; omega
theorem dsAcc_ok : ∀ (l acc : List Int), Fl acc → (dsAcc acc l).Perm (acc ++ l) ∧ Fl (dsAcc acc l)
  | [], acc, h => by simp [dsAcc, h]
  | t :: l, acc, h => by
    rw [dsAcc]
    obtain ⟨h1, h2⟩ := dsAcc_ok l (dsIns t acc) (dsIns_fl t h)
    refine ⟨h1.trans (((dsIns_perm t acc).append_right l).trans ?_), h2⟩
    exact (List.perm_middle (a := t) (l₁ := acc) (l₂ := l)).symm
theorem dsort_perm (l : List Int) : (dsort l).Perm l := (dsAcc_ok l [] List.Pairwise.nil).1
theorem dsort_fl (l : List Int) : Fl (dsort l) := (dsAcc_ok l [] List.Pairwise.nil).2
theorem fl_eq {l l' : List Int} (h : Fl l) (h' : Fl l') (hp : l.Perm l') : l = l' :=
  List.Perm.eq_of_pairwise (le := fun a b => b ≤ a) (fun a b _ _ h1 h2 => by omega) h h' hp
theorem dsort_eq {l l' : List Int} (hp : l.Perm l') : dsort l = dsort l' := fl_eq (dsort_fl l) (dsort_fl l') (((dsort_perm l).trans hp).trans (dsort_perm l').symm)
theorem fl_dsort {l l' : List Int} (h : Fl l) (hp : l.Perm l') : l = dsort l' := fl_eq h (dsort_fl l') (hp.trans (dsort_perm l').symm)
theorem stable_dsort (f : Int → Int) (l : List Int) : (stable f l.length l).map f = dsort (l.map f) := by
  obtain ⟨h1, h2⟩ := stable_ok f (n := l.length) (l := l) rfl
  refine fl_dsort ?_ (h1.map f)
  unfold Fl
  rw [List.pairwise_iff_getElem]
  intro i j hi hj hij
  have hl := stable_len f l.length l
  rw [List.length_map] at hi hj
  have := h2 i j (Nat.zero_le _) hij (by omega)
  simpa [List.getD, List.getElem?_eq_getElem hi, List.getElem?_eq_getElem hj] using this
theorem bestGo_bd {B : Int} : ∀ (l : List Int) (i : Nat) (mo : Int), (∀ t, t ∈ l → 0 ≤ t ∧ t ≤ B) → 0 ≤ mo → mo ≤ bestGo i mo l ∧ bestGo i mo l ≤ max mo ((i : Int) + l.length + B)
  | [], i, mo, _, h0 => by rw [bestGo]; omega
  | t :: l, i, mo, h, h0 => by
    have ht := h t (by simp)
    have := bestGo_bd (B := B) l (i + 1) (max mo ((i : Int) + 1 + t)) (fun t ht => h t (by simp [ht])) (by omega)
    rw [bestGo]
    simp only [List.length_cons]
    omega
theorem keep_len (w : Int) (l : List Int) : (keep w l).length ≤ l.length := List.length_filter_le _ _
theorem tmF_bd {row : Int → List Int} {M : Nat} (hr : ∀ v, (row v).length ≤ M) : ∀ (k : Nat) (v w : Int), 0 ≤ tmF row k v w ∧ tmF row k v w ≤ (M * k : Nat)
  | 0, v, w => by simp [tmF]
  | k + 1, v, w => by
    rw [tmF]
    have := bestGo_bd (B := ((M * k : Nat) : Int)) (dsort ((keep w (row v)).map fun u => tmF row k u v)) 0 0 (fun t ht => by
      rw [(dsort_perm _).mem_iff, List.mem_map] at ht
      obtain ⟨u, _, rfl⟩ := ht
      exact tmF_bd hr k u v) (by omega)
    have hl : (dsort ((keep w (row v)).map fun u => tmF row k u v)).length ≤ M := by
      rw [(dsort_perm _).length_eq, List.length_map]
      have := keep_len w (row v); have := hr v; omega
    rw [Nat.mul_add]
    omega
/-- What makes the calls end. -/
structure Msr (row : Int → List Int) (G : Int → Int → Prop) (μ : Int → Int → Nat) : Prop where
  step : ∀ v w, G v w → ∀ u, u ∈ keep w (row v) → G u v ∧ μ u v < μ v w
theorem tmF_fuel {row : Int → List Int} {G : Int → Int → Prop} {μ : Int → Int → Nat} (hM : Msr row G μ) : ∀ (k : Nat) (v w : Int), G v w → μ v w < k → tmF row k v w = tmF row (k + 1) v w
  | 0, _, _, _, h => by omega
  | k + 1, v, w, hG, h => by
    rw [tmF, tmF]
    congr 2
    refine List.map_congr_left fun u hu => ?_
    obtain ⟨h1, h2⟩ := hM.step v w hG u hu
    exact tmF_fuel hM k u v h1 (by omega)
def tm (row : Int → List Int) (v w : Int) : Int := tmF row 200 v w
theorem tm_rec {row : Int → List Int} {G : Int → Int → Prop} {μ : Int → Int → Nat} (hM : Msr row G μ) {v w : Int} (hG : G v w) (h : μ v w ≤ 150) : tm row v w = bestGo 0 0 (dsort ((keep w (row v)).map fun u => tm row u v)) := by
  have e : tm row v w = bestGo 0 0 (dsort ((keep w (row v)).map fun u => tmF row 199 u v)) := rfl
  have e2 : ((keep w (row v)).map fun u => tmF row 199 u v) = (keep w (row v)).map fun u => tm row u v := List.map_congr_left fun u hu => by
    obtain ⟨h1, h2⟩ := hM.step v w hG u hu
    exact tmF_fuel hM 199 u v h1 (by omega)
  rw [e, e2]
theorem tm_bd {row : Int → List Int} (hr : ∀ v, (row v).length ≤ 39) (v w : Int) : 0 ≤ tm row v w ∧ tm row v w ≤ 100000 := by
  have := tmF_bd hr 200 v w
  unfold tm
  omega
/-- The program's time, the document's time: one and the same function. -/
theorem timeOk_all {adj : List (List Nat)} {row : Int → List Int} {G : Int → Int → Prop} {μ : Int → Int → Nat} (hM : Msr row G μ) (hrow : ∀ v, (row v).length ≤ 39)
    (hA : ∀ v w, G v w → ∃ (a : Nat) (r : List Nat), v = (a : Int) ∧ adj[a]? = some r ∧ rowI r = row v) : ∀ (k : Nat) (v w : Int), G v w → μ v w < k → k ≤ 150 → TimeOk adj (tm row) adj.length v w
  | 0, _, _, _, h, _ => by omega
  | k + 1, v, w, hG, h, hk => by
    obtain ⟨a, r, rfl, h1, h2⟩ := hA v w hG
    have hl : r.length ≤ 39 := by have := hrow a; rw [← h2] at this; simpa [rowI] using this
    refine time_step (r := r) rfl h1 hl (fun u hu => ?_) (fun u _ => tm_bd hrow u a) ?_
    · rw [h2] at hu
      obtain ⟨h3, h4⟩ := hM.step _ _ hG u hu
      exact timeOk_all hM hrow hA k u a h3 (by omega) (by omega)
    · rw [stable_dsort, h2]
      exact tm_rec hM hG (by omega)
theorem rt_all {n : Int} {l : List (Int × Int)} {G : Int → Int → Prop} {μ : Int → Int → Nat} (hn : (0 ≤ n ∧ n ≤ 1000) ∧ l.length ≤ 1000) (hv : (l.all fun p => decide ((0 ≤ p.1 ∧ p.1 < n) ∧ (0 ≤ p.2 ∧ p.2 < n))) = true)
    (hM : Msr (nbrs n.toNat l) G μ) (hrow : ∀ v, (nbrs n.toNat l v).length ≤ 39) : ∀ (k : Nat) (v w : Int), G v w → μ v w < k → k ≤ 150 → RT n l (tm (nbrs n.toNat l)) v w
  | 0, _, _, _, h, _ => by omega
  | k + 1, v, w, hG, h, hk => by
    refine rt_step (R := nbrs n.toNat l v) hn hv rfl (by have := hrow v; omega) (fun u hu => ?_) (fun u _ => tm_bd hrow u v) (tm_rec hM hG (by omega))
    obtain ⟨h3, h4⟩ := hM.step _ _ hG u hu
    exact rt_all hn hv hM hrow k u v h3 (by omega) (by omega)
end Go.Proofs.Ytmhfkhlamnapdaa
end
section
open Go Go.HL
namespace Go.Proofs.Ytmhfkhlamnapdaa
structure MB (m : Nat) (K : List Bool) (s : List Int) : Prop where
  len : K.length = m
  eq : ∀ y, y < m → (bitAt K y = true ↔ (y : Int) ∈ s)
theorem ins_mem {x y : Int} {s : List Int} : y ∈ ins x s ↔ y = x ∨ y ∈ s := by
  unfold ins
  split
  · rename_i h
    constructor
    · exact .inr
    · rintro (rfl | h2)
      · exact h
      · exact h2
  · simp [or_comm]
theorem MB.set {m : Nat} {K : List Bool} {s : List Int} (h : MB m K s) {y : Nat} (hy : y < m) : MB m (K.set y true) (ins (y : Int) s) := by
  refine ⟨by simp [h.len], fun z hz => ?_⟩
  rw [bitAt_set _ _ _ _ (by rw [h.len]; exact hy), ins_mem]
  by_cases e : y = z
  · subst e; simp
  · rw [if_neg e, h.eq z hz]
    constructor
    · exact .inr
    · rintro (h1 | h1)
      · omega
      · exact h1
theorem MB.init (m : Nat) : MB m (List.replicate m false) [] := by
  refine ⟨by simp, fun y hy => ?_⟩
  have : bitAt (List.replicate m false) y = false := by
    unfold bitAt
    rw [List.getElem?_replicate]
    split <;> rfl
  rw [this]; simp
end Go.Proofs.Ytmhfkhlamnapdaa
end
section
open Go Go.HL
namespace Go.Proofs.Ytmhfkhlamnapdaa
structure KI (m : Nat) (kn : List Int) : Prop where
  nodup : kn.Nodup
  lt : ∀ v ∈ kn, 0 ≤ v ∧ v < (m : Int)
theorem KI.len {m : Nat} {kn : List Int} (h : KI m kn) : kn.length ≤ m := by
  have := nodup_lt_len (n := m) (l := kn.map Int.toNat) (by
    have : ∀ (l : List Int), l.Nodup → (∀ v ∈ l, 0 ≤ v) → (l.map Int.toNat).Nodup := by
      intro l
      induction l with
      | nil => simp
      | cons a l ih =>
        intro hn hp
        rw [List.nodup_cons] at hn
        rw [List.map_cons, List.nodup_cons]
        refine ⟨fun hm => ?_, ih hn.2 (fun v hv => hp v (by simp [hv]))⟩
        obtain ⟨b, hb, e⟩ := List.mem_map.1 hm
        have h1 := hp a (by simp)
        have h2 := hp b (by simp [hb])
        have : b = a := by omega
        exact hn.1 (by rw [← this]; exact hb)
    exact this kn h.nodup (fun v hv => (h.lt v hv).1)) (fun y hy => by
      obtain ⟨v, hv, rfl⟩ := List.mem_map.1 hy
      have := h.lt v hv
      omega)
  rw [List.length_map] at this
  exact this
theorem KI.ins {m : Nat} {kn : List Int} (h : KI m kn) {v : Int} (hv : 0 ≤ v ∧ v < (m : Int)) : KI m (ins v kn) := by
  unfold Proofs.Ytmhfkhlamnapdaa.ins
  split
  · exact h
  · rename_i hn
    refine ⟨?_, fun w hw => ?_⟩
    · rw [List.nodup_append]
      refine ⟨h.nodup, by simp, fun a ha b hb => ?_⟩
      rw [List.mem_singleton] at hb
      rw [hb]; exact fun e => hn (by rw [← e]; exact ha)
    · rcases List.mem_append.1 hw with hw | hw
      · exact h.lt w hw
      · rw [List.mem_singleton] at hw; rw [hw]; exact hv
end Go.Proofs.Ytmhfkhlamnapdaa
end
section
open Go Go.HL
namespace Go.Proofs.Ytmhfkhlamnapdaa
theorem bIn_all (c : Int) {n k : Nat} (hc : 0 ≤ c ∧ c + 1 ≤ k) : ∀ (l : List Nat) (s : List Int × List Nat), (∀ y ∈ l, y < n) → BInv n k s → ∀ z ∈ l, z ∈ (bIn c l s).2
  | [], _, _, _, z, hz => by cases hz
  | y :: l, s, hl, h, z, hz => by
    rw [bIn]
    have hy := hl y (by simp)
    have h' := h.step hc hy
    rcases List.mem_cons.1 hz with rfl | hz
    · obtain ⟨t, ht⟩ := bIn_pre c l (if s.1.getD z 0 < 0 then (s.1.set z (c + 1), s.2 ++ [z]) else s)
      rw [ht]
      apply List.mem_append_left
      by_cases hlt : s.1.getD z 0 < 0
      · rw [if_pos hlt]; simp
      · rw [if_neg hlt]; exact (h.got z hy).1 (by omega)
    · exact bIn_all c hc l _ (fun w hw => hl w (by simp [hw])) h' z hz
theorem bGo_closed (nb : Nat → List Nat) (n : Nat) (hnb : ∀ x, x < n → ∀ z ∈ nb x, z < n) : ∀ (d i : Nat) (s : List Int × List Nat), i + d = n → BInv n i s → i ≤ s.2.length → (∀ k x, k < i → s.2[k]? = some x → ∀ z ∈ nb x, z ∈ s.2) →
    BInv n n (bGo nb d i s) ∧ (∀ y ∈ s.2, y ∈ (bGo nb d i s).2) ∧ ∀ x ∈ (bGo nb d i s).2, ∀ z ∈ nb x, z ∈ (bGo nb d i s).2 := by
  intro d
  induction d with
  | zero =>
    intro i s hi hinv hle hcl
    rw [bGo]
    refine ⟨hinv.mono (by omega), fun y hy => hy, fun x hx z hz => ?_⟩
    obtain ⟨k, hk, rfl⟩ := List.getElem_of_mem hx
    have := hinv.qlen
    exact hcl k _ (by omega) (List.getElem?_eq_getElem hk) z hz
  | succ d ih =>
    intro i s hi hinv hle hcl
    rw [bGo]
    cases hw : s.2[i]? with
    | none =>
      have hge := List.getElem?_eq_none_iff.1 hw
      dsimp only
      refine ⟨hinv.mono (by omega), fun y hy => hy, fun x hx z hz => ?_⟩
      obtain ⟨k, hk, rfl⟩ := List.getElem_of_mem hx
      exact hcl k _ (by omega) (List.getElem?_eq_getElem hk) z hz
    | some w =>
      dsimp only
      have hil := lt_of_get hw
      have hwn : w < n := hinv.lt _ (List.mem_of_getElem? hw)
      have hc0 := (hinv.got w hwn).2 (List.mem_of_getElem? hw)
      have hci := hinv.le w hwn
      have hc : 0 ≤ s.1.getD w 0 ∧ s.1.getD w 0 + 1 ≤ ((i + 1 : Nat) : Int) := ⟨hc0, by omega⟩
      have hinv' := BInv.inn hc (nb w) s (hnb w hwn) (hinv.mono (by omega))
      obtain ⟨t, ht⟩ := bIn_pre (s.1.getD w 0) (nb w) s
      have hall := bIn_all (s.1.getD w 0) hc (nb w) s (hnb w hwn) (hinv.mono (by omega))
      obtain ⟨h1, h2, h3⟩ := ih (i + 1) _ (by omega) hinv' (by rw [ht, List.length_append]; omega) (fun k x hk hx z hz => by
        rcases Nat.lt_or_ge k i with h | h
        · rw [ht, List.getElem?_append_left (by omega)] at hx
          have := hcl k x h hx z hz
          rw [ht]; exact List.mem_append_left _ this
        · have : k = i := by omega
          subst this
          rw [ht, List.getElem?_append_left hil, hw] at hx
          cases hx
          exact hall z hz)
      exact ⟨h1, fun y hy => h2 y (by rw [ht]; exact List.mem_append_left _ hy), h3⟩
theorem valid_in {n : Nat} {l : List (Int × Int)} (hv : ∀ p ∈ l, validB (n : Int) p = true) : ∀ p ∈ l, inB n p := fun p hp => by
  have := hv p hp
  rw [validB, decide_eq_true_eq] at this
  unfold inB; omega
end Go.Proofs.Ytmhfkhlamnapdaa
end
section
open Go Go.HL
namespace Go.Proofs.Ytmhfkhlamnapdaa
def isE (x y : Int) (p : Int × Int) : Prop := (p.1 = x ∧ p.2 = y) ∨ (p.2 = x ∧ p.1 = y)
def oth (x : Int) (p : Int × Int) : Option Int := if p.1 = x then some p.2 else if p.2 = x then some p.1 else none
def rowE (l : List (Int × Int)) (x : Int) : List Int := l.filterMap (oth x)
theorem oth_isE {x y : Int} {p : Int × Int} : oth x p = some y ↔ (p.1 = x ∧ p.2 = y) ∨ (p.1 ≠ x ∧ p.2 = x ∧ p.1 = y) := by
  unfold oth
  by_cases h1 : p.1 = x
  · simp [h1]
  · by_cases h2 : p.2 = x
    · simp [h1, h2]
    · simp [h1, h2]
theorem rowE_mem {l : List (Int × Int)} {x y : Int} : y ∈ rowE l x ↔ ∃ p ∈ l, isE x y p := by
  unfold rowE
  rw [List.mem_filterMap]
  refine ⟨fun ⟨p, hp, h⟩ => ⟨p, hp, ?_⟩, fun ⟨p, hp, h⟩ => ⟨p, hp, ?_⟩⟩
  · rw [oth_isE] at h
    rcases h with h | h
    · exact .inl h
    · exact .inr h.2
  · rw [oth_isE]
    rcases h with h | h
    · exact .inl h
    · by_cases c : p.1 = x
      · left; obtain ⟨h1, h2⟩ := h; constructor; exact c; omega
      · exact .inr ⟨c, h⟩
theorem isE_sym {x y : Int} {p : Int × Int} (h : isE x y p) : isE y x p := by
  rcases h with h | h
  · exact .inr ⟨h.2, h.1⟩
  · exact .inl ⟨h.2, h.1⟩
theorem rowE_sym {l : List (Int × Int)} {x y : Int} (h : y ∈ rowE l x) : x ∈ rowE l y := by
  obtain ⟨p, hp, h⟩ := rowE_mem.1 h
  exact rowE_mem.2 ⟨p, hp, isE_sym h⟩
def chd (ρ : Int → Nat) (p : Int × Int) : Int := if ρ p.1 < ρ p.2 then p.2 else p.1
structure Ori (l : List (Int × Int)) (ρ : Int → Nat) (M : Nat) : Prop where
  ne : ∀ p ∈ l, ρ p.1 ≠ ρ p.2
  nd : (l.map (chd ρ)).Nodup
  bd : ∀ p ∈ l, ρ p.1 ≤ M ∧ ρ p.2 ≤ M
section
variable {l : List (Int × Int)} {ρ : Int → Nat} {M : Nat}
theorem chd_of {x y : Int} {p : Int × Int} (h : isE x y p) (hr : ρ y < ρ x) : chd ρ p = x := by
  unfold chd
  rcases h with ⟨h1, h2⟩ | ⟨h1, h2⟩
  · rw [h1, h2, if_neg (by omega)]
  · rw [h1, h2, if_pos hr]
end
section
variable {l : List (Int × Int)} {ρ : Int → Nat} {M : Nat}
theorem inj_of_nodup {α β : Type} {f : α → β} : ∀ {l : List α}, (l.map f).Nodup → ∀ a ∈ l, ∀ b ∈ l, f a = f b → a = b
  | [], _, a, ha, _, _, _ => by cases ha
  | c :: l, h, a, ha, b, hb, he => by
    rw [List.map_cons, List.nodup_cons] at h
    rcases List.mem_cons.1 ha with rfl | ha2 <;> rcases List.mem_cons.1 hb with rfl | hb2
    · rfl
    · exact (h.1 (by rw [he]; exact List.mem_map_of_mem hb2)).elim
    · exact (h.1 (by rw [← he]; exact List.mem_map_of_mem ha2)).elim
    · exact inj_of_nodup h.2 a ha2 b hb2 he
end
section
variable {l : List (Int × Int)} {ρ : Int → Nat} {M : Nat}
theorem Ori.low (h : Ori l ρ M) {x u u' : Int} (hu : u ∈ rowE l x) (hu' : u' ∈ rowE l x) (h1 : ρ u < ρ x) (h2 : ρ u' < ρ x) : u = u' := by
  obtain ⟨p, hp, e⟩ := rowE_mem.1 hu
  obtain ⟨q, hq, e'⟩ := rowE_mem.1 hu'
  have : p = q := inj_of_nodup h.nd p hp q hq (by rw [chd_of e h1, chd_of e' h2])
  subst this
  rcases e with ⟨a1, a2⟩ | ⟨a1, a2⟩ <;> rcases e' with ⟨b1, b2⟩ | ⟨b1, b2⟩
  · rw [← a2, b2]
  · have e1 : u' = x := by rw [← b2, a1]
    rw [e1] at h2; omega
  · have e1 : u' = x := by rw [← b2, a1]
    rw [e1] at h2; omega
  · rw [← a2, b2]
end
section
variable {l : List (Int × Int)} {ρ : Int → Nat} {M : Nat}
theorem Ori.nodup (h : Ori l ρ M) (x : Int) : (rowE l x).Nodup := by
  unfold rowE List.Nodup
  have hp : l.Pairwise fun p q => chd ρ p ≠ chd ρ q := by
    have := h.nd
    unfold List.Nodup at this
    rwa [List.pairwise_map] at this
  have hp2 : l.Pairwise fun p q => p ∈ l ∧ q ∈ l ∧ chd ρ p ≠ chd ρ q := by
    refine List.Pairwise.imp_of_mem (fun {a b} ha hb hab => ⟨ha, hb, hab⟩) hp
  refine List.Pairwise.filterMap (oth x) (fun p q hpq y hy z hz hyz => ?_) hp2
  subst hyz
  obtain ⟨h1, h2, h3⟩ := hpq
  have ep : isE x y p := by
    rcases oth_isE.1 hy with h | h
    · exact .inl h
    · exact .inr h.2
  have eq : isE x y q := by
    rcases oth_isE.1 hz with h | h
    · exact .inl h
    · exact .inr h.2
  have hne := h.ne p h1
  have hxy : ρ x ≠ ρ y := by
    rcases ep with ⟨a, b⟩ | ⟨a, b⟩
    · rwa [a, b] at hne
    · rw [a, b] at hne; exact fun h => hne h.symm
  rcases Nat.lt_or_gt_of_ne hxy with h | h
  · exact h3 (by rw [chd_of (isE_sym ep) h, chd_of (isE_sym eq) h])
  · exact h3 (by rw [chd_of ep h, chd_of eq h])
end
section
variable {l : List (Int × Int)} {ρ : Int → Nat} {M : Nat}
theorem Ori.neq (h : Ori l ρ M) {x y : Int} (hy : y ∈ rowE l x) : ρ y ≠ ρ x := by
  obtain ⟨p, hp, e⟩ := rowE_mem.1 hy
  have := h.ne p hp
  rcases e with ⟨a, b⟩ | ⟨a, b⟩
  · rw [a, b] at this; exact fun h => this h.symm
  · rw [a, b] at this; exact this
end
section
variable {l : List (Int × Int)} {ρ : Int → Nat} {M : Nat}
theorem Ori.le (h : Ori l ρ M) {x y : Int} (hy : y ∈ rowE l x) : ρ y ≤ M ∧ ρ x ≤ M := by
  obtain ⟨p, hp, e⟩ := rowE_mem.1 hy
  have := h.bd p hp
  rcases e with ⟨a, b⟩ | ⟨a, b⟩
  · rw [a, b] at this; exact ⟨this.2, this.1⟩
  · rw [a, b] at this; exact ⟨this.1, this.2⟩
end
section
variable {l : List (Int × Int)} {ρ : Int → Nat} {M : Nat}
open Classical in
noncomputable def mu (l : List (Int × Int)) (ρ : Int → Nat) (M : Nat) (v w : Int) : Nat := if w ∈ rowE l v ∧ ρ w < ρ v then M - ρ v else M + 1 + ρ v
end
section
variable {l : List (Int × Int)} {ρ : Int → Nat} {M : Nat}
def Gd (l : List (Int × Int)) (n : Nat) (v w : Int) : Prop := (0 ≤ v ∧ v < (n : Int)) ∧ (w = -1 ∨ w ∈ rowE l v)
end
section
variable {l : List (Int × Int)} {ρ : Int → Nat} {M : Nat}
theorem valid_row {n : Nat} (hv : ∀ p ∈ l, validB (n : Int) p = true) {x y : Int} (hy : y ∈ rowE l x) : 0 ≤ y ∧ y < (n : Int) := by
  obtain ⟨p, hp, e⟩ := rowE_mem.1 hy
  have h1 := hv p hp
  rw [validB, decide_eq_true_eq] at h1
  rcases e with e | e <;> omega
end
section
variable {l : List (Int × Int)} {ρ : Int → Nat} {M : Nat}
theorem keep_mem {w u : Int} {r : List Int} : u ∈ keep w r ↔ u ∈ r ∧ u ≠ w := by
  rw [keep, List.mem_filter]
  simp
end
section
variable {l : List (Int × Int)} {ρ : Int → Nat} {M : Nat}
theorem Ori.msr {n : Nat} (h : Ori l ρ M) (hv : ∀ p ∈ l, validB (n : Int) p = true) : Msr (rowE l) (Gd l n) (mu l ρ M) where
  step v w hG u hu := by
    obtain ⟨hu1, hu2⟩ := keep_mem.1 hu
    refine ⟨⟨valid_row hv hu1, .inr (rowE_sym hu1)⟩, ?_⟩
    have hne := h.neq hu1
    obtain ⟨hM1, hM2⟩ := h.le hu1
    unfold mu
    by_cases c : ρ v < ρ u
    · rw [if_pos ⟨rowE_sym hu1, c⟩]
      split <;> omega
    · rw [if_neg (fun h => c h.2), if_neg (fun hw => hu2 (h.low hu1 hw.1 (by omega) hw.2))]
      omega
end
section
variable {l : List (Int × Int)} {ρ : Int → Nat} {M : Nat}
theorem mu_le (l : List (Int × Int)) (ρ : Int → Nat) (M : Nat) (v w : Int) (h : ρ v ≤ M) : mu l ρ M v w ≤ 2 * M + 1 := by
  unfold mu
  split <;> omega
end
theorem adjAdd_get {adj : List (List Nat)} {a b x : Nat} (ha : a < adj.length) : (adjAdd adj a b).getD x [] = adj.getD x [] ++ (if a = x then [b] else []) := by
  unfold adjAdd
  simp only [List.getD, List.getElem?_set]
  by_cases e : a = x
  · subst e
    simp [ha]
  · simp [e]
theorem adjGo_row {n : Nat} : ∀ (l : List (Int × Int)) (adj : List (List Nat)), adj.length = n → (∀ p ∈ l, validB (n : Int) p = true) → ∀ x : Nat, rowI ((adjGo l adj).getD x []) = rowI (adj.getD x []) ++ rowE l (x : Int)
  | [], adj, _, _, x => by simp [adjGo, rowE]
  | p :: l, adj, ha, hv, x => by
    have h1 := hv p (by simp)
    rw [validB, decide_eq_true_eq] at h1
    have e : adjGo (p :: l) adj = adjGo l (adjStep adj p) := rfl
    rw [e, adjGo_row l (adjStep adj p) (by simp [adjStep, adjAdd, ha]) (fun q hq => hv q (by simp [hq])), adjStep, adjAdd_get (by simp [adjAdd, ha]; omega), adjAdd_get (by omega)]
    have e2 : rowE (p :: l) (x : Int) = (match oth (x : Int) p with | some y => [y] | none => []) ++ rowE l (x : Int) := by
      unfold rowE
      rw [List.filterMap_cons]
      cases oth (x : Int) p <;> rfl
    rw [e2]
    unfold oth
    by_cases c1 : p.1 = (x : Int)
    · have c2 : ¬ p.2 = (x : Int) := by omega
      rw [if_pos c1, if_pos (by omega), if_neg (by omega)]
      simp [rowI]
      omega
    · by_cases c2 : p.2 = (x : Int)
      · rw [if_neg c1, if_pos c2, if_neg (by omega), if_pos (by omega)]
        simp [rowI]
        omega
      · rw [if_neg c1, if_neg c2, if_neg (by omega), if_neg (by omega)]
        simp [rowI]
theorem adjOf_row {n : Nat} {l : List (Int × Int)} (hv : ∀ p ∈ l, validB (n : Int) p = true) {x : Nat} (hx : x < n) : ∃ r, (adjOf n l)[x]? = some r ∧ rowI r = rowE l (x : Int) := by
  have hl : (adjOf n l).length = n := (adjOf_inv hv).len
  have h := adjGo_row l (List.replicate n []) (by simp) hv x
  refine ⟨(adjOf n l)[x]'(by omega), List.getElem?_eq_getElem (by omega), ?_⟩
  have e : (adjOf n l).getD x [] = (adjOf n l)[x]'(by omega) := by simp [List.getD, List.getElem?_eq_getElem (show x < (adjOf n l).length by omega)]
  have e0 : (List.replicate n ([] : List Nat)).getD x [] = [] := by
    simp only [List.getD, List.getElem?_replicate]
    split <;> rfl
  rw [← e, adjOf, h, e0]
  rfl
theorem trues_sorted (r : List Bool) : ∀ (d j : Nat) (acc : List Int), acc.Pairwise (fun a b => a < b) → (∀ z ∈ acc, z < (j : Int)) → (truesFrom r j d acc).Pairwise fun a b => a < b
  | 0, j, acc, h, _ => h
  | d + 1, j, acc, h, hz => by
    rw [truesFrom]
    split
    · refine trues_sorted r d (j + 1) _ ?_ (fun z hz' => ?_)
      · rw [List.pairwise_append]
        refine ⟨h, by simp, fun a ha b hb => ?_⟩
        rw [List.mem_singleton.1 hb]; exact hz a ha
      · rcases List.mem_append.1 hz' with h' | h'
        · have := hz z h'; omega
        · rw [List.mem_singleton.1 h']; omega
    · exact trues_sorted r d (j + 1) _ h (fun z hz' => by have := hz z hz'; omega)
theorem nbrs_nodup (m : Nat) (l : List (Int × Int)) (x : Int) : (nbrs m l x).Nodup := by
  have := trues_sorted (nbMark x l (List.replicate m false)) m 0 [] List.Pairwise.nil (by simp)
  exact this.imp fun {a b} h => by omega
theorem nbrs_len (m : Nat) (l : List (Int × Int)) (x : Int) : (nbrs m l x).length ≤ m := by
  have := trues_len (nbMark x l (List.replicate m false)) m 0 []
  simpa [nbrs] using this
theorem nbrs_row {n : Nat} {l : List (Int × Int)} (hv : ∀ p ∈ l, validB (n : Int) p = true) {x : Int} (hx : 0 ≤ x) (y : Int) : y ∈ nbrs n l x ↔ y ∈ rowE l x := by
  obtain ⟨a, rfl⟩ : ∃ a : Nat, x = (a : Int) := ⟨x.toNat, by omega⟩
  rw [rowE_mem]
  have hpos : y ∈ nbrs n l (a : Int) → 0 ≤ y := fun h => by
    rw [nbrs, trues_mem] at h
    rcases h with h | ⟨k, rfl, _⟩
    · cases h
    · omega
  have hm := @nbN_mem n l (valid_in hv) a y.toNat
  constructor
  · intro h
    have h0 := hpos h
    obtain ⟨_, p, hp, h2⟩ := hm.1 (List.mem_map_of_mem h)
    have h1 := hv p hp
    rw [validB, decide_eq_true_eq] at h1
    exact ⟨p, hp, by unfold isE; omega⟩
  · rintro ⟨p, hp, h⟩
    have h1 := hv p hp
    rw [validB, decide_eq_true_eq] at h1
    have : y.toNat ∈ nbN n l a := hm.2 ⟨by rcases h with h | h <;> omega, p, hp, by rcases h with h | h <;> omega⟩
    obtain ⟨z, hz, hzy⟩ := List.mem_map.1 this
    have := hpos
    have hz0 : 0 ≤ z := by
      rw [nbrs, trues_mem] at hz
      rcases hz with h | ⟨k, rfl, _⟩
      · cases h
      · omega
    have : z = y := by rcases h with h | h <;> omega
    rw [← this]; exact hz
theorem nbrs_perm {n : Nat} {l : List (Int × Int)} {ρ : Int → Nat} {M : Nat} (hv : ∀ p ∈ l, validB (n : Int) p = true) (h : Ori l ρ M) {x : Int} (hx : 0 ≤ x) : (nbrs n l x).Perm (rowE l x) :=
  (List.perm_ext_iff_of_nodup (nbrs_nodup n l x) (h.nodup x)).2 fun y => nbrs_row hv hx y
end Go.Proofs.Ytmhfkhlamnapdaa
end
section
open Go Go.HL
namespace Go.Proofs.Ytmhfkhlamnapdaa
def Pnt (nb : Nat → List Nat) (n r : Nat) (o : List Int) : Prop := ∀ y, y < n → 0 ≤ o.getD y 0 → y = r ∨ ∃ x, x < n ∧ y ∈ nb x ∧ 0 ≤ o.getD x 0 ∧ o.getD y 0 = o.getD x 0 + 1
theorem bIn_pnt (nb : Nat → List Nat) {n k r x : Nat} {c : Int} (hc : 0 ≤ c ∧ c + 1 ≤ k) (hx : x < n) : ∀ (l : List Nat) (s : List Int × List Nat), (∀ y ∈ l, y < n ∧ y ∈ nb x) → BInv n k s → s.1.getD x 0 = c → Pnt nb n r s.1 → Pnt nb n r (bIn c l s).1 ∧ (bIn c l s).1.getD x 0 = c
  | [], _, _, _, h2, h3 => ⟨h3, h2⟩
  | y :: l, s, hl, h, h2, h3 => by
    rw [bIn]
    obtain ⟨hy, hyx⟩ := hl y (by simp)
    have h' := h.step hc hy
    have hyl : y < s.1.length := by rw [h.len]; exact hy
    refine bIn_pnt nb hc hx l _ (fun z hz => hl z (by simp [hz])) h' ?_ ?_
    · split
      · rename_i hlt
        show (s.1.set y (c + 1)).getD x 0 = c
        rw [getD_set _ _ _ _ hyl, if_neg (fun e => by subst e; omega), h2]
      · exact h2
    · split
      · rename_i hlt
        intro z hz h0
        have hz0 : (s.1.set y (c + 1)).getD z 0 = if y = z then c + 1 else s.1.getD z 0 := getD_set _ _ _ _ hyl
        show z = r ∨ ∃ x, x < n ∧ z ∈ nb x ∧ 0 ≤ (s.1.set y (c + 1)).getD x 0 ∧ (s.1.set y (c + 1)).getD z 0 = (s.1.set y (c + 1)).getD x 0 + 1
        by_cases e : y = z
        · subst e
          right
          refine ⟨x, hx, hyx, ?_, ?_⟩
          · rw [getD_set _ _ _ _ hyl, if_neg (fun e => by subst e; omega), h2]; omega
          · rw [getD_set _ _ _ _ hyl, getD_set _ _ _ _ hyl, if_pos rfl, if_neg (fun e => by subst e; omega), h2]
        · rw [if_neg e] at hz0
          have h0' : 0 ≤ s.1.getD z 0 := by rw [← hz0]; exact h0
          rcases h3 z hz h0' with h4 | ⟨w, hw, h5, h6, h7⟩
          · exact .inl h4
          · right
            refine ⟨w, hw, h5, ?_, ?_⟩
            · rw [getD_set _ _ _ _ hyl, if_neg (fun e => by subst e; omega)]; exact h6
            · rw [hz0, getD_set _ _ _ _ hyl, if_neg (fun e => by subst e; omega)]; exact h7
      · exact h3
theorem bGo_pnt (nb : Nat → List Nat) {n r : Nat} (hnb : ∀ x, x < n → ∀ z ∈ nb x, z < n) : ∀ (d i : Nat) (s : List Int × List Nat), i + d = n → BInv n i s → Pnt nb n r s.1 → 0 ≤ s.1.getD r 0 → r < n → Pnt nb n r (bGo nb d i s).1 ∧ (bGo nb d i s).1.getD r 0 = s.1.getD r 0
  | 0, _, _, _, _, h, _, _ => ⟨h, rfl⟩
  | d + 1, i, s, hi, hinv, h, hr, hrn => by
    rw [bGo]
    cases hw : s.2[i]? with
    | none => exact ⟨h, rfl⟩
    | some w =>
      dsimp only
      have hwn : w < n := hinv.lt _ (List.mem_of_getElem? hw)
      have hc0 := (hinv.got w hwn).2 (List.mem_of_getElem? hw)
      have hci := hinv.le w hwn
      have hc : 0 ≤ s.1.getD w 0 ∧ s.1.getD w 0 + 1 ≤ ((i + 1 : Nat) : Int) := ⟨hc0, by omega⟩
      have hinv' := BInv.inn hc (nb w) s (hnb w hwn) (hinv.mono (by omega))
      obtain ⟨h1, h2⟩ := bIn_pnt nb (r := r) hc hwn (nb w) s (fun y hy => ⟨hnb w hwn y hy, hy⟩) (hinv.mono (by omega)) rfl h
      have hk : ∀ (l : List Nat) (t : List Int × List Nat), (∀ y ∈ l, y < n) → BInv n (i + 1) t → 0 ≤ t.1.getD r 0 → (bIn (s.1.getD w 0) l t).1.getD r 0 = t.1.getD r 0 := by
        intro l
        induction l with
        | nil => intro t _ _ _; rfl
        | cons y l ihl =>
          intro t hl ht h0
          rw [bIn]
          have hy := hl y (by simp)
          have hyl : y < t.1.length := by rw [ht.len]; exact hy
          have e : (if t.1.getD y 0 < 0 then (t.1.set y (s.1.getD w 0 + 1), t.2 ++ [y]) else t).1.getD r 0 = t.1.getD r 0 := by
            split
            · show (t.1.set y (s.1.getD w 0 + 1)).getD r 0 = _
              rw [getD_set _ _ _ _ hyl, if_neg (fun e => by subst e; omega)]
            · rfl
          rw [ihl _ (fun z hz => hl z (by simp [hz])) (ht.step hc hy) (by rw [e]; exact h0), e]
      have hr' := hk (nb w) s (hnb w hwn) (hinv.mono (by omega)) hr
      obtain ⟨h3, h4⟩ := bGo_pnt nb hnb d (i + 1) _ (by omega) hinv' h1 (by rw [hr']; exact hr) hrn
      exact ⟨h3, by rw [h4, hr']⟩
theorem bInit_get {n r y : Nat} (hr : r < n) (hy : y < n) : (bInit n r).1.getD y 0 = if r = y then 0 else -1 := by
  unfold bInit
  rw [getD_set _ _ _ _ (by simpa using hr)]
  split
  · rfl
  · simp [List.getD, List.getElem?_replicate, hy]
theorem bfs_pnt (nb : Nat → List Nat) {n r : Nat} (hr : r < n) (hnb : ∀ x, x < n → ∀ z ∈ nb x, z < n) : Pnt nb n r (bfs nb n r) ∧ (bfs nb n r).getD r 0 = 0 ∧ ∀ y, y < n → (bfs nb n r).getD y 0 ≤ (n : Int) := by
  have hi := bInit_inv hr
  obtain ⟨h1, h2⟩ := bGo_pnt nb (r := r) hnb n 0 (bInit n r) (by omega) hi (fun y hy h0 => by
    rw [bInit_get hr hy] at h0
    split at h0
    · rename_i e; exact .inl e.symm
    · omega) (by rw [bInit_get hr hr, if_pos rfl]; omega) hr
  rw [bInit_get hr hr, if_pos rfl] at h2
  obtain ⟨a1, a2, a3⟩ := bGo_closed nb n hnb n 0 (bInit n r) (by omega) hi (Nat.zero_le _) (fun k x hk => by omega)
  exact ⟨h1, h2, a1.le⟩
theorem perm_of_sub {α : Type} [DecidableEq α] : ∀ (P S : List α), P.Nodup → (∀ v ∈ P, v ∈ S) → S.length ≤ P.length → S.Perm P
  | [], S, _, _, h => by
    have : S = [] := List.length_eq_zero_iff.1 (by simpa using h)
    rw [this]
  | x :: P, S, hP, h, hl => by
    rw [List.nodup_cons] at hP
    have hx := h x (by simp)
    have := perm_of_sub P (S.erase x) hP.2 (fun v hv => by
      rw [List.mem_erase_of_ne (fun e => hP.1 (by rw [← e]; exact hv))]
      exact h v (by simp [hv])) (by rw [List.length_erase_of_mem hx]; simp at hl; omega)
    exact (List.perm_cons_erase hx).trans (this.cons x)
/-- Lengths from a root. -/
structure Rtd (l : List (Int × Int)) (n r : Nat) (ρ : Int → Nat) : Prop where
  root : ρ (r : Int) = 0
  up : ∀ y : Nat, y < n → y ≠ r → ∃ u, u ∈ rowE l (y : Int) ∧ ρ (y : Int) = ρ u + 1
  le : ∀ y : Nat, y < n → ρ (y : Int) ≤ n
theorem Rtd.ori {l : List (Int × Int)} {n r : Nat} {ρ : Int → Nat} (h : Rtd l n r ρ) (hr : r < n) (hv : ∀ p ∈ l, validB (n : Int) p = true) (hl : l.length + 1 = n) : Ori l ρ n ∧ ∀ p ∈ l, ρ p.1 = ρ p.2 + 1 ∨ ρ p.2 = ρ p.1 + 1 := by
  have hup : ∀ y : Nat, y < n → y ≠ r → ∃ p ∈ l, chd ρ p = (y : Int) ∧ (ρ p.1 = ρ p.2 + 1 ∨ ρ p.2 = ρ p.1 + 1) := by
    intro y hy hyr
    obtain ⟨u, hu, e⟩ := h.up y hy hyr
    obtain ⟨p, hp, hE⟩ := rowE_mem.1 hu
    refine ⟨p, hp, chd_of hE (by omega), ?_⟩
    rcases hE with ⟨a, b⟩ | ⟨a, b⟩
    · rw [a, b]; exact .inl e
    · rw [a, b]; exact .inr e
  have hPnd : (((List.range n).filter fun y => decide (y ≠ r)).map fun y : Nat => (y : Int)).Nodup := by
    have h1 : ((List.range n).filter fun y => decide (y ≠ r)).Nodup := List.Pairwise.filter _ List.nodup_range
    exact List.Pairwise.map _ (fun a b hab => by omega) h1
  have hPl : n ≤ (((List.range n).filter fun y => decide (y ≠ r)).map fun y : Nat => (y : Int)).length + 1 := by
    rw [List.length_map]
    have h1 : (List.range n).Perm (r :: (List.range n).filter fun y => decide (y ≠ r)) := by
      refine (perm_of_sub _ _ ?_ ?_ ?_).symm
      · exact List.nodup_range
      · intro v hv'
        by_cases e : v = r
        · rw [e]; simp
        · have : v ∈ (List.range n).filter fun y => decide (y ≠ r) := List.mem_filter.2 ⟨hv', by simpa using e⟩
          simp only [List.mem_cons]; exact .inr this
      · rw [List.length_cons]
        have hnd : ((List.range n).filter fun y => decide (y ≠ r)).Nodup := List.Pairwise.filter _ List.nodup_range
        have := nodup_lt_len (n := n) (l := r :: (List.range n).filter fun y => decide (y ≠ r)) (by
          rw [List.nodup_cons]
          exact ⟨by simp, hnd⟩) (fun y hy => by
          rcases List.mem_cons.1 hy with rfl | hy
          · exact hr
          · exact List.mem_range.1 (List.mem_filter.1 hy).1)
        simpa using this
    have := h1.length_eq
    simp at this ⊢
    omega
  have hperm := perm_of_sub (((List.range n).filter fun y => decide (y ≠ r)).map fun y : Nat => (y : Int)) (l.map (chd ρ)) hPnd (fun v hv' => by
    obtain ⟨y, hy, rfl⟩ := List.mem_map.1 hv'
    obtain ⟨h1, h2⟩ := List.mem_filter.1 hy
    obtain ⟨p, hp, e, _⟩ := hup y (List.mem_range.1 h1) (by simpa using h2)
    rw [← e]; exact List.mem_map_of_mem hp) (by rw [List.length_map]; omega)
  have hnd : (l.map (chd ρ)).Nodup := hperm.nodup_iff.2 hPnd
  have hone : ∀ p ∈ l, ρ p.1 = ρ p.2 + 1 ∨ ρ p.2 = ρ p.1 + 1 := by
    intro p hp
    have hm : chd ρ p ∈ l.map (chd ρ) := List.mem_map_of_mem hp
    rw [hperm.mem_iff] at hm
    obtain ⟨y, hy, e⟩ := List.mem_map.1 hm
    obtain ⟨h1, h2⟩ := List.mem_filter.1 hy
    obtain ⟨q, hq, e2, h3⟩ := hup y (List.mem_range.1 h1) (by simpa using h2)
    have : p = q := inj_of_nodup hnd p hp q hq (by rw [e2, ← e])
    rw [this]; exact h3
  refine ⟨⟨fun p hp => by have := hone p hp; omega, hnd, fun p hp => ?_⟩, hone⟩
  have h1 := hv p hp
  rw [validB, decide_eq_true_eq] at h1
  have e1 : p.1 = ((p.1.toNat : Nat) : Int) := by omega
  have e2 : p.2 = ((p.2.toNat : Nat) : Int) := by omega
  rw [e1, e2]
  exact ⟨h.le _ (by omega), h.le _ (by omega)⟩
theorem rtd_of_bfs {l : List (Int × Int)} {n r : Nat} (hr : r < n) {nb : Nat → List Nat} (hnb : ∀ x, x < n → ∀ z ∈ nb x, z < n) (hE : ∀ x y : Nat, x < n → y ∈ nb x → (y : Int) ∈ rowE l (x : Int)) (hall : ∀ y, y < n → 0 ≤ (bfs nb n r).getD y 0) : Rtd l n r fun v => ((bfs nb n r).getD v.toNat 0).toNat := by
  obtain ⟨h1, h2, h3⟩ := bfs_pnt nb hr hnb
  refine ⟨by simp only [Int.toNat_natCast, h2]; rfl, fun y hy hyr => ?_, fun y hy => ?_⟩
  · rcases h1 y hy (hall y hy) with e | ⟨x, hx, h4, h5, h6⟩
    · exact absurd e hyr
    · refine ⟨(x : Int), rowE_sym (hE x y hx h4), ?_⟩
      simp only [Int.toNat_natCast]
      omega
  · have := h3 y hy
    simp only [Int.toNat_natCast]
    omega
theorem getD_at {o : List Int} {y : Nat} (h : y < o.length) : o.getD y 0 = o[y] := by simp [List.getD, List.getElem?_eq_getElem h]
/-- What the program calls a tree is one. -/
theorem tree_rtd {n : Nat} {l : List (Int × Int)} (h : treeOk (n : Int) l = true) : ((1 ≤ n ∧ n ≤ 30) ∧ l.length + 1 = n) ∧ (∀ p ∈ l, validB (n : Int) p = true) ∧ ∀ r, r < n → Rtd l n r fun v => ((bfs (fun y => (adjOf n l).getD y []) n r).getD v.toNat 0).toNat := by
  rw [treeOk, Bool.and_eq_true, decide_eq_true_eq] at h
  obtain ⟨⟨⟨⟨a, b⟩, c⟩, d⟩, e⟩ := h
  have hv := List.all_eq_true.1 d
  refine ⟨⟨⟨by omega, by omega⟩, by omega⟩, hv, fun r hr => ?_⟩
  have hA := adjOf_inv hv
  have hnb : ∀ x, x < n → ∀ z ∈ (adjOf n l).getD x [], z < n := by
    intro x hx z hz
    have e : (adjOf n l).getD x [] = (adjOf n l)[x]'(by rw [hA.len]; exact hx) := by simp [List.getD, List.getElem?_eq_getElem (show x < (adjOf n l).length by rw [hA.len]; exact hx)]
    rw [e] at hz
    exact (hA.row _ (List.getElem_mem _)).2 z hz
  have hE : ∀ x y : Nat, x < n → (y ∈ (adjOf n l).getD x [] ↔ (y : Int) ∈ rowE l (x : Int)) := by
    intro x y hx
    obtain ⟨r, h1, h2⟩ := adjOf_row hv hx
    have e : (adjOf n l).getD x [] = r := by simp [List.getD, h1]
    rw [e, ← h2, rowI, List.mem_map]
    constructor
    · exact fun h => ⟨y, h, rfl⟩
    · rintro ⟨z, hz, e⟩
      have : z = y := by omega
      rw [← this]; exact hz
  refine rtd_of_bfs hr hnb (fun x y hx hy => (hE x y hx).1 hy) ?_
  rw [farOk, decide_eq_true_eq, Int.toNat_natCast, farF, hA.len] at e
  -- all are reached from 0
  have hlen0 : (bfs (fun y => (adjOf n l).getD y []) n 0).length = n := bfs_len _ n 0
  have h0 : ∀ y, y < n → 0 ≤ (bfs (fun y => (adjOf n l).getD y []) n 0).getD y 0 := by
    intro y hy
    obtain ⟨a1, a2, a3⟩ := bGo_closed (fun y => (adjOf n l).getD y []) n hnb n 0 (bInit n 0) (by omega) (bInit_inv (by omega)) (Nat.zero_le _) (fun k x hk => by omega)
    have hge := a1.ge y hy
    have hne : (bfs (fun y => (adjOf n l).getD y []) n 0).getD y 0 ≠ -1 := by
      intro h1
      apply e
      have hy2 : y < (bfs (fun y => (adjOf n l).getD y []) n 0).length := by omega
      have := getD_at hy2
      rw [← h1, this]; exact List.getElem_mem hy2
    unfold bfs at hne ⊢
    omega
  -- so from r
  obtain ⟨b1, b2, b3⟩ := bGo_closed (fun y => (adjOf n l).getD y []) n hnb n 0 (bInit n r) (by omega) (bInit_inv hr) (Nat.zero_le _) (fun k x hk => by omega)
  have hsym : ∀ x y, x < n → y < n → y ∈ (adjOf n l).getD x [] → x ∈ (adjOf n l).getD y [] := fun x y hx hy h => (hE y x hy).2 (rowE_sym ((hE x y hx).1 h))
  obtain ⟨p1, p2, p3⟩ := bfs_pnt (fun y => (adjOf n l).getD y []) (r := 0) (by omega) hnb
  -- going up from r to 0
  have hr2 : r ∈ (bGo (fun y => (adjOf n l).getD y []) n 0 (bInit n r)).2 := b2 r (by simp [bInit])
  have up : ∀ (k y : Nat), y < n → ((bfs (fun y => (adjOf n l).getD y []) n 0).getD y 0).toNat ≤ k → y ∈ (bGo (fun y => (adjOf n l).getD y []) n 0 (bInit n r)).2 → 0 ∈ (bGo (fun y => (adjOf n l).getD y []) n 0 (bInit n r)).2 := by
    intro k
    induction k with
    | zero =>
      intro y hy hk hm
      rcases p1 y hy (h0 y hy) with e | ⟨x, hx, h4, h5, h6⟩
      · subst e; exact hm
      · omega
    | succ k ih =>
      intro y hy hk hm
      rcases p1 y hy (h0 y hy) with e | ⟨x, hx, h4, h5, h6⟩
      · subst e; exact hm
      · exact ih x hx (by omega) (b3 y hm x (hsym x y hx hy h4))
  have h00 := up _ r hr (Nat.le_refl _) hr2
  have down : ∀ (k y : Nat), y < n → ((bfs (fun y => (adjOf n l).getD y []) n 0).getD y 0).toNat ≤ k → y ∈ (bGo (fun y => (adjOf n l).getD y []) n 0 (bInit n r)).2 := by
    intro k
    induction k with
    | zero =>
      intro y hy hk
      rcases p1 y hy (h0 y hy) with e | ⟨x, hx, h4, h5, h6⟩
      · rw [e]; exact h00
      · omega
    | succ k ih =>
      intro y hy hk
      rcases p1 y hy (h0 y hy) with e | ⟨x, hx, h4, h5, h6⟩
      · rw [e]; exact h00
      · exact b3 x (ih x hx (by omega)) y h4
  intro y hy
  exact (b1.got y hy).2 (down _ y hy (Nat.le_refl _))
end Go.Proofs.Ytmhfkhlamnapdaa
end
section
open Go Go.HL
namespace Go.Proofs.Ytmhfkhlamnapdaa
theorem tmF_permD {row row' : Int → List Int} {D : Int → Prop} (h : ∀ v, D v → (row v).Perm (row' v) ∧ ∀ u ∈ row v, D u) : ∀ (k : Nat) (v w : Int), D v → tmF row k v w = tmF row' k v w
  | 0, _, _, _ => rfl
  | k + 1, v, w, hD => by
    rw [tmF, tmF]
    congr 1
    refine dsort_eq ?_
    have e : ((keep w (row v)).map fun u => tmF row k u v) = (keep w (row v)).map fun u => tmF row' k u v := List.map_congr_left fun u hu => tmF_permD h k u v ((h v hD).2 u (keep_mem.1 hu).1)
    rw [e]
    exact ((h v hD).1.filter _).map _
theorem valid_all {n : Nat} {l : List (Int × Int)} (hv : ∀ p ∈ l, validB (n : Int) p = true) : (l.all fun p => decide ((0 ≤ p.1 ∧ p.1 < (n : Int)) ∧ (0 ≤ p.2 ∧ p.2 < (n : Int)))) = true := List.all_eq_true.2 fun p hp => by
  have := hv p hp
  rw [validB, decide_eq_true_eq] at this
  exact decide_eq_true ⟨this.1, this.2.1⟩
theorem rowE_len (l : List (Int × Int)) (x : Int) : (rowE l x).length ≤ l.length := List.length_filterMap_le _ _
/-- Both times, on any tree that has one way up. -/
theorem ori_time {n : Nat} {l : List (Int × Int)} {ρ : Int → Nat} {M : Nat} (hn : n ≤ 30) (hl : l.length ≤ 39) (hv : ∀ p ∈ l, validB (n : Int) p = true) (hO : Ori l ρ M) (hM : M ≤ 70) {x w : Int} (hG : Gd l n x w) (hx : ρ x ≤ M) :
    TimeOk (adjOf n l) (tm (rowE l)) n x w ∧ RT n l (tm (nbrs n l)) x w ∧ tm (nbrs n l) x w = tm (rowE l) x w := by
  have hmu := mu_le l ρ M x w hx
  have hA := adjOf_inv hv
  refine ⟨?_, ?_, ?_⟩
  · have := timeOk_all (adj := adjOf n l) (hO.msr hv) (fun v => by have := rowE_len l v; omega) (fun v w hG => by
      obtain ⟨⟨h1, h2⟩, _⟩ := hG
      obtain ⟨r, h3, h4⟩ := adjOf_row hv (x := v.toNat) (by omega)
      have e : ((v.toNat : Nat) : Int) = v := by omega
      rw [e] at h4
      exact ⟨v.toNat, r, e.symm, h3, h4⟩) 150 x w hG (by omega) (by omega)
    rw [hA.len] at this
    exact this
  · have hM2 : Msr (nbrs ((n : Int)).toNat l) (Gd l n) (mu l ρ M) := ⟨fun v w hG u hu => (hO.msr hv).step v w hG u (by
      rw [Int.toNat_natCast] at hu
      obtain ⟨h1, h2⟩ := keep_mem.1 hu
      exact keep_mem.2 ⟨(nbrs_row hv hG.1.1 u).1 h1, h2⟩)⟩
    have := rt_all (n := (n : Int)) (l := l) ⟨by omega, by omega⟩ (valid_all hv) hM2 (fun v => by have := nbrs_len n l v; rw [Int.toNat_natCast]; omega) 150 x w hG (by omega) (by omega)
    rw [Int.toNat_natCast] at this
    exact this
  · exact tmF_permD (D := fun v => 0 ≤ v) (fun v hv0 => ⟨nbrs_perm hv hO hv0, fun u hu => (valid_row hv ((nbrs_row hv hv0 u).1 hu)).1⟩) 200 x w hG.1.1
theorem tree_time {n : Nat} {l : List (Int × Int)} (h : treeOk (n : Int) l = true) {x : Int} (hx : 0 ≤ x ∧ x < (n : Int)) :
    TimeOk (adjOf n l) (tm (rowE l)) n x (-1) ∧ RT n l (tm (nbrs n l)) x (-1) ∧ tm (nbrs n l) x (-1) = tm (rowE l) x (-1) := by
  obtain ⟨⟨hn, hl⟩, hv, hr⟩ := tree_rtd h
  have hR := hr 0 (by omega)
  obtain ⟨hO, _⟩ := hR.ori (by omega) hv hl
  refine ori_time (by omega) (by omega) hv hO (by omega) ⟨hx, .inl rfl⟩ ?_
  obtain ⟨a, rfl⟩ : ∃ a : Nat, x = (a : Int) := ⟨x.toNat, by omega⟩
  exact hR.le a (by omega)
end Go.Proofs.Ytmhfkhlamnapdaa
end
section
open Go Go.HL
namespace Go.Proofs.Ytmhfkhlamnapdaa
theorem res_out {H : Heap} {b k : Nat} {o : List Int} (hb : H[b]? = some (bI o)) (hk : o.length = k) (vs : List Int) : toRes H false (.tuple (.sl b 0 k none k 1 :: vs.map encI)) = some (.tuple (.own 1 (o.map encI) :: vs.map encI)) := by
  have hi : ∀ vs : List Int, (vs.map encI).flatMap (fun v => (cellsOf v).flatMap (owned H false)) = [] := by
    intro vs
    rw [List.flatMap_eq_nil_iff]
    intro v hv
    obtain ⟨z, _, rfl⟩ := List.mem_map.1 hv
    rfl
  have ho : ownedAll H false (.tuple (.sl b 0 k none k 1 :: vs.map encI)) = [b] := by
    have e1 : (cellsOf (.sl b 0 k none k 1)).flatMap (owned H false) = [b] := by
      simp only [cellsOf, List.flatMap_cons, List.flatMap_nil, owned, hb]
      rfl
    simp only [ownedAll, List.flatMap_cons, hi, e1, List.append_nil]
  have hr := resCell_sl (H := H) (no := [b]) (b := b) (k := 1) (m := k) (cap := none) (els := o.map encI) hb (by simpa using hk) (mapO_self (fun r => frz_int 4 r) _)
  have hm : mapO (resVal H [b] false) (vs.map encI) = some (vs.map encI) := mapO_self (f := resVal H [b] false) (g := encI) (fun _ => rfl) vs
  have hr1 : resVal H [b] false (.sl b 0 k none k 1) = some (.own 1 (o.map encI)) := by simp only [resVal, hr]
  simp only [toRes, ho, List.nodup_cons, List.not_mem_nil, not_false_eq_true, List.nodup_nil, and_self, if_true, mapO, hr1, hm]
end Go.Proofs.Ytmhfkhlamnapdaa
end
section
open Go Go.HL
namespace Go.Proofs.Ytmhfkhlamnapdaa
theorem s46_ok {n : Nat} {l : List (Int × Int)} (hg : ((1 ≤ (n : Int) ∧ (n : Int) ≤ 30) ∧ (l.length : Int) = (n : Int) - 1) ∧ l.all (validB (n : Int)) = true) (b : Bool) (hb : farOk (adjOf n l) = b) : ∀ kf, callN Try.prog polS (kf + 1) 46 [.int .i64 (n : Int), .imm .arg 2 (l.map encP)] [] = some (.tuple [TV n, .bool b], [.arr 1 ((adjOf n l).map rowO) true 0, .map [] [] 0]) := fun kf => by
  have hl : (adjOf n l).length = n := (adjOf_inv (List.all_eq_true.1 hg.2)).len
  rw [prim_call (pol := polS) (g := 46) (F := newTree46) (by kernel_rfl) (rs := [.int .i64 (n : Int), .imm .arg 2 (l.map encP)]) (by simp only [mapO, arg_pairs']; rfl) (res := .tuple [treeV (adjOf n l), .bool b]) (by simp only [newTree46, mapO_map decP_enc]; rw [newTreeF, if_pos hg, Int.toNat_natCast, hb])]
  have hno := rowO_any (adjOf n l)
  simp only [recv, recvVals, recvVal, treeV, recvCells, recvCell, hno, List.length_map, hl]
  rfl
theorem s46_bad {n : Int} {l : List (Int × Int)} (hg : ¬ (((1 ≤ n ∧ n ≤ 30) ∧ (l.length : Int) = n - 1) ∧ l.all (validB n) = true)) : ∀ kf, callN Try.prog polS (kf + 1) 46 [.int .i64 n, .imm .arg 2 (l.map encP)] [] = some (.tuple [.agg [.sl 0 0 0 none 0 0, .nilmap], .bool false], [.arr 0 [] true 0]) := fun kf => by
  rw [prim_call (pol := polS) (g := 46) (F := newTree46) (by kernel_rfl) (rs := [.int .i64 n, .imm .arg 2 (l.map encP)]) (by simp only [mapO, arg_pairs']; rfl) (res := .tuple [.agg [.own 0 [], .nilmap], .bool false]) (by simp only [newTree46, mapO_map decP_enc]; rw [newTreeF, if_neg hg])]
  rfl
theorem same_rows (adj : List (List Nat)) : sameH [.arr 1 (adj.map rowO) true 0] [.arr 1 (adj.map rowO) true 0] = true := same_arr fun v hv => by
  obtain ⟨r, _, rfl⟩ := List.mem_map.1 hv
  have : sameL (r.map encN) (r.map encN) = true := sameL_all fun v hv => by
    obtain ⟨k, _, rfl⟩ := List.mem_map.1 hv
    simp [encN, encI, same]
  simp [rowO, same, this]
theorem mem_start (adj : List (List Nat)) (T : Int → Int → Int) : Mem adj T [.arr 1 (adj.map rowO) true 0, .map [] [] 0] := by
  refine ⟨rfl, ⟨[], rfl⟩, ?_, by simp [mxs, Blk.mx]⟩
  have := same_rows adj
  simp only [sameH, Bool.and_eq_true] at this ⊢
  simp [this.1.1.1.2, sameL]
end Go.Proofs.Ytmhfkhlamnapdaa
end
section
open Go Go.HL
namespace Go.Proofs.Ytmhfkhlamnapdaa
theorem res24 : Try.f24.results.toList = [.tmp 6, .tmp 7] := by kernel_rfl
theorem res25 : Try.f25.results.toList = [.tmp 6, .tmp 7] := by kernel_rfl
def timeF (n : Int) (l : List (Int × Int)) (x : Int) : Int × Int := if treeOk n l = true ∧ (0 ≤ x ∧ x ≤ n - 1) then (tm (rowE l) x (-1), 0) else (0, 2)
def time24 : List HV → Option HV
  | [.int .i64 n, .imm .arg 2 lc, .int .i64 x] => match mapO decP lc with | some l => some (.tuple [.int .i64 (timeF n l x).1, .int .i64 (timeF n l x).2]) | none => none
  | _ => none
def pfarF (n : Int) (l : List (Int × Int)) (x : Int) : List Int × Int := if treeOk n l = true ∧ (0 ≤ x ∧ x ≤ n - 1) then (farF (adjOf n.toNat l) x.toNat, 0) else ([], 2)
def far25 : List HV → Option HV
  | [.int .i64 n, .imm .arg 2 lc, .int .i64 x] => match mapO decP lc with | some l => some (.tuple [.own 1 ((pfarF n l x).1.map encI), .int .i64 (pfarF n l x).2]) | none => none
  | _ => none
theorem s49 (a b : Int) (H : Heap) (r : Bool) (h : decide (0 ≤ a ∧ a ≤ b) = r) : ∀ kf, callN Try.prog polS (kf + 1) 49 [.int .i64 a, .int .i64 0, .int .i64 b] H = some (.bool r, H) := fun kf => by
  rw [prim_call (pol := polS) (g := 49) (F := withinF) (by kernel_rfl) (rs := [.int .i64 a, .int .i64 0, .int .i64 b]) rfl (res := .bool r) (by rw [← h]; rfl)]; rfl
theorem s50 {n : Nat} {l : List (Int × Int)} (hn : n ≤ 30) (hl : l.length ≤ 40) (hv : ∀ p ∈ l, validB (n : Int) p = true) {x : Int} (hx : 0 ≤ x ∧ x < (n : Int)) : ∀ kf, callN Try.prog polS (kf + 1) 50 [TV n, .int .i64 x] [.arr 1 ((adjOf n l).map rowO) true 0, .map [] [] 0, boxT n] = some (.sl 3 0 n none n 1, [.arr 1 ((adjOf n l).map rowO) true 0, .map [] [] 0, boxT n, bI (farF (adjOf n l) x.toNat)]) := fun kf => by
  have hA := adjOf_inv hv
  have hrow : ∀ rs : List (List Nat), mapO (toArg [.arr 1 ((adjOf n l).map rowO) true 0, .map [] [] 0, boxT n] 4) (rs.map rowO) = some (rs.map encR) := by
    intro rs
    induction rs with
    | nil => rfl
    | cons r rs ih =>
      have e : toArg [.arr 1 ((adjOf n l).map rowO) true 0, .map [] [] 0, boxT n] 4 (rowO r) = some (encR r) := by
        show (match argPL (r.map encN) with | some l => some (HV.imm .arg 1 l) | none => none) = _
        rw [rowI_enc, argP_ints', encR, rowI_enc]
      simp only [List.map_cons, mapO, e, ih]
  have ha : toArg [.arr 1 ((adjOf n l).map rowO) true 0, .map [] [] 0, boxT n] 6 (TV n) = some (.agg [.imm .arg 1 ((adjOf n l).map encR), .imap .arg [] []]) := by
    have e : toArg [.arr 1 ((adjOf n l).map rowO) true 0, .map [] [] 0, boxT n] 6 (TV n) = match mapO (toArg [.arr 1 ((adjOf n l).map rowO) true 0, .map [] [] 0, boxT n] 5) [.sl 0 0 n none n 1, .map 1] with | some l => some (.agg l) | none => none := rfl
    have e1 : toArg [.arr 1 ((adjOf n l).map rowO) true 0, .map [] [] 0, boxT n] 5 (.sl 0 0 n none n 1) = some (.imm .arg 1 ((adjOf n l).map encR)) := by
      have e : toArg [.arr 1 ((adjOf n l).map rowO) true 0, .map [] [] 0, boxT n] 5 (.sl 0 0 n none n 1) = if n = 0 then some (.imm .arg 1 []) else match view [.arr 1 ((adjOf n l).map rowO) true 0, .map [] [] 0, boxT n] 0 0 n n 1 with | some l' => (match mapO (toArg [.arr 1 ((adjOf n l).map rowO) true 0, .map [] [] 0, boxT n] 4) l' with | some l => some (.imm .arg 1 l) | none => none) | none => none := rfl
      have hv : view [.arr 1 ((adjOf n l).map rowO) true 0, .map [] [] 0, boxT n] 0 0 n n 1 = some ((adjOf n l).map rowO) := by
        have h0 : ([.arr 1 ((adjOf n l).map rowO) true 0, .map [] [] 0, boxT n] : Heap)[0]? = some (.arr 1 ((adjOf n l).map rowO) true 0) := rfl
        simp only [view, h0, List.length_map, hA.len]
        rw [if_pos ⟨trivial, by omega, trivial⟩, List.drop_zero, List.take_of_length_le (by rw [List.length_map, hA.len]; omega)]
      rw [e, if_neg (by omega), hv]
      simp only [hrow]
    have e2 : toArg [.arr 1 ((adjOf n l).map rowO) true 0, .map [] [] 0, boxT n] 5 (.map 1) = some (.imap .arg [] []) := rfl
    rw [e]
    simp only [mapO, e1, e2]
  have hok : rowsOk (adjOf n l) = true := rowsOk_iff.2 fun r hr => by
    have := hA.row r hr
    rw [hA.len]
    exact ⟨by omega, this.2⟩
  rw [prim_call (pol := polS) (g := 50) (F := far50) (by kernel_rfl) (rs := [.agg [.imm .arg 1 ((adjOf n l).map encR), .imap .arg [] []], .int .i64 x]) (by simp only [mapO, ha]; rfl) (res := .own 1 ((farF (adjOf n l) x.toNat).map encI)) (by
    simp only [far50, mapO_map decR_enc]
    rw [if_pos ⟨⟨by rw [hA.len]; omega, hok⟩, hx.1, by rw [hA.len]; exact hx.2⟩]), recv_ints]
  have hlen : (farF (adjOf n l) x.toNat).length = n := by rw [farF, bfs_len]; exact hA.len
  rw [hlen]
  rfl
theorem time24_ok : PrimOk Try.prog 24 time24 := by
  refine primOk_pure (pol := polS) (fn := Try.f24) (cd := B24) follows_mixed soundS (by kernel_rfl) (by kernel_rfl) (fnok polS.prim _ _ (by kernel_rfl)) (by kernel_rfl) ?_
  intro args res h
  unfold time24 at h
  split at h
  · rename_i n lc x
    split at h
    · rename_i l hl
      cases h
      rw [mapO_inv decP_inv hl]
      have a := tg_a_0 0 n (l.map encP) x
      by_cases hg : ((1 ≤ n ∧ n ≤ 30) ∧ (l.length : Int) = n - 1) ∧ l.all (validB n) = true
      · obtain ⟨m, rfl⟩ : ∃ m : Nat, n = (m : Int) := ⟨n.toNat, by omega⟩
        have hw : IntKind.i64.wrap ((m : Int) - 1) = (m : Int) - 1 := by rw [wrapI64]; omega
        cases hb : farOk (adjOf m l) with
        | true =>
          have hok : treeOk (m : Int) l = true := by rw [treeOk, Bool.and_eq_true, decide_eq_true_eq]; exact ⟨hg, by rw [Int.toNat_natCast]; exact hb⟩
          have b := tg_b_0 0 (m : Int) (l.map encP) x m _ (s46_ok hg true hb)
          by_cases hx : 0 ≤ x ∧ x ≤ (m : Int) - 1
          · have hF : timeF (m : Int) l x = (tm (rowE l) x (-1), 0) := by rw [timeF, if_pos ⟨hok, hx⟩]
            rw [hF]
            have c := tg_c_0 0 (m : Int) (l.map encP) x m ((adjOf m l).map rowO) (by rw [hw]; exact s49 _ _ _ true (decide_eq_true hx))
            have hM : Mem (adjOf m l) (tm (rowE l)) [.arr 1 ((adjOf m l).map rowO) true 0, .map [] [] 0, boxT m] := (mem_start (adjOf m l) (tm (rowE l))).app (same_T m) (by show 2 ≤ _; simp)
            obtain ⟨H1, hcl, _⟩ := (tree_time hok (x := x) (by omega)).1 _ hM
            obtain ⟨N, hN⟩ := hcl.from
            have z := tg_z_0 N (m : Int) (l.map encP) x m ((adjOf m l).map rowO) _ H1 hN
            have t1 := RunsTo.seq c z (c := sub [1, 1] B24) (by kernel_rfl) (by kernel_rfl)
            have t2 := RunsTo.seq b t1 (c := sub [1] B24) (by kernel_rfl) (by kernel_rfl)
            exact ⟨_, _, _, _, RunsTo.seq a t2 (c := B24) (by kernel_rfl) (by kernel_rfl), by simp, by simp only [resultsV, res24, mapO, resultV]; rfl, rfl⟩
          · have hF : timeF (m : Int) l x = (0, 2) := by rw [timeF, if_neg (fun h => hx h.2)]
            rw [hF]
            have c := tg_c_1 0 (m : Int) (l.map encP) x m ((adjOf m l).map rowO) (by rw [hw]; exact s49 _ _ _ false (decide_eq_false hx))
            have t2 := RunsTo.seq b (RunsTo.seq_out c (by simp) (c := sub [1, 1] B24) (b := sub [1, 1, 1] B24) (by kernel_rfl)) (c := sub [1] B24) (by kernel_rfl) (by kernel_rfl)
            exact ⟨_, _, _, _, RunsTo.seq a t2 (c := B24) (by kernel_rfl) (by kernel_rfl), by simp, by simp only [resultsV, res24, mapO, resultV]; rfl, rfl⟩
        | false =>
          have hok : ¬ treeOk (m : Int) l = true := by rw [treeOk, Bool.and_eq_true, Int.toNat_natCast, hb]; simp
          have hF : timeF (m : Int) l x = (0, 2) := by rw [timeF, if_neg (fun h => hok h.1)]
          rw [hF]
          have b := tg_b_1 0 (m : Int) (l.map encP) x m _ (s46_ok hg false hb)
          have c := tg_cf_0 0 (m : Int) (l.map encP) x m ((adjOf m l).map rowO)
          have t2 := RunsTo.seq b (RunsTo.seq_out c (by simp) (c := sub [1, 1] B24) (b := sub [1, 1, 1] B24) (by kernel_rfl)) (c := sub [1] B24) (by kernel_rfl) (by kernel_rfl)
          exact ⟨_, _, _, _, RunsTo.seq a t2 (c := B24) (by kernel_rfl) (by kernel_rfl), by simp, by simp only [resultsV, res24, mapO, resultV]; rfl, rfl⟩
      · have hok : ¬ treeOk n l = true := by rw [treeOk, Bool.and_eq_true, decide_eq_true_eq]; exact fun h => hg h.1
        have hF : timeF n l x = (0, 2) := by rw [timeF, if_neg (fun h => hok h.1)]
        rw [hF]
        have b := tg_b_2 0 n (l.map encP) x (s46_bad hg)
        have c := tg_cb_0 0 n (l.map encP) x
        have t2 := RunsTo.seq b (RunsTo.seq_out c (by simp) (c := sub [1, 1] B24) (b := sub [1, 1, 1] B24) (by kernel_rfl)) (c := sub [1] B24) (by kernel_rfl) (by kernel_rfl)
        exact ⟨_, _, _, _, RunsTo.seq a t2 (c := B24) (by kernel_rfl) (by kernel_rfl), by simp, by simp only [resultsV, res24, mapO, resultV]; rfl, rfl⟩
    · cases h
  · cases h
theorem far25_ok : PrimOk Try.prog 25 far25 := by
  refine primOk_pure (pol := polS) (fn := Try.f25) (cd := B25) follows_mixed soundS (by kernel_rfl) (by kernel_rfl) (fnok polS.prim _ _ (by kernel_rfl)) (by kernel_rfl) ?_
  intro args res h
  unfold far25 at h
  split at h
  · rename_i n lc x
    split at h
    · rename_i l hl
      cases h
      rw [mapO_inv decP_inv hl]
      have a := fr_a_0 0 n (l.map encP) x
      by_cases hg : ((1 ≤ n ∧ n ≤ 30) ∧ (l.length : Int) = n - 1) ∧ l.all (validB n) = true
      · obtain ⟨m, rfl⟩ : ∃ m : Nat, n = (m : Int) := ⟨n.toNat, by omega⟩
        have hw : IntKind.i64.wrap ((m : Int) - 1) = (m : Int) - 1 := by rw [wrapI64]; omega
        cases hb : farOk (adjOf m l) with
        | true =>
          have hok : treeOk (m : Int) l = true := by rw [treeOk, Bool.and_eq_true, decide_eq_true_eq]; exact ⟨hg, by rw [Int.toNat_natCast]; exact hb⟩
          have b := fr_b_0 0 (m : Int) (l.map encP) x m _ (s46_ok hg true hb)
          by_cases hx : 0 ≤ x ∧ x ≤ (m : Int) - 1
          · have hF : pfarF (m : Int) l x = (farF (adjOf m l) x.toNat, 0) := by rw [pfarF, if_pos ⟨hok, hx⟩, Int.toNat_natCast]
            rw [hF]
            have c := fr_c_0 0 (m : Int) (l.map encP) x m ((adjOf m l).map rowO) (by rw [hw]; exact s49 _ _ _ true (decide_eq_true hx))
            have z := fr_z_0 0 (m : Int) (l.map encP) x m ((adjOf m l).map rowO) _ _ (s50 (by omega) (by omega) (List.all_eq_true.1 hg.2) (by omega))
            have hlen : (farF (adjOf m l) x.toNat).length = m := by rw [farF, bfs_len]; exact (adjOf_inv (List.all_eq_true.1 hg.2)).len
            have t1 := RunsTo.seq c z (c := sub [1, 1] B25) (by kernel_rfl) (by kernel_rfl)
            have t2 := RunsTo.seq b t1 (c := sub [1] B25) (by kernel_rfl) (by kernel_rfl)
            exact ⟨_, _, _, _, RunsTo.seq a t2 (c := B25) (by kernel_rfl) (by kernel_rfl), by simp, by simp only [resultsV, res25, mapO, resultV]; rfl, res_out (b := 3) rfl hlen [0]⟩
          · have hF : pfarF (m : Int) l x = ([], 2) := by rw [pfarF, if_neg (fun h => hx h.2)]
            rw [hF]
            have c := fr_c_1 0 (m : Int) (l.map encP) x m ((adjOf m l).map rowO) (by rw [hw]; exact s49 _ _ _ false (decide_eq_false hx))
            have t2 := RunsTo.seq b (RunsTo.seq_out c (by simp) (c := sub [1, 1] B25) (b := sub [1, 1, 1] B25) (by kernel_rfl)) (c := sub [1] B25) (by kernel_rfl) (by kernel_rfl)
            exact ⟨_, _, _, _, RunsTo.seq a t2 (c := B25) (by kernel_rfl) (by kernel_rfl), by simp, by simp only [resultsV, res25, mapO, resultV]; rfl, rfl⟩
        | false =>
          have hok : ¬ treeOk (m : Int) l = true := by rw [treeOk, Bool.and_eq_true, Int.toNat_natCast, hb]; simp
          have hF : pfarF (m : Int) l x = ([], 2) := by rw [pfarF, if_neg (fun h => hok h.1)]
          rw [hF]
          have b := fr_b_1 0 (m : Int) (l.map encP) x m _ (s46_ok hg false hb)
          have c := fr_cf_0 0 (m : Int) (l.map encP) x m ((adjOf m l).map rowO)
          have t2 := RunsTo.seq b (RunsTo.seq_out c (by simp) (c := sub [1, 1] B25) (b := sub [1, 1, 1] B25) (by kernel_rfl)) (c := sub [1] B25) (by kernel_rfl) (by kernel_rfl)
          exact ⟨_, _, _, _, RunsTo.seq a t2 (c := B25) (by kernel_rfl) (by kernel_rfl), by simp, by simp only [resultsV, res25, mapO, resultV]; rfl, rfl⟩
      · have hok : ¬ treeOk n l = true := by rw [treeOk, Bool.and_eq_true, decide_eq_true_eq]; exact fun h => hg h.1
        have hF : pfarF n l x = ([], 2) := by rw [pfarF, if_neg (fun h => hok h.1)]
        rw [hF]
        have b := fr_b_2 0 n (l.map encP) x (s46_bad hg)
        have c := fr_cb_0 0 n (l.map encP) x
        have t2 := RunsTo.seq b (RunsTo.seq_out c (by simp) (c := sub [1, 1] B25) (b := sub [1, 1, 1] B25) (by kernel_rfl)) (c := sub [1] B25) (by kernel_rfl) (by kernel_rfl)
        exact ⟨_, _, _, _, RunsTo.seq a t2 (c := B25) (by kernel_rfl) (by kernel_rfl), by simp, by simp only [resultsV, res25, mapO, resultV]; rfl, rfl⟩
    · cases h
  · cases h
end Go.Proofs.Ytmhfkhlamnapdaa
end
section
open Go Go.HL
namespace Go.Proofs.Ytmhfkhlamnapdaa
set_option maxRecDepth 100000
noncomputable def B23 : Code := Try.f23.body.getD .skip
abbrev env23 (v0 v1 v4 v5 v6 v7 : HV) : Env := [(0, v0), (1, v1), (4, v4), (5, v5), (6, v6), (7, v7)]
theorem tm_a_0 (la : List HV) (n : Int)   : RunsTo Try.prog polC 23 (sub [0] B23) [(0, .imm .arg 1 la), (1, .int .i64 n)] [] (.normal) (polC.keys 23) (env23 (.imm .arg 1 la) (.int .i64 n) (.imm .lit 2 []) .undef .undef .undef) [] :=
  RunsTo.hint 1 60 [] fun kf hk => by
    obtain ⟨kf, rfl⟩ : ∃ n, kf = n + 1 := ⟨kf - 1, by omega⟩
    exact ⟨[], by kernel_rfl, Obls.nil⟩
theorem tm_b_0 (la : List HV) (n : Int)   : RunsTo Try.prog polC 23 (sub [1, 0] B23) (env23 (.imm .arg 1 la) (.int .i64 n) (.imm .lit 2 []) .undef .undef .undef) [] (.normal) (polC.keys 23) (env23 (.imm .arg 1 la) (.int .i64 n) (.imm .lit 2 []) (.sl 0 0 0 none 0 2) .undef .undef) [.arr 2 [] true 0] :=
  RunsTo.hint 1 60 [] fun kf hk => by
    obtain ⟨kf, rfl⟩ : ∃ n, kf = n + 1 := ⟨kf - 1, by omega⟩
    exact ⟨[], by kernel_rfl, Obls.nil⟩
theorem tm_c_0 (la : List HV) (n : Int) (els : List HV) (p : Nat)   : RunsTo Try.prog polC 23 (sub [1, 1, 0, 0] B23) (env23 (.imm .arg 1 la) (.int .i64 n) (.imm .lit 2 []) (.sl 0 0 p none p 2) .undef .undef) [.arr 2 els true 0] (.normal) (polC.keys 23) (env23 (.imm .arg 1 la) (.int .i64 n) (.imm .lit 2 []) (.sl 0 0 p none p 2) (.int .i64 1) .undef) [.arr 2 els true 0] :=
  RunsTo.hint 1 60 [] fun kf hk => by
    obtain ⟨kf, rfl⟩ : ∃ n, kf = n + 1 := ⟨kf - 1, by omega⟩
    exact ⟨[], by kernel_rfl, Obls.nil⟩
theorem tm_l_0 (la : List HV) (n : Int) (els : List HV) (p : Nat) (j : Nat) (x0 : Int) (r0 : Int) (g0 : (j : Int) < n) (g1 : (j : Int) < (la.length : Int)) (g2 : idxV Try.prog 24 (.imm .arg 1 la) (.int .i64 (j : Int)) = some (.vptr (.int .i64 x0))) (g3 : ∀ kf, callN Try.prog polC (kf + 1) 22 [.int .i64 x0, .int .i64 (j : Int)] [.arr 2 els true 0] = some (.int .i64 r0, [.arr 2 els true 0])) (g4 : appV [.arr 2 els true 0] 2 16 (.sl 0 0 p none p 2) [.agg [.int .i64 r0, .int .i64 (j : Int)]] = some (.sl 0 0 (p + 1) none (p + 1) 2, [.arr 2 (els ++ [.agg [.int .i64 r0, .int .i64 (j : Int)]]) true 0])) : RunsTo Try.prog polC 23 (sub [1, 1, 0, 1, 0, 0] B23) (env23 (.imm .arg 1 la) (.int .i64 n) (.imm .lit 2 []) (.sl 0 0 p none p 2) (.int .i64 (j : Int)) .undef) [.arr 2 els true 0] (.normal) (polC.keys 23) (env23 (.imm .arg 1 la) (.int .i64 n) (.imm .lit 2 []) (.sl 0 0 (p + 1) none (p + 1) 2) (.int .i64 (IntKind.i64.wrap ((j : Int) + 1))) (.int .i64 r0)) [.arr 2 (els ++ [.agg [.int .i64 r0, .int .i64 (j : Int)]]) true 0] :=
  RunsTo.hint 1 60 [⟨3, 2, .bool true, [.arr 2 els true 0]⟩, ⟨6, 3, .bool true, [.arr 2 els true 0]⟩, ⟨7, 2, .vptr (.int .i64 x0), [.arr 2 els true 0]⟩, ⟨7, 5, .int .i64 r0, [.arr 2 els true 0]⟩, ⟨8, 5, .sl 0 0 (p + 1) none (p + 1) 2, [.arr 2 (els ++ [.agg [.int .i64 r0, .int .i64 (j : Int)]]) true 0]⟩] fun kf hk => by
    obtain ⟨kf, rfl⟩ : ∃ n, kf = n + 1 := ⟨kf - 1, by omega⟩
    exact ⟨[some (HV.bool (decide ((j : Int) < n)), ([.arr 2 els true 0] : Heap)) = some (.bool true, [.arr 2 els true 0]), some (HV.bool (decide ((j : Int) < (la.length : Int))), ([.arr 2 els true 0] : Heap)) = some (.bool true, [.arr 2 els true 0]), (idxV Try.prog 24 (.imm .arg 1 la) (.int .i64 (j : Int))).map (fun v => (v, ([.arr 2 els true 0] : Heap))) = some (.vptr (.int .i64 x0), [.arr 2 els true 0]), callN Try.prog polC (kf + 1) 22 [.int .i64 x0, .int .i64 (j : Int)] [.arr 2 els true 0] = some (.int .i64 r0, [.arr 2 els true 0]), appV [.arr 2 els true 0] 2 16 (.sl 0 0 p none p 2) [.agg [.int .i64 r0, .int .i64 (j : Int)]] = some (.sl 0 0 (p + 1) none (p + 1) 2, [.arr 2 (els ++ [.agg [.int .i64 r0, .int .i64 (j : Int)]]) true 0])], by kernel_rfl, Obls.cons (hintB (decide_eq_true g0)) (Obls.cons (hintB (decide_eq_true g1)) (Obls.cons (hintOp g2) (Obls.cons (g3 kf) (Obls.cons (g4) Obls.nil))))⟩
theorem tm_l_1 (la : List HV) (n : Int) (els : List HV) (p : Nat) (j : Nat)  (g0 : (j : Int) < n) (g1 : ¬ ((j : Int) < (la.length : Int))) (g2 : appV [.arr 2 els true 0] 2 16 (.sl 0 0 p none p 2) [.agg [.int .i64 (IntKind.i64.wrap ((j : Int) - 1)), .int .i64 (j : Int)]] = some (.sl 0 0 (p + 1) none (p + 1) 2, [.arr 2 (els ++ [.agg [.int .i64 (IntKind.i64.wrap ((j : Int) - 1)), .int .i64 (j : Int)]]) true 0])) : RunsTo Try.prog polC 23 (sub [1, 1, 0, 1, 0, 0] B23) (env23 (.imm .arg 1 la) (.int .i64 n) (.imm .lit 2 []) (.sl 0 0 p none p 2) (.int .i64 (j : Int)) .undef) [.arr 2 els true 0] (.normal) (polC.keys 23) (env23 (.imm .arg 1 la) (.int .i64 n) (.imm .lit 2 []) (.sl 0 0 (p + 1) none (p + 1) 2) (.int .i64 (IntKind.i64.wrap ((j : Int) + 1))) (.int .i64 (IntKind.i64.wrap ((j : Int) - 1)))) [.arr 2 (els ++ [.agg [.int .i64 (IntKind.i64.wrap ((j : Int) - 1)), .int .i64 (j : Int)]]) true 0] :=
  RunsTo.hint 1 60 [⟨3, 2, .bool true, [.arr 2 els true 0]⟩, ⟨6, 3, .bool false, [.arr 2 els true 0]⟩, ⟨8, 5, .sl 0 0 (p + 1) none (p + 1) 2, [.arr 2 (els ++ [.agg [.int .i64 (IntKind.i64.wrap ((j : Int) - 1)), .int .i64 (j : Int)]]) true 0]⟩] fun kf hk => by
    obtain ⟨kf, rfl⟩ : ∃ n, kf = n + 1 := ⟨kf - 1, by omega⟩
    exact ⟨[some (HV.bool (decide ((j : Int) < n)), ([.arr 2 els true 0] : Heap)) = some (.bool true, [.arr 2 els true 0]), some (HV.bool (decide ((j : Int) < (la.length : Int))), ([.arr 2 els true 0] : Heap)) = some (.bool false, [.arr 2 els true 0]), appV [.arr 2 els true 0] 2 16 (.sl 0 0 p none p 2) [.agg [.int .i64 (IntKind.i64.wrap ((j : Int) - 1)), .int .i64 (j : Int)]] = some (.sl 0 0 (p + 1) none (p + 1) 2, [.arr 2 (els ++ [.agg [.int .i64 (IntKind.i64.wrap ((j : Int) - 1)), .int .i64 (j : Int)]]) true 0])], by kernel_rfl, Obls.cons (hintB (decide_eq_true g0)) (Obls.cons (hintB (decide_eq_false g1)) (Obls.cons (g2) Obls.nil))⟩
theorem tm_l_2 (la : List HV) (n : Int) (els : List HV) (p : Nat) (j : Nat)  (g0 : ¬ ((j : Int) < n)) : RunsTo Try.prog polC 23 (sub [1, 1, 0, 1, 0, 0] B23) (env23 (.imm .arg 1 la) (.int .i64 n) (.imm .lit 2 []) (.sl 0 0 p none p 2) (.int .i64 (j : Int)) .undef) [.arr 2 els true 0] (.exit 0) (polC.keys 23) (env23 (.imm .arg 1 la) (.int .i64 n) (.imm .lit 2 []) (.sl 0 0 p none p 2) (.int .i64 (j : Int)) .undef) [.arr 2 els true 0] :=
  RunsTo.hint 1 60 [⟨3, 2, .bool false, [.arr 2 els true 0]⟩] fun kf hk => by
    obtain ⟨kf, rfl⟩ : ∃ n, kf = n + 1 := ⟨kf - 1, by omega⟩
    exact ⟨[some (HV.bool (decide ((j : Int) < n)), ([.arr 2 els true 0] : Heap)) = some (.bool false, [.arr 2 els true 0])], by kernel_rfl, Obls.cons (hintB (decide_eq_false g0)) Obls.nil⟩
theorem tm_z_0 (la : List HV) (n : Int) (els : List HV) (p : Nat) (j : Nat)   : RunsTo Try.prog polC 23 (sub [1, 1, 1] B23) (env23 (.imm .arg 1 la) (.int .i64 n) (.imm .lit 2 []) (.sl 0 0 p none p 2) (.int .i64 (j : Int)) .undef) [.arr 2 els true 0] (.ret) (polC.keys 23) (env23 (.imm .arg 1 la) (.int .i64 n) (.sl 0 0 p none p 2) (.sl 0 0 p none p 2) (.int .i64 (j : Int)) .undef) [.arr 2 els true 0] :=
  RunsTo.hint 1 60 [] fun kf hk => by
    obtain ⟨kf, rfl⟩ : ∃ n, kf = n + 1 := ⟨kf - 1, by omega⟩
    exact ⟨[], by kernel_rfl, Obls.nil⟩
end Go.Proofs.Ytmhfkhlamnapdaa
end
section
open Go Go.HL
namespace Go.Proofs.Ytmhfkhlamnapdaa
/-- The place that place j is joined to. -/
def tameAt (l : List Int) (j : Nat) : Int := match l[j]? with | some x => modW x (j : Int) | none => (j : Int) - 1
def tameGo (l : List Int) : Nat → Nat → List (Int × Int) → List (Int × Int)
  | _, 0, acc => acc
  | j, d + 1, acc => tameGo l (j + 1) d (acc ++ [(tameAt l j, (j : Int))])
def tameL (l : List Int) (m : Nat) : List (Int × Int) := tameGo l 1 (m - 1) []
theorem u24t : Try.prog.underlying 24 = some (.slice 3) := by kernel_rfl
theorem z3t : tySize Try.prog 3 = some 1 := by kernel_rfl
abbrev tmE (la : List HV) (m : Nat) (p j : Nat) : Env := env23 (.imm .arg 1 la) (.int .i64 (m : Int)) (.imm .lit 2 []) (.sl 0 0 p none p 2) (.int .i64 (j : Int)) .undef
theorem tame_loop (l : List Int) (m : Nat) (hm : m ≤ 1000) : ∀ (d j : Nat) (acc : List (Int × Int)), j + d = m → 0 < j → acc.length ≤ j →
    RunsTo Try.prog polC 23 (sub [1, 1, 0, 1, 0] B23) (tmE (l.map encI) m acc.length j) [bPs acc]
      (.exit 0) (polC.keys 23) (tmE (l.map encI) m (tameGo l j d acc).length m) [bPs (tameGo l j d acc)] := by
  intro d
  induction d with
  | zero =>
    intro j acc hj h0 ha
    have hj : j = m := by omega
    subst hj
    exact RunsTo.loop_out (tm_l_2 (l.map encI) (j : Int) (acc.map encP) acc.length j (by omega)) (by simp) (by kernel_rfl) (by kernel_rfl)
  | succ d ih =>
    intro j acc hj h0 ha
    have h := ih (j + 1) (acc ++ [(tameAt l j, (j : Int))]) (by omega) (by omega) (by simp only [List.length_append, List.length_singleton]; omega)
    rw [show tameGo l j (d + 1) acc = tameGo l (j + 1) d (acc ++ [(tameAt l j, (j : Int))]) from rfl]
    have hap : ∀ y : Int, appV [bPs acc] 2 16 (.sl 0 0 acc.length none acc.length 2) [.agg [.int .i64 y, .int .i64 (j : Int)]] = some (.sl 0 0 (acc.length + 1) none (acc.length + 1) 2, [.arr 2 (acc.map encP ++ [.agg [.int .i64 y, .int .i64 (j : Int)]]) true 0]) := fun y =>
      app_sl (H := [bPs acc]) (k := 2) (bytes := 16) (b := 0) (n := acc.length) (mx := 0) (els := acc.map encP) (xs := [encP (y, (j : Int))]) rfl (by simp) (by simp) (by simp only [List.length_singleton, roomMax]; omega) rfl
    have e1 : ∀ y : Int, (acc ++ [(y, (j : Int))]).map encP = acc.map encP ++ [.agg [.int .i64 y, .int .i64 (j : Int)]] := fun y => by simp [encP]
    have e2 : ∀ y : Int, (acc ++ [(y, (j : Int))]).length = acc.length + 1 := fun y => by simp
    unfold bPs at h
    rw [e1, e2] at h
    by_cases hjl : j < l.length
    · have ga : (l.map encI)[j]? = some (encI l[j]) := by rw [List.getElem?_map, List.getElem?_eq_getElem hjl]; rfl
      have g1 : idxV Try.prog 24 (.imm .arg 1 (l.map encI)) (.int .i64 (j : Int)) = some (.vptr (.int .i64 l[j])) := idx_imm u24t z3t (by omega) (by rw [Int.toNat_natCast]; exact ga)
      have ht : tameAt l j = modW l[j] (j : Int) := by rw [tameAt, List.getElem?_eq_getElem hjl]
      rw [ht] at h ⊢
      have gm : ∀ (k : Nat), callN Try.prog polC (k + 1) 22 [.int .i64 l[j], .int .i64 (j : Int)] [bPs acc] = some (.int .i64 (modW l[j] (j : Int)), [bPs acc]) := fun k => by
        rw [prim_call (pol := polC) (g := 22) (F := modF) (by kernel_rfl) (rs := [.int .i64 l[j], .int .i64 (j : Int)]) rfl (res := .int .i64 (modW l[j] (j : Int))) (by simp only [modF]; rw [if_pos ⟨by omega, by omega⟩])]; rfl
      have s1 := tm_l_0 (l.map encI) (m : Int) (acc.map encP) acc.length j _ _ (by omega) (by rw [List.length_map]; omega) g1 gm (hap _)
      rw [wrap_succ (by omega)] at s1
      exact RunsTo.loop s1 (by kernel_rfl) (gc_same (by simp)) h rfl (by kernel_rfl) (by kernel_rfl)
    · have ht : tameAt l j = (j : Int) - 1 := by rw [tameAt, List.getElem?_eq_none (by omega)]
      have hw : IntKind.i64.wrap ((j : Int) - 1) = (j : Int) - 1 := by rw [wrapI64]; omega
      rw [ht] at h ⊢
      have s1 := tm_l_1 (l.map encI) (m : Int) (acc.map encP) acc.length j (by omega) (by rw [List.length_map]; omega) (by rw [hw]; exact hap _)
      rw [hw, wrap_succ (by omega)] at s1
      exact RunsTo.loop s1 (by kernel_rfl) (gc_same (by simp)) h rfl (by kernel_rfl) (by kernel_rfl)
def tame23 : List HV → Option HV
  | [.imm .arg 1 la, .int .i64 n] => match mapO decI la with | some l => if 1 ≤ n ∧ n ≤ 1000 then some (.own 2 ((tameL l n.toNat).map encP)) else none | none => none
  | _ => none
theorem res23 : Try.f23.results.toList = [.tmp 4] := by kernel_rfl
theorem tame_ok : PrimOk Try.prog 23 tame23 := by
  refine primOk_pure (pol := polC) (fn := Try.f23) (cd := B23) follows_mixed soundC (by kernel_rfl) (by kernel_rfl) (fnok polC.prim _ _ (by kernel_rfl)) (by kernel_rfl) ?_
  intro args res h
  unfold tame23 at h
  split at h
  · rename_i la n
    split at h
    · rename_i l hl
      split at h
      · rename_i hn
        cases h
        rw [mapO_inv decI_inv hl]
        obtain ⟨m, rfl⟩ : ∃ m : Nat, n = (m : Int) := ⟨n.toNat, by omega⟩
        rw [Int.toNat_natCast]
        have a1 := tm_a_0 (l.map encI) (m : Int)
        have b1 := tm_b_0 (l.map encI) (m : Int)
        have c1 := tm_c_0 (l.map encI) (m : Int) [] 0
        have l1 := tame_loop l m (by omega) (m - 1) 1 [] (by omega) (by omega) (by simp)
        have z1 := tm_z_0 (l.map encI) (m : Int) ((tameL l m).map encP) (tameL l m).length m
        have t1 := RunsTo.seq c1 (RunsTo.block_exit (c := sub [1, 1, 0, 1] B23) l1 (by kernel_rfl)) (c := sub [1, 1, 0] B23) (by kernel_rfl) (by kernel_rfl)
        have t2 := RunsTo.seq t1 z1 (c := sub [1, 1] B23) (by kernel_rfl) (by kernel_rfl)
        have t3 := RunsTo.seq b1 t2 (c := sub [1] B23) (by kernel_rfl) (by kernel_rfl)
        have t4 := RunsTo.seq a1 t3 (c := B23) (by kernel_rfl) (by kernel_rfl)
        have hr := resCell_sl (H := [bPs (tameL l m)]) (no := [0]) (b := 0) (k := 2) (m := (tameL l m).length) (cap := none) (els := (tameL l m).map encP) rfl (by simp) (mapO_self (fun r => frz_pair r) _)
        have ho : ownedAll [bPs (tameL l m)] false (.sl 0 0 (tameL l m).length none (tameL l m).length 2) = [0] := rfl
        refine ⟨_, _, _, .sl 0 0 (tameL l m).length none (tameL l m).length 2, t4, by simp, by simp only [resultsV, res23]; rfl, ?_⟩
        show toRes _ false _ = _
        simp only [toRes, ho, List.nodup_cons, List.not_mem_nil, not_false_eq_true, List.nodup_nil, and_self, if_true, resVal, hr]
      · cases h
    · cases h
  · cases h
end Go.Proofs.Ytmhfkhlamnapdaa
end
section
open Go Go.HL
namespace Go.Proofs.Ytmhfkhlamnapdaa
set_option maxRecDepth 100000
noncomputable def B26 : Code := Try.f26.body.getD .skip
abbrev env26 (v0 v1 v2 v6 : HV) : Env := [(0, v0), (1, v1), (2, v2), (6, v6)]
theorem nq_a_0 (n : Int) (lc : List HV) (x : Int) (m : Nat) (os : List HV) (g0 : ∀ kf, callN Try.prog polN (kf + 1) 51 [.int .i64 n, .imm .arg 2 lc, .int .i64 x] [] = some (.sl 0 0 m none m 1, [.arr 1 os true 0])) : RunsTo Try.prog polN 26 (sub [] B26) [(0, .int .i64 n), (1, .imm .arg 2 lc), (2, .int .i64 x)] [] (.ret) (polN.keys 26) (env26 (.int .i64 n) (.imm .arg 2 lc) (.int .i64 x) (.int .i64 (m : Int))) [.arr 1 os true 0] :=
  RunsTo.hint 1 60 [⟨1, 3, .sl 0 0 m none m 1, [.arr 1 os true 0]⟩] fun kf hk => by
    obtain ⟨kf, rfl⟩ : ∃ n, kf = n + 1 := ⟨kf - 1, by omega⟩
    exact ⟨[callN Try.prog polN (kf + 1) 51 [.int .i64 n, .imm .arg 2 lc, .int .i64 x] [] = some (.sl 0 0 m none m 1, [.arr 1 os true 0])], by kernel_rfl, Obls.cons (g0 kf) Obls.nil⟩
end Go.Proofs.Ytmhfkhlamnapdaa
end
section
open Go Go.HL
namespace Go.Proofs.Ytmhfkhlamnapdaa
theorem res26 : Try.f26.results.toList = [.tmp 6] := by kernel_rfl
def neigh26 : List HV → Option HV
  | [.int .i64 n, .imm .arg 2 lc, .int .i64 x] =>
    match mapO decP lc with
    | some l => if ((0 ≤ n ∧ n ≤ 1000) ∧ l.length ≤ 1000) ∧ (l.all fun p => decide ((0 ≤ p.1 ∧ p.1 < n) ∧ (0 ≤ p.2 ∧ p.2 < n))) = true then some (.int .i64 ((nbrs n.toNat l x).length : Int)) else none
    | none => none
  | _ => none
theorem neigh_ok : PrimOk Try.prog 26 neigh26 := by
  refine primOk_pure (pol := polN) (fn := Try.f26) (cd := B26) follows_mixed soundN (by kernel_rfl) (by kernel_rfl) (fnok polN.prim _ _ (by kernel_rfl)) (by kernel_rfl) ?_
  intro args res h
  unfold neigh26 at h
  split at h
  · rename_i n lc x
    split at h
    · rename_i l hl
      split at h
      · rename_i hg
        cases h
        rw [mapO_inv decP_inv hl]
        have c51 : ∀ kf, callN Try.prog polN (kf + 1) 51 [.int .i64 n, .imm .arg 2 (l.map encP), .int .i64 x] [] = some (.sl 0 0 (nbrs n.toNat l x).length none (nbrs n.toNat l x).length 1, [bI (nbrs n.toNat l x)]) := fun kf => by
          rw [prim_call (pol := polN) (g := 51) (F := nbrs51) (by kernel_rfl) (rs := [.int .i64 n, .imm .arg 2 (l.map encP), .int .i64 x]) (by
            have ha : toArg [] 6 (.imm .arg 2 (l.map encP)) = some (.imm .arg 2 (l.map encP)) := by
              show argP (.imm .arg 2 (l.map encP)) = _
              simp only [argP, argP_pairs]
            simp only [mapO, ha]; rfl) (res := .own 1 ((nbrs n.toNat l x).map encI)) (by
            simp only [nbrs51, mapO_map decP_enc]
            rw [if_pos hg]), recv_ints]
          rfl
        have t := nq_a_0 n (l.map encP) x _ _ c51
        exact ⟨_, _, _, _, t, by simp, by simp only [resultsV, res26, mapO, resultV]; rfl, rfl⟩
      · cases h
    · cases h
  · cases h
/-- The policy of the law on times and lengths. -/
def primJ (g : FuncId) : Option (List HV → Option HV) :=
  if g == 19 then some awakeF else if g == 22 then some modF else if g == 23 then some tame23 else if g == 24 then some time24 else if g == 25 then some far25 else if g == 26 then some neigh26 else none
def polJ : Pol := { pol with prim := primJ }
theorem primJ_ok (g : FuncId) (f : List HV → Option HV) (h : primJ g = some f) : PrimOk Try.prog g f := by
  unfold primJ at h
  split at h
  · rename_i hg; cases h; rw [eq_of_beq hg]; exact awake_prim
  split at h
  · rename_i hg; cases h; rw [eq_of_beq hg]; exact mod_ok
  split at h
  · rename_i hg; cases h; rw [eq_of_beq hg]; exact tame_ok
  split at h
  · rename_i hg; cases h; rw [eq_of_beq hg]; exact time24_ok
  split at h
  · rename_i hg; cases h; rw [eq_of_beq hg]; exact far25_ok
  split at h
  · rename_i hg; cases h; rw [eq_of_beq hg]; exact neigh_ok
  · cases h
theorem soundJ (n : Nat) : CallSound Try.prog (callN Try.prog polJ n) := sound_prim primJ primJ_ok n
end Go.Proofs.Ytmhfkhlamnapdaa
end
section
open Go Go.HL
namespace Go.Proofs.Ytmhfkhlamnapdaa
set_option maxRecDepth 100000
noncomputable def B5 : Code := Try.f5.body.getD .skip
abbrev env5 (v0 v1 v2 v6 v7 v8 v9 v10 v11 v12 v13 v14 : HV) : Env := [(0, v0), (1, v1), (2, v2), (6, v6), (7, v7), (8, v8), (9, v9), (10, v10), (11, v11), (12, v12), (13, v13), (14, v14)]
theorem bw_a_0 (n : Int) (la : List HV) (x : Int)   : RunsTo Try.prog polJ 5 (sub [0] B5) [(0, .int .i64 n), (1, .imm .arg 1 la), (2, .int .i64 x)] [] (.normal) (polJ.keys 5) (env5 (.int .i64 n) (.imm .arg 1 la) (.int .i64 x) (.bool false) .undef .undef .undef .undef .undef .undef .undef .undef) [] :=
  RunsTo.hint 1 60 [] fun kf hk => by
    obtain ⟨kf, rfl⟩ : ∃ n, kf = n + 1 := ⟨kf - 1, by omega⟩
    exact ⟨[], by kernel_rfl, Obls.nil⟩
theorem bw_b_0 (n : Int) (la : List HV) (x : Int) (r0 : Int) (g0 : ∀ kf, callN Try.prog polJ (kf + 1) 22 [.int .i64 n, .int .i64 30] [] = some (.int .i64 r0, [])) : RunsTo Try.prog polJ 5 (sub [1, 0] B5) (env5 (.int .i64 n) (.imm .arg 1 la) (.int .i64 x) (.bool false) .undef .undef .undef .undef .undef .undef .undef .undef) [] (.normal) (polJ.keys 5) (env5 (.int .i64 (IntKind.i64.wrap (1 + r0))) (.imm .arg 1 la) (.int .i64 x) (.bool false) .undef .undef .undef .undef .undef .undef .undef .undef) [] :=
  RunsTo.hint 1 60 [⟨1, 1, .int .i64 r0, []⟩] fun kf hk => by
    obtain ⟨kf, rfl⟩ : ∃ n, kf = n + 1 := ⟨kf - 1, by omega⟩
    exact ⟨[callN Try.prog polJ (kf + 1) 22 [.int .i64 n, .int .i64 30] [] = some (.int .i64 r0, [])], by kernel_rfl, Obls.cons (g0 kf) Obls.nil⟩
theorem bw_c_0 (n : Int) (la : List HV) (x : Int) (m : Nat) (els : List HV) (g0 : ∀ kf, callN Try.prog polJ (kf + 1) 23 [.imm .arg 1 la, .int .i64 n] [] = some (.sl 0 0 m none m 2, [.arr 2 els true 0])) : RunsTo Try.prog polJ 5 (sub [1, 1, 0] B5) (env5 (.int .i64 n) (.imm .arg 1 la) (.int .i64 x) (.bool false) .undef .undef .undef .undef .undef .undef .undef .undef) [] (.normal) (polJ.keys 5) (env5 (.int .i64 n) (.imm .arg 1 la) (.int .i64 x) (.bool false) (.sl 0 0 m none m 2) .undef .undef .undef .undef .undef .undef .undef) [.arr 2 els true 0] :=
  RunsTo.hint 1 60 [⟨2, 2, .sl 0 0 m none m 2, [.arr 2 els true 0]⟩] fun kf hk => by
    obtain ⟨kf, rfl⟩ : ∃ n, kf = n + 1 := ⟨kf - 1, by omega⟩
    exact ⟨[callN Try.prog polJ (kf + 1) 23 [.imm .arg 1 la, .int .i64 n] [] = some (.sl 0 0 m none m 2, [.arr 2 els true 0])], by kernel_rfl, Obls.cons (g0 kf) Obls.nil⟩
theorem bw_d_0 (n : Int) (la : List HV) (x : Int) (m : Nat) (els : List HV) (r0 : Int) (g0 : ∀ kf, callN Try.prog polJ (kf + 1) 22 [.int .i64 x, .int .i64 n] [.arr 2 els true 0] = some (.int .i64 r0, [.arr 2 els true 0])) : RunsTo Try.prog polJ 5 (sub [1, 1, 1, 0] B5) (env5 (.int .i64 n) (.imm .arg 1 la) (.int .i64 x) (.bool false) (.sl 0 0 m none m 2) .undef .undef .undef .undef .undef .undef .undef) [.arr 2 els true 0] (.normal) (polJ.keys 5) (env5 (.int .i64 n) (.imm .arg 1 la) (.int .i64 r0) (.bool false) (.sl 0 0 m none m 2) .undef .undef .undef .undef .undef .undef .undef) [.arr 2 els true 0] :=
  RunsTo.hint 1 60 [⟨3, 2, .int .i64 r0, [.arr 2 els true 0]⟩] fun kf hk => by
    obtain ⟨kf, rfl⟩ : ∃ n, kf = n + 1 := ⟨kf - 1, by omega⟩
    exact ⟨[callN Try.prog polJ (kf + 1) 22 [.int .i64 x, .int .i64 n] [.arr 2 els true 0] = some (.int .i64 r0, [.arr 2 els true 0])], by kernel_rfl, Obls.cons (g0 kf) Obls.nil⟩
theorem bw_e_0 (n : Int) (la : List HV) (x : Int) (m : Nat) (els : List HV) (t0 : Int) (e0 : Int) (g0 : ∀ kf, callN Try.prog polJ (kf + 1) 24 [.int .i64 n, .sl 0 0 m none m 2, .int .i64 x] [.arr 2 els true 0] = some (.tuple [.int .i64 t0, .int .i64 e0], [.arr 2 els true 0])) : RunsTo Try.prog polJ 5 (sub [1, 1, 1, 1, 0] B5) (env5 (.int .i64 n) (.imm .arg 1 la) (.int .i64 x) (.bool false) (.sl 0 0 m none m 2) .undef .undef .undef .undef .undef .undef .undef) [.arr 2 els true 0] (.normal) (polJ.keys 5) (env5 (.int .i64 n) (.imm .arg 1 la) (.int .i64 x) (.bool false) (.sl 0 0 m none m 2) (.int .i64 t0) (.int .i64 e0) .undef .undef .undef .undef .undef) [.arr 2 els true 0] :=
  RunsTo.hint 1 60 [⟨4, 3, .tuple [.int .i64 t0, .int .i64 e0], [.arr 2 els true 0]⟩] fun kf hk => by
    obtain ⟨kf, rfl⟩ : ∃ n, kf = n + 1 := ⟨kf - 1, by omega⟩
    exact ⟨[callN Try.prog polJ (kf + 1) 24 [.int .i64 n, .sl 0 0 m none m 2, .int .i64 x] [.arr 2 els true 0] = some (.tuple [.int .i64 t0, .int .i64 e0], [.arr 2 els true 0])], by kernel_rfl, Obls.cons (g0 kf) Obls.nil⟩
theorem bw_f_0 (n : Int) (la : List HV) (x : Int) (m : Nat) (els : List HV) (t e : Int) (p : Nat) (f : Int) (os : List HV) (g0 : ∀ kf, callN Try.prog polJ (kf + 1) 25 [.int .i64 n, .sl 0 0 m none m 2, .int .i64 x] [.arr 2 els true 0] = some (.tuple [.sl 1 0 p none p 1, .int .i64 f], [.arr 2 els true 0, .arr 1 os true 0])) : RunsTo Try.prog polJ 5 (sub [1, 1, 1, 1, 1, 0] B5) (env5 (.int .i64 n) (.imm .arg 1 la) (.int .i64 x) (.bool false) (.sl 0 0 m none m 2) (.int .i64 t) (.int .i64 e) .undef .undef .undef .undef .undef) [.arr 2 els true 0] (.normal) (polJ.keys 5) (env5 (.int .i64 n) (.imm .arg 1 la) (.int .i64 x) (.bool false) (.sl 0 0 m none m 2) (.int .i64 t) (.int .i64 e) (.sl 1 0 p none p 1) (.int .i64 f) .undef .undef .undef) [.arr 2 els true 0, .arr 1 os true 0] :=
  RunsTo.hint 1 60 [⟨5, 3, .tuple [.sl 1 0 p none p 1, .int .i64 f], [.arr 2 els true 0, .arr 1 os true 0]⟩] fun kf hk => by
    obtain ⟨kf, rfl⟩ : ∃ n, kf = n + 1 := ⟨kf - 1, by omega⟩
    exact ⟨[callN Try.prog polJ (kf + 1) 25 [.int .i64 n, .sl 0 0 m none m 2, .int .i64 x] [.arr 2 els true 0] = some (.tuple [.sl 1 0 p none p 1, .int .i64 f], [.arr 2 els true 0, .arr 1 os true 0])], by kernel_rfl, Obls.cons (g0 kf) Obls.nil⟩
theorem bw_g_2 (n : Int) (la : List HV) (x : Int) (m : Nat) (els : List HV) (t e : Int) (p : Nat) (f : Int) (os : List HV)  (g0 : e = 0) (g1 : f = 0) (g2 : (p : Int) = n) (g3 : ¬ (t < 0)) (g4 : ¬ (max n 2 ≤ t)) : RunsTo Try.prog polJ 5 (sub [1, 1, 1, 1, 1, 1, 0] B5) (env5 (.int .i64 n) (.imm .arg 1 la) (.int .i64 x) (.bool false) (.sl 0 0 m none m 2) (.int .i64 t) (.int .i64 e) (.sl 1 0 p none p 1) (.int .i64 f) .undef .undef .undef) [.arr 2 els true 0, .arr 1 os true 0] (.normal) (polJ.keys 5) (env5 (.int .i64 n) (.imm .arg 1 la) (.int .i64 x) (.bool false) (.sl 0 0 m none m 2) (.int .i64 t) (.int .i64 e) (.sl 1 0 p none p 1) (.int .i64 f) .undef .undef .undef) [.arr 2 els true 0, .arr 1 os true 0] :=
  RunsTo.hint 1 60 [⟨6, 1, .bool false, [.arr 2 els true 0, .arr 1 os true 0]⟩, ⟨6, 4, .bool false, [.arr 2 els true 0, .arr 1 os true 0]⟩, ⟨6, 10, .bool false, [.arr 2 els true 0, .arr 1 os true 0]⟩, ⟨6, 14, .bool false, [.arr 2 els true 0, .arr 1 os true 0]⟩, ⟨6, 20, .bool false, [.arr 2 els true 0, .arr 1 os true 0]⟩] fun kf hk => by
    obtain ⟨kf, rfl⟩ : ∃ n, kf = n + 1 := ⟨kf - 1, by omega⟩
    exact ⟨[some (HV.bool (!decide (e = 0)), ([.arr 2 els true 0, .arr 1 os true 0] : Heap)) = some (.bool false, [.arr 2 els true 0, .arr 1 os true 0]), some (HV.bool (!decide (f = 0)), ([.arr 2 els true 0, .arr 1 os true 0] : Heap)) = some (.bool false, [.arr 2 els true 0, .arr 1 os true 0]), some (HV.bool (!decide ((p : Int) = n)), ([.arr 2 els true 0, .arr 1 os true 0] : Heap)) = some (.bool false, [.arr 2 els true 0, .arr 1 os true 0]), some (HV.bool (decide (t < 0)), ([.arr 2 els true 0, .arr 1 os true 0] : Heap)) = some (.bool false, [.arr 2 els true 0, .arr 1 os true 0]), some (HV.bool (decide (max n 2 ≤ t)), ([.arr 2 els true 0, .arr 1 os true 0] : Heap)) = some (.bool false, [.arr 2 els true 0, .arr 1 os true 0])], by kernel_rfl, Obls.cons (hintB (congrArg not (decide_eq_true g0))) (Obls.cons (hintB (congrArg not (decide_eq_true g1))) (Obls.cons (hintB (congrArg not (decide_eq_true g2))) (Obls.cons (hintB (decide_eq_false g3)) (Obls.cons (hintB (decide_eq_false g4)) Obls.nil))))⟩
theorem bw_h_0 (n : Int) (la : List HV) (x : Int) (m : Nat) (els : List HV) (t e : Int) (p : Nat) (f : Int) (os : List HV)   : RunsTo Try.prog polJ 5 (sub [1, 1, 1, 1, 1, 1, 1, 0, 0] B5) (env5 (.int .i64 n) (.imm .arg 1 la) (.int .i64 x) (.bool false) (.sl 0 0 m none m 2) (.int .i64 t) (.int .i64 e) (.sl 1 0 p none p 1) (.int .i64 f) .undef .undef .undef) [.arr 2 els true 0, .arr 1 os true 0] (.normal) (polJ.keys 5) (env5 (.int .i64 n) (.imm .arg 1 la) (.int .i64 x) (.bool false) (.sl 0 0 m none m 2) (.int .i64 t) (.int .i64 e) (.sl 1 0 p none p 1) (.int .i64 f) (.int .i64 0) .undef .undef) [.arr 2 els true 0, .arr 1 os true 0] :=
  RunsTo.hint 1 60 [] fun kf hk => by
    obtain ⟨kf, rfl⟩ : ∃ n, kf = n + 1 := ⟨kf - 1, by omega⟩
    exact ⟨[], by kernel_rfl, Obls.nil⟩
theorem bw_i_0 (n : Int) (la : List HV) (x : Int) (m : Nat) (els : List HV) (t : Int) (p : Nat) (os : List HV) (i : Nat)  (g0 : (i : Int) < n) : RunsTo Try.prog polJ 5 (sub [1, 1, 1, 1, 1, 1, 1, 0, 1, 0, 0, 0] B5) (env5 (.int .i64 n) (.imm .arg 1 la) (.int .i64 x) (.bool false) (.sl 0 0 m none m 2) (.int .i64 t) .undef (.sl 1 0 p none p 1) .undef (.int .i64 (i : Int)) .undef .undef) [.arr 2 els true 0, .arr 1 os true 0] (.normal) (polJ.keys 5) (env5 (.int .i64 n) (.imm .arg 1 la) (.int .i64 x) (.bool false) (.sl 0 0 m none m 2) (.int .i64 t) .undef (.sl 1 0 p none p 1) .undef (.int .i64 (i : Int)) .undef .undef) [.arr 2 els true 0, .arr 1 os true 0] :=
  RunsTo.hint 1 60 [⟨9, 2, .bool true, [.arr 2 els true 0, .arr 1 os true 0]⟩] fun kf hk => by
    obtain ⟨kf, rfl⟩ : ∃ n, kf = n + 1 := ⟨kf - 1, by omega⟩
    exact ⟨[some (HV.bool (decide ((i : Int) < n)), ([.arr 2 els true 0, .arr 1 os true 0] : Heap)) = some (.bool true, [.arr 2 els true 0, .arr 1 os true 0])], by kernel_rfl, Obls.cons (hintB (decide_eq_true g0)) Obls.nil⟩
theorem bw_i_1 (n : Int) (la : List HV) (x : Int) (m : Nat) (els : List HV) (t : Int) (p : Nat) (os : List HV) (i : Nat)  (g0 : ¬ ((i : Int) < n)) : RunsTo Try.prog polJ 5 (sub [1, 1, 1, 1, 1, 1, 1, 0, 1, 0, 0, 0] B5) (env5 (.int .i64 n) (.imm .arg 1 la) (.int .i64 x) (.bool false) (.sl 0 0 m none m 2) (.int .i64 t) .undef (.sl 1 0 p none p 1) .undef (.int .i64 (i : Int)) .undef .undef) [.arr 2 els true 0, .arr 1 os true 0] (.exit 0) (polJ.keys 5) (env5 (.int .i64 n) (.imm .arg 1 la) (.int .i64 x) (.bool false) (.sl 0 0 m none m 2) (.int .i64 t) .undef (.sl 1 0 p none p 1) .undef (.int .i64 (i : Int)) .undef .undef) [.arr 2 els true 0, .arr 1 os true 0] :=
  RunsTo.hint 1 60 [⟨9, 2, .bool false, [.arr 2 els true 0, .arr 1 os true 0]⟩] fun kf hk => by
    obtain ⟨kf, rfl⟩ : ∃ n, kf = n + 1 := ⟨kf - 1, by omega⟩
    exact ⟨[some (HV.bool (decide ((i : Int) < n)), ([.arr 2 els true 0, .arr 1 os true 0] : Heap)) = some (.bool false, [.arr 2 els true 0, .arr 1 os true 0])], by kernel_rfl, Obls.cons (hintB (decide_eq_false g0)) Obls.nil⟩
theorem bw_j_2 (n : Int) (la : List HV) (x : Int) (m : Nat) (els : List HV) (t : Int) (p : Nat) (os : List HV) (i : Nat) (x0 : Int) (x1 : Int) (x2 : Int) (g0 : idxV Try.prog 24 (.sl 1 0 p none p 1) (.int .i64 (i : Int)) = some (.ptr 1 i 0 p)) (g1 : loadV Try.prog [.arr 2 els true 0, .arr 1 os true 0] 3 (.ptr 1 i 0 p) = some (.int .i64 x0)) (g2 : ¬ (t < x0)) (g3 : idxV Try.prog 24 (.sl 1 0 p none p 1) (.int .i64 (i : Int)) = some (.ptr 1 i 0 p)) (g4 : loadV Try.prog [.arr 2 els true 0, .arr 1 os true 0] 3 (.ptr 1 i 0 p) = some (.int .i64 x1)) (g5 : ¬ (x1 < 0)) (g6 : idxV Try.prog 24 (.sl 1 0 p none p 1) (.int .i64 (i : Int)) = some (.ptr 1 i 0 p)) (g7 : loadV Try.prog [.arr 2 els true 0, .arr 1 os true 0] 3 (.ptr 1 i 0 p) = some (.int .i64 x2)) (g8 : x2 = 0) (g9 : (i : Int) = x) : RunsTo Try.prog polJ 5 (sub [1, 1, 1, 1, 1, 1, 1, 0, 1, 0, 0, 1, 0, 0, 0] B5) (env5 (.int .i64 n) (.imm .arg 1 la) (.int .i64 x) (.bool false) (.sl 0 0 m none m 2) (.int .i64 t) .undef (.sl 1 0 p none p 1) .undef (.int .i64 (i : Int)) .undef .undef) [.arr 2 els true 0, .arr 1 os true 0] (.normal) (polJ.keys 5) (env5 (.int .i64 n) (.imm .arg 1 la) (.int .i64 x) (.bool false) (.sl 0 0 m none m 2) (.int .i64 t) .undef (.sl 1 0 p none p 1) .undef (.int .i64 (i : Int)) .undef .undef) [.arr 2 els true 0, .arr 1 os true 0] :=
  RunsTo.hint 1 60 [⟨11, 2, .ptr 1 i 0 p, [.arr 2 els true 0, .arr 1 os true 0]⟩, ⟨11, 3, .int .i64 x0, [.arr 2 els true 0, .arr 1 os true 0]⟩, ⟨11, 5, .bool false, [.arr 2 els true 0, .arr 1 os true 0]⟩, ⟨11, 9, .ptr 1 i 0 p, [.arr 2 els true 0, .arr 1 os true 0]⟩, ⟨11, 10, .int .i64 x1, [.arr 2 els true 0, .arr 1 os true 0]⟩, ⟨11, 11, .bool false, [.arr 2 els true 0, .arr 1 os true 0]⟩, ⟨11, 16, .ptr 1 i 0 p, [.arr 2 els true 0, .arr 1 os true 0]⟩, ⟨11, 17, .int .i64 x2, [.arr 2 els true 0, .arr 1 os true 0]⟩, ⟨11, 18, .bool true, [.arr 2 els true 0, .arr 1 os true 0]⟩, ⟨11, 21, .bool true, [.arr 2 els true 0, .arr 1 os true 0]⟩] fun kf hk => by
    obtain ⟨kf, rfl⟩ : ∃ n, kf = n + 1 := ⟨kf - 1, by omega⟩
    exact ⟨[(idxV Try.prog 24 (.sl 1 0 p none p 1) (.int .i64 (i : Int))).map (fun v => (v, ([.arr 2 els true 0, .arr 1 os true 0] : Heap))) = some (.ptr 1 i 0 p, [.arr 2 els true 0, .arr 1 os true 0]), (loadV Try.prog [.arr 2 els true 0, .arr 1 os true 0] 3 (.ptr 1 i 0 p)).map (fun v => (v, ([.arr 2 els true 0, .arr 1 os true 0] : Heap))) = some (.int .i64 x0, [.arr 2 els true 0, .arr 1 os true 0]), some (HV.bool (decide (t < x0)), ([.arr 2 els true 0, .arr 1 os true 0] : Heap)) = some (.bool false, [.arr 2 els true 0, .arr 1 os true 0]), (idxV Try.prog 24 (.sl 1 0 p none p 1) (.int .i64 (i : Int))).map (fun v => (v, ([.arr 2 els true 0, .arr 1 os true 0] : Heap))) = some (.ptr 1 i 0 p, [.arr 2 els true 0, .arr 1 os true 0]), (loadV Try.prog [.arr 2 els true 0, .arr 1 os true 0] 3 (.ptr 1 i 0 p)).map (fun v => (v, ([.arr 2 els true 0, .arr 1 os true 0] : Heap))) = some (.int .i64 x1, [.arr 2 els true 0, .arr 1 os true 0]), some (HV.bool (decide (x1 < 0)), ([.arr 2 els true 0, .arr 1 os true 0] : Heap)) = some (.bool false, [.arr 2 els true 0, .arr 1 os true 0]), (idxV Try.prog 24 (.sl 1 0 p none p 1) (.int .i64 (i : Int))).map (fun v => (v, ([.arr 2 els true 0, .arr 1 os true 0] : Heap))) = some (.ptr 1 i 0 p, [.arr 2 els true 0, .arr 1 os true 0]), (loadV Try.prog [.arr 2 els true 0, .arr 1 os true 0] 3 (.ptr 1 i 0 p)).map (fun v => (v, ([.arr 2 els true 0, .arr 1 os true 0] : Heap))) = some (.int .i64 x2, [.arr 2 els true 0, .arr 1 os true 0]), some (HV.bool (decide (x2 = 0)), ([.arr 2 els true 0, .arr 1 os true 0] : Heap)) = some (.bool true, [.arr 2 els true 0, .arr 1 os true 0]), some (HV.bool (decide ((i : Int) = x)), ([.arr 2 els true 0, .arr 1 os true 0] : Heap)) = some (.bool true, [.arr 2 els true 0, .arr 1 os true 0])], by kernel_rfl, Obls.cons (hintOp g0) (Obls.cons (hintOp g1) (Obls.cons (hintB (decide_eq_false g2)) (Obls.cons (hintOp g3) (Obls.cons (hintOp g4) (Obls.cons (hintB (decide_eq_false g5)) (Obls.cons (hintOp g6) (Obls.cons (hintOp g7) (Obls.cons (hintB (decide_eq_true g8)) (Obls.cons (hintB (decide_eq_true g9)) Obls.nil)))))))))⟩
theorem bw_j_5 (n : Int) (la : List HV) (x : Int) (m : Nat) (els : List HV) (t : Int) (p : Nat) (os : List HV) (i : Nat) (x0 : Int) (x1 : Int) (x2 : Int) (g0 : idxV Try.prog 24 (.sl 1 0 p none p 1) (.int .i64 (i : Int)) = some (.ptr 1 i 0 p)) (g1 : loadV Try.prog [.arr 2 els true 0, .arr 1 os true 0] 3 (.ptr 1 i 0 p) = some (.int .i64 x0)) (g2 : ¬ (t < x0)) (g3 : idxV Try.prog 24 (.sl 1 0 p none p 1) (.int .i64 (i : Int)) = some (.ptr 1 i 0 p)) (g4 : loadV Try.prog [.arr 2 els true 0, .arr 1 os true 0] 3 (.ptr 1 i 0 p) = some (.int .i64 x1)) (g5 : ¬ (x1 < 0)) (g6 : idxV Try.prog 24 (.sl 1 0 p none p 1) (.int .i64 (i : Int)) = some (.ptr 1 i 0 p)) (g7 : loadV Try.prog [.arr 2 els true 0, .arr 1 os true 0] 3 (.ptr 1 i 0 p) = some (.int .i64 x2)) (g8 : ¬ (x2 = 0)) (g9 : ¬ ((i : Int) = x)) : RunsTo Try.prog polJ 5 (sub [1, 1, 1, 1, 1, 1, 1, 0, 1, 0, 0, 1, 0, 0, 0] B5) (env5 (.int .i64 n) (.imm .arg 1 la) (.int .i64 x) (.bool false) (.sl 0 0 m none m 2) (.int .i64 t) .undef (.sl 1 0 p none p 1) .undef (.int .i64 (i : Int)) .undef .undef) [.arr 2 els true 0, .arr 1 os true 0] (.normal) (polJ.keys 5) (env5 (.int .i64 n) (.imm .arg 1 la) (.int .i64 x) (.bool false) (.sl 0 0 m none m 2) (.int .i64 t) .undef (.sl 1 0 p none p 1) .undef (.int .i64 (i : Int)) .undef .undef) [.arr 2 els true 0, .arr 1 os true 0] :=
  RunsTo.hint 1 60 [⟨11, 2, .ptr 1 i 0 p, [.arr 2 els true 0, .arr 1 os true 0]⟩, ⟨11, 3, .int .i64 x0, [.arr 2 els true 0, .arr 1 os true 0]⟩, ⟨11, 5, .bool false, [.arr 2 els true 0, .arr 1 os true 0]⟩, ⟨11, 9, .ptr 1 i 0 p, [.arr 2 els true 0, .arr 1 os true 0]⟩, ⟨11, 10, .int .i64 x1, [.arr 2 els true 0, .arr 1 os true 0]⟩, ⟨11, 11, .bool false, [.arr 2 els true 0, .arr 1 os true 0]⟩, ⟨11, 16, .ptr 1 i 0 p, [.arr 2 els true 0, .arr 1 os true 0]⟩, ⟨11, 17, .int .i64 x2, [.arr 2 els true 0, .arr 1 os true 0]⟩, ⟨11, 18, .bool false, [.arr 2 els true 0, .arr 1 os true 0]⟩, ⟨11, 21, .bool false, [.arr 2 els true 0, .arr 1 os true 0]⟩] fun kf hk => by
    obtain ⟨kf, rfl⟩ : ∃ n, kf = n + 1 := ⟨kf - 1, by omega⟩
    exact ⟨[(idxV Try.prog 24 (.sl 1 0 p none p 1) (.int .i64 (i : Int))).map (fun v => (v, ([.arr 2 els true 0, .arr 1 os true 0] : Heap))) = some (.ptr 1 i 0 p, [.arr 2 els true 0, .arr 1 os true 0]), (loadV Try.prog [.arr 2 els true 0, .arr 1 os true 0] 3 (.ptr 1 i 0 p)).map (fun v => (v, ([.arr 2 els true 0, .arr 1 os true 0] : Heap))) = some (.int .i64 x0, [.arr 2 els true 0, .arr 1 os true 0]), some (HV.bool (decide (t < x0)), ([.arr 2 els true 0, .arr 1 os true 0] : Heap)) = some (.bool false, [.arr 2 els true 0, .arr 1 os true 0]), (idxV Try.prog 24 (.sl 1 0 p none p 1) (.int .i64 (i : Int))).map (fun v => (v, ([.arr 2 els true 0, .arr 1 os true 0] : Heap))) = some (.ptr 1 i 0 p, [.arr 2 els true 0, .arr 1 os true 0]), (loadV Try.prog [.arr 2 els true 0, .arr 1 os true 0] 3 (.ptr 1 i 0 p)).map (fun v => (v, ([.arr 2 els true 0, .arr 1 os true 0] : Heap))) = some (.int .i64 x1, [.arr 2 els true 0, .arr 1 os true 0]), some (HV.bool (decide (x1 < 0)), ([.arr 2 els true 0, .arr 1 os true 0] : Heap)) = some (.bool false, [.arr 2 els true 0, .arr 1 os true 0]), (idxV Try.prog 24 (.sl 1 0 p none p 1) (.int .i64 (i : Int))).map (fun v => (v, ([.arr 2 els true 0, .arr 1 os true 0] : Heap))) = some (.ptr 1 i 0 p, [.arr 2 els true 0, .arr 1 os true 0]), (loadV Try.prog [.arr 2 els true 0, .arr 1 os true 0] 3 (.ptr 1 i 0 p)).map (fun v => (v, ([.arr 2 els true 0, .arr 1 os true 0] : Heap))) = some (.int .i64 x2, [.arr 2 els true 0, .arr 1 os true 0]), some (HV.bool (decide (x2 = 0)), ([.arr 2 els true 0, .arr 1 os true 0] : Heap)) = some (.bool false, [.arr 2 els true 0, .arr 1 os true 0]), some (HV.bool (decide ((i : Int) = x)), ([.arr 2 els true 0, .arr 1 os true 0] : Heap)) = some (.bool false, [.arr 2 els true 0, .arr 1 os true 0])], by kernel_rfl, Obls.cons (hintOp g0) (Obls.cons (hintOp g1) (Obls.cons (hintB (decide_eq_false g2)) (Obls.cons (hintOp g3) (Obls.cons (hintOp g4) (Obls.cons (hintB (decide_eq_false g5)) (Obls.cons (hintOp g6) (Obls.cons (hintOp g7) (Obls.cons (hintB (decide_eq_false g8)) (Obls.cons (hintB (decide_eq_false g9)) Obls.nil)))))))))⟩
theorem bw_k_2 (n : Int) (la : List HV) (x : Int) (m : Nat) (els : List HV) (t : Int) (p : Nat) (os : List HV) (i : Nat) (x0 : Int) (t0 : Int) (e0 : Int) (g0 : idxV Try.prog 24 (.sl 1 0 p none p 1) (.int .i64 (i : Int)) = some (.ptr 1 i 0 p)) (g1 : loadV Try.prog [.arr 2 els true 0, .arr 1 os true 0] 3 (.ptr 1 i 0 p) = some (.int .i64 x0)) (g2 : x0 = 1) (g3 : ∀ kf, callN Try.prog polJ (kf + 1) 24 [.int .i64 n, .sl 0 0 m none m 2, .int .i64 (i : Int)] [.arr 2 els true 0, .arr 1 os true 0] = some (.tuple [.int .i64 t0, .int .i64 e0], [.arr 2 els true 0, .arr 1 os true 0])) (g4 : e0 = 0) (g5 : ¬ (t0 < IntKind.i64.wrap (t - 1))) (g6 : ¬ (IntKind.i64.wrap (t + 1) < t0)) : RunsTo Try.prog polJ 5 (sub [1, 1, 1, 1, 1, 1, 1, 0, 1, 0, 0, 1, 0, 0, 1] B5) (env5 (.int .i64 n) (.imm .arg 1 la) (.int .i64 x) (.bool false) (.sl 0 0 m none m 2) (.int .i64 t) .undef (.sl 1 0 p none p 1) .undef (.int .i64 (i : Int)) .undef .undef) [.arr 2 els true 0, .arr 1 os true 0] (.normal) (polJ.keys 5) (env5 (.int .i64 n) (.imm .arg 1 la) (.int .i64 x) (.bool false) (.sl 0 0 m none m 2) (.int .i64 t) .undef (.sl 1 0 p none p 1) .undef (.int .i64 (i : Int)) (.int .i64 t0) (.int .i64 e0)) [.arr 2 els true 0, .arr 1 os true 0] :=
  RunsTo.hint 1 60 [⟨13, 2, .ptr 1 i 0 p, [.arr 2 els true 0, .arr 1 os true 0]⟩, ⟨13, 3, .int .i64 x0, [.arr 2 els true 0, .arr 1 os true 0]⟩, ⟨13, 4, .bool true, [.arr 2 els true 0, .arr 1 os true 0]⟩, ⟨14, 3, .tuple [.int .i64 t0, .int .i64 e0], [.arr 2 els true 0, .arr 1 os true 0]⟩, ⟨15, 1, .bool false, [.arr 2 els true 0, .arr 1 os true 0]⟩, ⟨15, 6, .bool false, [.arr 2 els true 0, .arr 1 os true 0]⟩, ⟨15, 12, .bool false, [.arr 2 els true 0, .arr 1 os true 0]⟩] fun kf hk => by
    obtain ⟨kf, rfl⟩ : ∃ n, kf = n + 1 := ⟨kf - 1, by omega⟩
    exact ⟨[(idxV Try.prog 24 (.sl 1 0 p none p 1) (.int .i64 (i : Int))).map (fun v => (v, ([.arr 2 els true 0, .arr 1 os true 0] : Heap))) = some (.ptr 1 i 0 p, [.arr 2 els true 0, .arr 1 os true 0]), (loadV Try.prog [.arr 2 els true 0, .arr 1 os true 0] 3 (.ptr 1 i 0 p)).map (fun v => (v, ([.arr 2 els true 0, .arr 1 os true 0] : Heap))) = some (.int .i64 x0, [.arr 2 els true 0, .arr 1 os true 0]), some (HV.bool (decide (x0 = 1)), ([.arr 2 els true 0, .arr 1 os true 0] : Heap)) = some (.bool true, [.arr 2 els true 0, .arr 1 os true 0]), callN Try.prog polJ (kf + 1) 24 [.int .i64 n, .sl 0 0 m none m 2, .int .i64 (i : Int)] [.arr 2 els true 0, .arr 1 os true 0] = some (.tuple [.int .i64 t0, .int .i64 e0], [.arr 2 els true 0, .arr 1 os true 0]), some (HV.bool (!decide (e0 = 0)), ([.arr 2 els true 0, .arr 1 os true 0] : Heap)) = some (.bool false, [.arr 2 els true 0, .arr 1 os true 0]), some (HV.bool (decide (t0 < IntKind.i64.wrap (t - 1))), ([.arr 2 els true 0, .arr 1 os true 0] : Heap)) = some (.bool false, [.arr 2 els true 0, .arr 1 os true 0]), some (HV.bool (decide (IntKind.i64.wrap (t + 1) < t0)), ([.arr 2 els true 0, .arr 1 os true 0] : Heap)) = some (.bool false, [.arr 2 els true 0, .arr 1 os true 0])], by kernel_rfl, Obls.cons (hintOp g0) (Obls.cons (hintOp g1) (Obls.cons (hintB (decide_eq_true g2)) (Obls.cons (g3 kf) (Obls.cons (hintB (congrArg not (decide_eq_true g4))) (Obls.cons (hintB (decide_eq_false g5)) (Obls.cons (hintB (decide_eq_false g6)) Obls.nil))))))⟩
theorem bw_k_4 (n : Int) (la : List HV) (x : Int) (m : Nat) (els : List HV) (t : Int) (p : Nat) (os : List HV) (i : Nat) (x0 : Int) (g0 : idxV Try.prog 24 (.sl 1 0 p none p 1) (.int .i64 (i : Int)) = some (.ptr 1 i 0 p)) (g1 : loadV Try.prog [.arr 2 els true 0, .arr 1 os true 0] 3 (.ptr 1 i 0 p) = some (.int .i64 x0)) (g2 : ¬ (x0 = 1)) : RunsTo Try.prog polJ 5 (sub [1, 1, 1, 1, 1, 1, 1, 0, 1, 0, 0, 1, 0, 0, 1] B5) (env5 (.int .i64 n) (.imm .arg 1 la) (.int .i64 x) (.bool false) (.sl 0 0 m none m 2) (.int .i64 t) .undef (.sl 1 0 p none p 1) .undef (.int .i64 (i : Int)) .undef .undef) [.arr 2 els true 0, .arr 1 os true 0] (.normal) (polJ.keys 5) (env5 (.int .i64 n) (.imm .arg 1 la) (.int .i64 x) (.bool false) (.sl 0 0 m none m 2) (.int .i64 t) .undef (.sl 1 0 p none p 1) .undef (.int .i64 (i : Int)) .undef .undef) [.arr 2 els true 0, .arr 1 os true 0] :=
  RunsTo.hint 1 60 [⟨13, 2, .ptr 1 i 0 p, [.arr 2 els true 0, .arr 1 os true 0]⟩, ⟨13, 3, .int .i64 x0, [.arr 2 els true 0, .arr 1 os true 0]⟩, ⟨13, 4, .bool false, [.arr 2 els true 0, .arr 1 os true 0]⟩] fun kf hk => by
    obtain ⟨kf, rfl⟩ : ∃ n, kf = n + 1 := ⟨kf - 1, by omega⟩
    exact ⟨[(idxV Try.prog 24 (.sl 1 0 p none p 1) (.int .i64 (i : Int))).map (fun v => (v, ([.arr 2 els true 0, .arr 1 os true 0] : Heap))) = some (.ptr 1 i 0 p, [.arr 2 els true 0, .arr 1 os true 0]), (loadV Try.prog [.arr 2 els true 0, .arr 1 os true 0] 3 (.ptr 1 i 0 p)).map (fun v => (v, ([.arr 2 els true 0, .arr 1 os true 0] : Heap))) = some (.int .i64 x0, [.arr 2 els true 0, .arr 1 os true 0]), some (HV.bool (decide (x0 = 1)), ([.arr 2 els true 0, .arr 1 os true 0] : Heap)) = some (.bool false, [.arr 2 els true 0, .arr 1 os true 0])], by kernel_rfl, Obls.cons (hintOp g0) (Obls.cons (hintOp g1) (Obls.cons (hintB (decide_eq_false g2)) Obls.nil))⟩
theorem bw_l_0 (n : Int) (la : List HV) (x : Int) (m : Nat) (els : List HV) (t : Int) (p : Nat) (os : List HV) (i : Nat) (x13 x14 : HV)   : RunsTo Try.prog polJ 5 (sub [1, 1, 1, 1, 1, 1, 1, 0, 1, 0, 0, 1, 1] B5) (env5 (.int .i64 n) (.imm .arg 1 la) (.int .i64 x) (.bool false) (.sl 0 0 m none m 2) (.int .i64 t) .undef (.sl 1 0 p none p 1) .undef (.int .i64 (i : Int)) x13 x14) [.arr 2 els true 0, .arr 1 os true 0] (.normal) (polJ.keys 5) (env5 (.int .i64 n) (.imm .arg 1 la) (.int .i64 x) (.bool false) (.sl 0 0 m none m 2) (.int .i64 t) .undef (.sl 1 0 p none p 1) .undef (.int .i64 (IntKind.i64.wrap ((i : Int) + 1))) x13 x14) [.arr 2 els true 0, .arr 1 os true 0] :=
  RunsTo.hint 1 60 [] fun kf hk => by
    obtain ⟨kf, rfl⟩ : ∃ n, kf = n + 1 := ⟨kf - 1, by omega⟩
    exact ⟨[], by kernel_rfl, Obls.nil⟩
theorem bw_z_0 (n : Int) (la : List HV) (x : Int) (m : Nat) (els : List HV) (t : Int) (p : Nat) (os : List HV) (i : Nat) (c : Int) (h0 : Int) (g0 : ∀ kf, callN Try.prog polJ (kf + 1) 26 [.int .i64 n, .sl 0 0 m none m 2, .int .i64 x] [.arr 2 els true 0, .arr 1 os true 0] = some (.int .i64 c, [.arr 2 els true 0, .arr 1 os true 0])) (g1 : c ≤ t) (g2 : binV Try.prog .shl 3 (.int .i64 1) (.int .i64 t) = some (.int .i64 h0)) (g3 : n ≤ h0) : RunsTo Try.prog polJ 5 (sub [1, 1, 1, 1, 1, 1, 1, 1] B5) (env5 (.int .i64 n) (.imm .arg 1 la) (.int .i64 x) (.bool false) (.sl 0 0 m none m 2) (.int .i64 t) .undef (.sl 1 0 p none p 1) .undef (.int .i64 (i : Int)) .undef .undef) [.arr 2 els true 0, .arr 1 os true 0] (.ret) (polJ.keys 5) (env5 (.int .i64 n) (.imm .arg 1 la) (.int .i64 x) (.bool true) (.sl 0 0 m none m 2) (.int .i64 t) .undef (.sl 1 0 p none p 1) .undef (.int .i64 (i : Int)) .undef .undef) [.arr 2 els true 0, .arr 1 os true 0] :=
  RunsTo.hint 1 60 [⟨17, 4, .int .i64 c, [.arr 2 els true 0, .arr 1 os true 0]⟩, ⟨17, 5, .bool true, [.arr 2 els true 0, .arr 1 os true 0]⟩, ⟨17, 8, .int .i64 h0, [.arr 2 els true 0, .arr 1 os true 0]⟩, ⟨17, 10, .bool true, [.arr 2 els true 0, .arr 1 os true 0]⟩] fun kf hk => by
    obtain ⟨kf, rfl⟩ : ∃ n, kf = n + 1 := ⟨kf - 1, by omega⟩
    exact ⟨[callN Try.prog polJ (kf + 1) 26 [.int .i64 n, .sl 0 0 m none m 2, .int .i64 x] [.arr 2 els true 0, .arr 1 os true 0] = some (.int .i64 c, [.arr 2 els true 0, .arr 1 os true 0]), some (HV.bool (decide (c ≤ t)), ([.arr 2 els true 0, .arr 1 os true 0] : Heap)) = some (.bool true, [.arr 2 els true 0, .arr 1 os true 0]), (binV Try.prog .shl 3 (.int .i64 1) (.int .i64 t)).map (fun v => (v, ([.arr 2 els true 0, .arr 1 os true 0] : Heap))) = some (.int .i64 h0, [.arr 2 els true 0, .arr 1 os true 0]), some (HV.bool (decide (n ≤ h0)), ([.arr 2 els true 0, .arr 1 os true 0] : Heap)) = some (.bool true, [.arr 2 els true 0, .arr 1 os true 0])], by kernel_rfl, Obls.cons (g0 kf) (Obls.cons (hintB (decide_eq_true g1)) (Obls.cons (hintOp g2) (Obls.cons (hintB (decide_eq_true g3)) Obls.nil)))⟩
end Go.Proofs.Ytmhfkhlamnapdaa
end
section
open Go Go.HL
namespace Go.Proofs.Ytmhfkhlamnapdaa
def ds (row : Int → List Int) : Nat → Int → Int → List Int
  | 0, v, _ => [v]
  | k + 1, v, w => v :: (keep w (row v)).flatMap fun u => ds row k u v
inductive Anc (l : List (Int × Int)) (ρ : Int → Nat) (z : Int) : Int → Prop
  | refl : Anc l ρ z z
  | step {u v : Int} : Anc l ρ z u → v ∈ rowE l u → ρ v < ρ u → Anc l ρ z v
def Dn (l : List (Int × Int)) (ρ : Int → Nat) (v w : Int) : Prop := ∀ u, u ∈ keep w (rowE l v) → ρ v < ρ u
section
variable {l : List (Int × Int)} {ρ : Int → Nat} {M : Nat}
theorem Anc.le {z v : Int} (h : Anc l ρ z v) : ρ v ≤ ρ z := by
  induction h with
  | refl => exact Nat.le_refl _
  | step _ _ h2 ih => omega
end
section
variable {l : List (Int × Int)} {ρ : Int → Nat} {M : Nat}
theorem Anc.first {z b : Int} (h : Anc l ρ z b) : z = b ∨ ∃ p, p ∈ rowE l z ∧ ρ p < ρ z ∧ Anc l ρ p b := by
  induction h with
  | refl => exact .inl rfl
  | step h1 h2 h3 ih =>
    rcases ih with rfl | ⟨p, h4, h5, h6⟩
    · exact .inr ⟨_, h2, h3, .refl⟩
    · exact .inr ⟨p, h4, h5, .step h6 h2 h3⟩
end
section
variable {l : List (Int × Int)} {ρ : Int → Nat} {M : Nat}
theorem Anc.chain (hO : Ori l ρ M) {z a b : Int} (h : Anc l ρ z a) (h' : Anc l ρ z b) : Anc l ρ a b ∨ Anc l ρ b a := by
  induction h with
  | refl => exact .inl h'
  | step h1 h2 h3 ih =>
    rcases ih with h4 | h4
    · rcases h4.first with rfl | ⟨p, h5, h6, h7⟩
      · exact .inr (.step .refl h2 h3)
      · rw [hO.low h5 h2 h6 h3] at h7
        exact .inl h7
    · exact .inr (.step h4 h2 h3)
end
section
variable {l : List (Int × Int)} {ρ : Int → Nat} {M : Nat}
theorem Anc.child (hO : Ori l ρ M) {z v a b : Int} (ha : Anc l ρ z a) (hb : Anc l ρ z b) (h1 : v ∈ rowE l a) (h2 : ρ v < ρ a) (h3 : v ∈ rowE l b) (h4 : ρ v < ρ b) : a = b := by
  have key : ∀ a b : Int, Anc l ρ a b → v ∈ rowE l a → ρ v < ρ a → ρ v < ρ b → a = b := by
    intro a b h h1 h2 h4
    rcases h.first with e | ⟨p, h5, h6, h7⟩
    · exact e
    · rw [hO.low h5 h1 h6 h2] at h7
      have := h7.le
      omega
  rcases ha.chain hO hb with h | h
  · exact key a b h h1 h2 h4
  · exact (key b a h h3 h4 h2).symm
end
section
variable {l : List (Int × Int)} {ρ : Int → Nat} {M : Nat}
theorem Dn.next (hO : Ori l ρ M) {v w u : Int} (h : Dn l ρ v w) (hu : u ∈ keep w (rowE l v)) : Dn l ρ u v := by
  intro z hz
  obtain ⟨h1, h2⟩ := keep_mem.1 hz
  have h3 := h u hu
  have hne := hO.neq h1
  rcases Nat.lt_or_ge (ρ u) (ρ z) with h4 | h4
  · exact h4
  · exact absurd (hO.low h1 (rowE_sym (keep_mem.1 hu).1) (by omega) h3) h2
end
section
variable {l : List (Int × Int)} {ρ : Int → Nat} {M : Nat}
theorem ds_anc (hO : Ori l ρ M) : ∀ (k : Nat) (v w z : Int), Dn l ρ v w → z ∈ ds (rowE l) k v w → Anc l ρ z v
  | 0, v, w, z, _, hz => by
    rw [ds, List.mem_singleton] at hz
    rw [hz]; exact .refl
  | k + 1, v, w, z, h, hz => by
    rw [ds] at hz
    rcases List.mem_cons.1 hz with rfl | hz
    · exact .refl
    · obtain ⟨u, hu, hz⟩ := List.mem_flatMap.1 hz
      exact .step (ds_anc hO k u v z (h.next hO hu) hz) (rowE_sym (keep_mem.1 hu).1) (h u hu)
end
section
variable {l : List (Int × Int)} {ρ : Int → Nat} {M : Nat}
theorem ds_nodup (hO : Ori l ρ M) : ∀ (k : Nat) (v w : Int), Dn l ρ v w → (ds (rowE l) k v w).Nodup
  | 0, v, w, _ => by simp [ds]
  | k + 1, v, w, h => by
    rw [ds, List.nodup_cons]
    refine ⟨fun hm => ?_, ?_⟩
    · obtain ⟨u, hu, hz⟩ := List.mem_flatMap.1 hm
      have h1 := (ds_anc hO k u v v (h.next hO hu) hz).le
      have h2 := h u hu
      omega
    · have hnd : (keep w (rowE l v)).Nodup := List.Pairwise.filter _ (hO.nodup v)
      have hsub : ∀ u, u ∈ keep w (rowE l v) → u ∈ keep w (rowE l v) := fun u hu => hu
      generalize hK : keep w (rowE l v) = K at hnd
      have hK2 : ∀ u, u ∈ K → u ∈ keep w (rowE l v) := fun u hu => by rw [hK]; exact hu
      clear hK hsub
      induction K with
      | nil => simp
      | cons a K ih =>
        rw [List.flatMap_cons]
        rw [List.nodup_cons] at hnd
        have ha := hK2 a (by simp)
        refine List.nodup_append.2 ⟨ds_nodup hO k a v (h.next hO ha), ih hnd.2 (fun u hu => hK2 u (by simp [hu])), fun x hx y hy e => ?_⟩
        subst e
        obtain ⟨b, hb, hy⟩ := List.mem_flatMap.1 hy
        have hb' := hK2 b (by simp [hb])
        have : a = b := Anc.child hO (ds_anc hO k a v x (h.next hO ha) hx) (ds_anc hO k b v x (h.next hO hb') hy) (rowE_sym (keep_mem.1 ha).1) (h a ha) (rowE_sym (keep_mem.1 hb').1) (h b hb')
        exact hnd.1 (this ▸ hb)
end
section
variable {l : List (Int × Int)} {ρ : Int → Nat} {M : Nat}
theorem ds_range {n : Nat} (hv : ∀ p ∈ l, validB (n : Int) p = true) : ∀ (k : Nat) (v w z : Int), (0 ≤ v ∧ v < (n : Int)) → z ∈ ds (rowE l) k v w → 0 ≤ z ∧ z < (n : Int)
  | 0, v, w, z, h, hz => by
    rw [ds, List.mem_singleton] at hz
    rw [hz]; exact h
  | k + 1, v, w, z, h, hz => by
    rw [ds] at hz
    rcases List.mem_cons.1 hz with rfl | hz
    · exact h
    · obtain ⟨u, hu, hz⟩ := List.mem_flatMap.1 hz
      exact ds_range hv k u v z (valid_row hv (keep_mem.1 hu).1) hz
end
theorem ints_len {n : Nat} {L : List Int} (hd : L.Nodup) (hr : ∀ z, z ∈ L → 0 ≤ z ∧ z < (n : Int)) : L.length ≤ n := by
  have := nodup_lt_len (n := n) (l := L.map Int.toNat) ?_ ?_
  · simpa using this
  · unfold List.Nodup
    rw [List.pairwise_map]
    refine List.Pairwise.imp_of_mem (fun {a b} ha hb hab => ?_) hd
    have := hr a ha; have := hr b hb
    omega
  · intro y hy
    obtain ⟨z, hz, rfl⟩ := List.mem_map.1 hy
    have := hr z hz
    omega
def sm : List Int → Int
  | [] => 0
  | t :: l => 1 + t + sm l
theorem sm_ins (t : Int) : ∀ l : List Int, sm (dsIns t l) = 1 + t + sm l
  | [] => rfl
  | a :: l => by
    rw [dsIns]
    split
    · rw [sm, sm_ins t l, sm]; omega
    · rfl
theorem sm_acc : ∀ (l acc : List Int), sm (dsAcc acc l) = sm acc + sm l
  | [], acc => by simp [dsAcc, sm]
  | t :: l, acc => by rw [dsAcc, sm_acc l, sm_ins, sm]; omega
theorem sm_nonneg : ∀ (l : List Int), (∀ t, t ∈ l → 0 ≤ t) → 0 ≤ sm l
  | [], _ => Int.le_refl _
  | t :: l, h => by
    have := h t (by simp)
    have := sm_nonneg l (fun t ht => h t (by simp [ht]))
    rw [sm]; omega
theorem bestGo_sm : ∀ (l : List Int) (i : Nat) (mo : Int), (∀ t, t ∈ l → 0 ≤ t) → bestGo i mo l ≤ max mo ((i : Int) + sm l)
  | [], i, mo, _ => by rw [bestGo, sm]; omega
  | t :: l, i, mo, h => by
    have ht := h t (by simp)
    have h1 := sm_nonneg l (fun t ht => h t (by simp [ht]))
    have := bestGo_sm l (i + 1) (max mo ((i : Int) + 1 + t)) (fun t ht => h t (by simp [ht]))
    rw [bestGo, sm]
    omega
theorem tmF_nonneg (row : Int → List Int) : ∀ (k : Nat) (v w : Int), 0 ≤ tmF row k v w
  | 0, _, _ => Int.le_refl _
  | k + 1, v, w => by
    rw [tmF]
    have : ∀ (l : List Int) (i : Nat) (mo : Int), mo ≤ bestGo i mo l := by
      intro l
      induction l with
      | nil => intro i mo; exact Int.le_refl _
      | cons t l ih => intro i mo; rw [bestGo]; have := ih (i + 1) (max mo ((i : Int) + 1 + t)); omega
    exact this _ 0 0
theorem tmF_ds (row : Int → List Int) : ∀ (k : Nat) (v w : Int), tmF row k v w + 1 ≤ ((ds row k v w).length : Int)
  | 0, v, w => by simp [tmF, ds]
  | k + 1, v, w => by
    rw [tmF, ds]
    have h1 := bestGo_sm (dsort ((keep w (row v)).map fun u => tmF row k u v)) 0 0 (fun t ht => by
      rw [(dsort_perm _).mem_iff, List.mem_map] at ht
      obtain ⟨u, _, rfl⟩ := ht
      exact tmF_nonneg row k u v)
    have h2 : sm (dsort ((keep w (row v)).map fun u => tmF row k u v)) = sm ((keep w (row v)).map fun u => tmF row k u v) := by
      rw [dsort, sm_acc]; simp [sm]
    have h3 : ∀ K : List Int, sm (K.map fun u => tmF row k u v) ≤ ((K.flatMap fun u => ds row k u v).length : Int) := by
      intro K
      induction K with
      | nil => simp [sm]
      | cons a K ih =>
        have := tmF_ds row k a v
        rw [List.map_cons, sm, List.flatMap_cons, List.length_append]
        omega
    have h4 := h3 (keep w (row v))
    rw [List.length_cons]
    omega
theorem tree_small {n : Nat} {l : List (Int × Int)} (h : treeOk (n : Int) l = true) {x : Nat} (hx : x < n) : tm (rowE l) x (-1) + 1 ≤ n := by
  obtain ⟨⟨hn, hl⟩, hv, hr⟩ := tree_rtd h
  have hR := hr x hx
  obtain ⟨hO, _⟩ := hR.ori hx hv hl
  have hD : Dn l (fun v => ((bfs (fun y => (adjOf n l).getD y []) n x).getD v.toNat 0).toNat) (x : Int) (-1) := by
    intro u hu
    have hne := hO.neq (keep_mem.1 hu).1
    have h0 := hR.root
    dsimp only at hne h0 ⊢
    omega
  have h1 := tmF_ds (rowE l) 200 x (-1)
  have h2 := ints_len (ds_nodup hO 200 x (-1) hD) (fun z hz => ds_range hv 200 x (-1) z ⟨by omega, by omega⟩ hz)
  unfold tm
  omega
end Go.Proofs.Ytmhfkhlamnapdaa
end
section
open Go Go.HL
namespace Go.Proofs.Ytmhfkhlamnapdaa
def Le2 : List Int → List Int → Prop
  | [], [] => True
  | a :: l, b :: m => a ≤ b ∧ Le2 l m
  | _, _ => False
theorem Le2.refl : ∀ l : List Int, Le2 l l
  | [] => trivial
  | _ :: l => ⟨Int.le_refl _, Le2.refl l⟩
def best (l : List Int) : Int := bestGo 0 0 (dsort l)
theorem bestGo_len : ∀ (l : List Int) (i : Nat) (p : Int), (∀ t, t ∈ l → 0 ≤ t) → l ≠ [] → (i : Int) + l.length ≤ bestGo i p l
  | [], _, _, _, h => absurd rfl h
  | [t], i, p, h, _ => by
    have := h t (by simp)
    simp only [bestGo, List.length_singleton]
    omega
  | t :: a :: l, i, p, h, _ => by
    have := bestGo_len (a :: l) (i + 1) (max p ((i : Int) + 1 + t)) (fun x hx => h x (by simp at hx ⊢; exact .inr hx)) (by simp)
    rw [bestGo]
    simp only [List.length_cons] at this ⊢
    omega
theorem best_len {l : List Int} (h : ∀ t, t ∈ l → 0 ≤ t) : (l.length : Int) ≤ best l := by
  cases l with
  | nil => simp [best, dsort, dsAcc, bestGo]
  | cons a l =>
    have := bestGo_len (dsort (a :: l)) 0 0 (fun t ht => h t ((dsort_perm _).mem_iff.1 ht)) (fun e => by
      have := (dsort_perm (a :: l)).length_eq
      rw [e] at this; simp at this)
    rw [(dsort_perm _).length_eq] at this
    unfold best
    simpa using this
end Go.Proofs.Ytmhfkhlamnapdaa
end
section
open Go Go.HL
namespace Go.Proofs.Ytmhfkhlamnapdaa
def tl (y : Nat → Int) (n : Nat) : List (Int × Int) := (List.range' 1 (n - 1)).map fun j => (y j, (j : Int))
def Mk (y : Nat → Int) (n : Nat) : Prop := ∀ j : Nat, 1 ≤ j → j < n → 0 ≤ y j ∧ y j < (j : Int)
theorem tl_len (y : Nat → Int) (n : Nat) : (tl y n).length = n - 1 := by simp [tl]
theorem tl_mem {y : Nat → Int} {n : Nat} {p : Int × Int} : p ∈ tl y n ↔ ∃ j : Nat, 1 ≤ j ∧ j < n ∧ p = (y j, (j : Int)) := by
  unfold tl
  rw [List.mem_map]
  constructor
  · rintro ⟨j, hj, rfl⟩
    rw [List.mem_range'_1] at hj
    exact ⟨j, by omega, by omega, rfl⟩
  · rintro ⟨j, h1, h2, rfl⟩
    exact ⟨j, by rw [List.mem_range'_1]; omega, rfl⟩
theorem tl_valid {y : Nat → Int} {n : Nat} (h : Mk y n) : ∀ p ∈ tl y n, validB (n : Int) p = true := by
  intro p hp
  obtain ⟨j, h1, h2, rfl⟩ := tl_mem.1 hp
  have := h j h1 h2
  rw [validB, decide_eq_true_eq]
  dsimp only
  omega
theorem tame_tl (l : List Int) (m : Nat) : tameL l m = tl (tameAt l) m := by
  have h : ∀ (d j : Nat) (acc : List (Int × Int)), tameGo l j d acc = acc ++ (List.range' j d).map fun i => (tameAt l i, (i : Int)) := by
    intro d
    induction d with
    | zero => intro j acc; simp [tameGo]
    | succ d ih =>
      intro j acc
      rw [tameGo, ih, List.range'_succ, List.map_cons, List.append_assoc, List.singleton_append]
  rw [tameL, h, List.nil_append, tl]
theorem tl_tree {y : Nat → Int} {n : Nat} (h : Mk y n) (hn : 1 ≤ n ∧ n ≤ 30) : treeOk (n : Int) (tl y n) = true := by
  have hv := tl_valid h
  have hA := adjOf_inv hv
  rw [treeOk, Bool.and_eq_true, decide_eq_true_eq]
  refine ⟨⟨⟨by omega, by rw [tl_len]; omega⟩, List.all_eq_true.2 hv⟩, ?_⟩
  rw [farOk, decide_eq_true_eq, Int.toNat_natCast, farF, hA.len]
  have hE : ∀ x z : Nat, x < n → ((z : Int) ∈ rowE (tl y n) (x : Int) → z ∈ (adjOf n (tl y n)).getD x []) := by
    intro x z hx hz
    obtain ⟨r, h1, h2⟩ := adjOf_row hv hx
    have e : (adjOf n (tl y n)).getD x [] = r := by simp [List.getD, h1]
    rw [← h2, rowI, List.mem_map] at hz
    obtain ⟨k, hk, e2⟩ := hz
    have : k = z := by omega
    rw [e, ← this]; exact hk
  have hnb : ∀ x, x < n → ∀ z ∈ (adjOf n (tl y n)).getD x [], z < n := by
    intro x hx z hz
    have e : (adjOf n (tl y n)).getD x [] = (adjOf n (tl y n))[x]'(by rw [hA.len]; exact hx) := by simp [List.getD, List.getElem?_eq_getElem (show x < (adjOf n (tl y n)).length by rw [hA.len]; exact hx)]
    rw [e] at hz
    exact (hA.row _ (List.getElem_mem _)).2 z hz
  obtain ⟨b1, b2, b3⟩ := bGo_closed (fun z => (adjOf n (tl y n)).getD z []) n hnb n 0 (bInit n 0) (by omega) (bInit_inv (by omega)) (Nat.zero_le _) (fun k x hk => by omega)
  have all : ∀ k : Nat, k < n → k ∈ (bGo (fun z => (adjOf n (tl y n)).getD z []) n 0 (bInit n 0)).2 := by
    intro k
    induction k using Nat.strongRecOn with
    | ind k ih =>
      intro hk
      by_cases h0 : k = 0
      · subst h0; exact b2 0 (by simp [bInit])
      · have hy := h k (by omega) hk
        have h1 := ih (y k).toNat (by omega) (by omega)
        refine b3 _ h1 k (hE _ k (by omega) (rowE_mem.2 ⟨(y k, (k : Int)), tl_mem.2 ⟨k, by omega, hk, rfl⟩, .inl ⟨by dsimp only; omega, rfl⟩⟩))
  intro hm
  obtain ⟨k, hk, e⟩ := List.mem_iff_getElem.1 hm
  have hkl : k < n := by have := bfs_len (fun z => (adjOf n (tl y n)).getD z []) n 0; omega
  have := (b1.got k hkl).2 (all k hkl)
  have e2 : (bGo (fun z => (adjOf n (tl y n)).getD z []) n 0 (bInit n 0)).1.getD k 0 = -1 := by
    rw [← e]
    exact getD_at hk
  omega
end Go.Proofs.Ytmhfkhlamnapdaa
end
section
open Go Go.HL
namespace Go.Proofs.Ytmhfkhlamnapdaa
theorem arg_pli {H : Heap} {l : List (Int × Int)} {b m mx : Nat} (hm : l.length = m) (hb : H[b]? = some (.arr 2 (l.map encP) true mx)) : toArg H 6 (.sl b 0 m none m 2) = some (.imm .arg 2 (l.map encP)) := by
  subst hm
  have e : toArg H 6 (.sl b 0 l.length none l.length 2) = if l.length = 0 then some (.imm .arg 2 []) else match view H b 0 l.length l.length 2 with | some l => (match mapO (toArg H 5) l with | some l => some (.imm .arg 2 l) | none => none) | none => none := rfl
  rw [e]
  split
  · rename_i h0
    rw [List.length_eq_zero_iff.1 h0]; rfl
  · have hv : view H b 0 l.length l.length 2 = some (l.map encP) := by
      simp only [view, hb, List.length_map]
      rw [if_pos ⟨trivial, by omega, trivial⟩]
      simp [List.take_of_length_le]
    have hm : mapO (toArg H 5) (l.map encP) = some (l.map encP) := mapO_self (f := toArg H 5) (g := encP) (fun _ => rfl) l
    rw [hv]
    simp only [hm]
theorem encP_anyi (l : List (Int × Int)) : (l.map encP).any isOwn = false := by
  rw [List.any_eq_false]
  intro v hv
  obtain ⟨k, _, rfl⟩ := List.mem_map.1 hv
  simp [encP, isOwn]
theorem recv_prs (l : List (Int × Int)) (H : Heap) : recv (.own 2 (l.map encP)) H = (.sl H.length 0 l.length none l.length 2, H ++ [.arr 2 (l.map encP) true 0]) := by
  simp only [recv, recvVal, recvCell, encP_anyi, List.length_map]
  rfl
theorem tameAt_ok (l : List Int) (n : Nat) (hn : n ≤ 1000) : Mk (tameAt l) n := by
  intro j h1 h2
  unfold tameAt
  split
  · have := modW_bounds (by assumption) (j : Int) (by omega) (by omega)
    omega
  · omega
end Go.Proofs.Ytmhfkhlamnapdaa
end
section
open Go Go.HL
namespace Go.Proofs.Ytmhfkhlamnapdaa
theorem bestGo_mono : ∀ (l : List Int) {i j : Nat} {p q : Int}, i ≤ j → p ≤ q → bestGo i p l ≤ bestGo j q l
  | [], _, _, _, _, _, h => h
  | t :: l, i, j, p, q, hij, hpq => by
    rw [bestGo, bestGo]
    exact bestGo_mono l (by omega) (by omega)
theorem bestGo_max (c : Int) : ∀ (l : List Int) (i : Nat) (p : Int), bestGo i (max c p) l = max c (bestGo i p l)
  | [], _, _ => rfl
  | t :: l, i, p => by
    rw [bestGo, bestGo, show max (max c p) ((i : Int) + 1 + t) = max c (max p ((i : Int) + 1 + t)) by omega, bestGo_max c l]
theorem bestGo_shift : ∀ (l : List Int) {i : Nat} {p q : Int}, p ≤ q + 1 → bestGo (i + 1) p l ≤ bestGo i q l + 1
  | [], _, _, _, h => h
  | t :: l, i, p, q, h => by
    rw [bestGo, bestGo]
    exact bestGo_shift l (by omega)
theorem bestGo_ge : ∀ (l : List Int) (i : Nat) (p : Int), p ≤ bestGo i p l
  | [], _, _ => Int.le_refl _
  | t :: l, i, p => by
    rw [bestGo]
    have := bestGo_ge l (i + 1) (max p ((i : Int) + 1 + t))
    omega
theorem bestGo_mem : ∀ (l : List Int) (i : Nat) (p t : Int), t ∈ l → (i : Int) + 1 + t ≤ bestGo i p l
  | a :: l, i, p, t, h => by
    rw [bestGo]
    rcases List.mem_cons.1 h with rfl | h
    · have := bestGo_ge l (i + 1) (max p ((i : Int) + 1 + t))
      omega
    · have := bestGo_mem l (i + 1) (max p ((i : Int) + 1 + a)) t h
      omega
theorem best_mem {l : List Int} {t : Int} (h : t ∈ l) : t + 1 ≤ best l := by
  have := bestGo_mem (dsort l) 0 0 t ((dsort_perm l).mem_iff.2 h)
  unfold best
  omega
theorem dsort_cons (a : Int) (l : List Int) : dsort (a :: l) = dsIns a (dsort l) :=
  (fl_dsort (dsIns_fl a (dsort_fl l)) ((dsIns_perm a (dsort l)).trans ((dsort_perm l).cons a))).symm
theorem bestGo_ins_le (a : Int) : ∀ (S : List Int) (i : Nat) (p : Int), bestGo i p (dsIns a S) ≤ max (max p ((i : Int) + 1 + a)) (bestGo (i + 1) p S)
  | [], i, p => by
    simp only [dsIns, bestGo]
    omega
  | b :: S, i, p => by
    rw [dsIns]
    split
    · rename_i hab
      have h1 := bestGo_ins_le a S (i + 1) (max p ((i : Int) + 1 + b))
      have h2 := bestGo_mono S (i := i + 1 + 1) (j := i + 1 + 1) (p := max p ((i : Int) + 1 + b)) (q := max p (((i + 1 : Nat) : Int) + 1 + b)) (Nat.le_refl _) (by omega)
      have h3 := bestGo_ge S (i + 1 + 1) (max p (((i + 1 : Nat) : Int) + 1 + b))
      rw [bestGo, bestGo]
      omega
    · rw [bestGo, show max p ((i : Int) + 1 + a) = max ((i : Int) + 1 + a) p by omega, bestGo_max]
      omega
theorem bestGo_ins_ge (a : Int) : ∀ (S : List Int) (i : Nat) (p : Int), bestGo i p S ≤ bestGo i p (dsIns a S)
  | [], i, p => by
    simp only [dsIns, bestGo]
    omega
  | b :: S, i, p => by
    rw [dsIns]
    split
    · rw [bestGo, bestGo]
      exact bestGo_ins_ge a S _ _
    · rw [bestGo, bestGo, bestGo]
      exact bestGo_mono S (by omega) (by omega)
theorem best_cons_le (a : Int) (l : List Int) : best (a :: l) ≤ max (max 0 (a + 1)) (best l + 1) := by
  unfold best
  rw [dsort_cons]
  have h1 := bestGo_ins_le a (dsort l) 0 0
  have h2 := bestGo_shift (dsort l) (i := 0) (p := 0) (q := 0) (by omega)
  omega
theorem best_cons_ge (a : Int) (l : List Int) : best l ≤ best (a :: l) := by
  unfold best
  rw [dsort_cons]
  exact bestGo_ins_ge a _ 0 0
theorem best_perm {l m : List Int} (h : l.Perm m) : best l = best m := by unfold best; rw [dsort_eq h]
def sum2 : List Int → Nat
  | [] => 0
  | t :: l => 2 ^ t.toNat + sum2 l
theorem sum2_ins (t : Int) : ∀ l : List Int, sum2 (dsIns t l) = 2 ^ t.toNat + sum2 l
  | [] => rfl
  | a :: l => by
    rw [dsIns]
    split
    · rw [sum2, sum2_ins t l, sum2]; omega
    · rfl
theorem sum2_acc : ∀ (l acc : List Int), sum2 (dsAcc acc l) = sum2 acc + sum2 l
  | [], acc => by simp [dsAcc, sum2]
  | t :: l, acc => by rw [dsAcc, sum2_acc l, sum2_ins, sum2]; omega
theorem sum2_le : ∀ (l : List Int) (i : Nat) (p B : Int), bestGo i p l ≤ B → (∀ t, t ∈ l → 0 ≤ t) → (i : Int) ≤ B → sum2 l + 1 ≤ 2 ^ (B - i).toNat
  | [], i, p, B, _, _, _ => by
    rw [sum2]
    exact Nat.one_le_two_pow
  | t :: l, i, p, B, h, h0, hi => by
    rw [bestGo] at h
    have h1 := bestGo_ge l (i + 1) (max p ((i : Int) + 1 + t))
    have ht := h0 t (by simp)
    have ih := sum2_le l (i + 1) _ B h (fun t ht => h0 t (by simp [ht])) (by omega)
    have h2 : 2 ^ t.toNat ≤ 2 ^ (B - ((i + 1 : Nat) : Int)).toNat := Nat.pow_le_pow_right (by omega) (by omega)
    have h3 : (B - (i : Int)).toNat = (B - ((i + 1 : Nat) : Int)).toNat + 1 := by omega
    rw [sum2, h3, Nat.pow_succ]
    omega
theorem tmF_pow (row : Int → List Int) : ∀ (k : Nat) (v w : Int), (ds row k v w).length ≤ 2 ^ (tmF row k v w).toNat
  | 0, v, w => by simp [ds, tmF]
  | k + 1, v, w => by
    have h2 : sum2 (dsort ((keep w (row v)).map fun u => tmF row k u v)) = sum2 ((keep w (row v)).map fun u => tmF row k u v) := by
      rw [dsort, sum2_acc]; simp [sum2]
    have hn : 0 ≤ tmF row (k + 1) v w := tmF_nonneg row (k + 1) v w
    have h1 := sum2_le (dsort ((keep w (row v)).map fun u => tmF row k u v)) 0 0 (tmF row (k + 1) v w) (by rw [tmF]; exact Int.le_refl _) (fun t ht => by
      rw [(dsort_perm _).mem_iff, List.mem_map] at ht
      obtain ⟨u, _, rfl⟩ := ht
      exact tmF_nonneg row k u v) (by omega)
    have h3 : ∀ K : List Int, (K.flatMap fun u => ds row k u v).length ≤ sum2 (K.map fun u => tmF row k u v) := by
      intro K
      induction K with
      | nil => simp [sum2]
      | cons a K ih =>
        have := tmF_pow row k a v
        rw [List.map_cons, sum2, List.flatMap_cons, List.length_append]
        omega
    have h4 := h3 (keep w (row v))
    have h5 : (tmF row (k + 1) v w - ((0 : Nat) : Int)).toNat = (tmF row (k + 1) v w).toNat := by omega
    rw [h5, h2] at h1
    rw [ds, List.length_cons]
    omega
section
variable {l : List (Int × Int)} {ρ : Int → Nat} {M : Nat}
theorem Anc.trans {z p r : Int} (h : Anc l ρ z p) (h' : Anc l ρ p r) : Anc l ρ z r := by
  induction h' with
  | refl => exact h
  | step _ h2 h3 ih => exact .step ih h2 h3
end
section
variable {l : List (Int × Int)} {ρ : Int → Nat} {M : Nat}
theorem ds_cover : ∀ (k : Nat) (v w z : Int), Anc l ρ z v → ρ z ≤ ρ v + k → (∀ u, u ∈ rowE l v → ρ v < ρ u → u ≠ w) → z ∈ ds (rowE l) k v w
  | 0, v, w, z, h, hk, _ => by
    cases h with
    | refl => simp [ds]
    | step h1 h2 h3 => have := h1.le; omega
  | k + 1, v, w, z, h, hk, hw => by
    rw [ds]
    cases h with
    | refl => simp
    | step h1 h2 h3 =>
      rename_i u
      have hu := rowE_sym h2
      refine List.mem_cons_of_mem _ (List.mem_flatMap.2 ⟨u, keep_mem.2 ⟨hu, hw u hu h3⟩, ds_cover k u v z h1 (by omega) fun x hx hlt e => ?_⟩)
      rw [e] at hlt
      omega
end
section
variable {l : List (Int × Int)} {ρ : Int → Nat} {M : Nat}
theorem Rtd.anc {n r : Nat} (hR : Rtd l n r ρ) (hv : ∀ p ∈ l, validB (n : Int) p = true) : ∀ (k z : Nat), z < n → ρ (z : Int) ≤ k → Anc l ρ (z : Int) (r : Int)
  | 0, z, hz, hk => by
    by_cases e : z = r
    · rw [e]; exact .refl
    · obtain ⟨u, _, h2⟩ := hR.up z hz e
      omega
  | k + 1, z, hz, hk => by
    by_cases e : z = r
    · rw [e]; exact .refl
    · obtain ⟨u, h1, h2⟩ := hR.up z hz e
      have hu := valid_row hv h1
      have e2 : ((u.toNat : Nat) : Int) = u := by omega
      have := Rtd.anc hR hv k u.toNat (by omega) (by rw [e2]; omega)
      rw [e2] at this
      exact Anc.trans (.step .refl h1 (by omega)) this
end
section
variable {l : List (Int × Int)} {ρ : Int → Nat} {M : Nat}
theorem tmF_far (hone : ∀ p ∈ l, ρ p.1 = ρ p.2 + 1 ∨ ρ p.2 = ρ p.1 + 1) : ∀ (k : Nat) (v w z : Int), z ∈ ds (rowE l) k v w → (ρ z : Int) ≤ ρ v + tmF (rowE l) k v w
  | 0, v, w, z, hz => by
    rw [ds, List.mem_singleton] at hz
    rw [hz, tmF]; omega
  | k + 1, v, w, z, hz => by
    rw [ds] at hz
    have h0 := tmF_nonneg (rowE l) (k + 1) v w
    rcases List.mem_cons.1 hz with rfl | hz
    · omega
    · obtain ⟨u, hu, hz⟩ := List.mem_flatMap.1 hz
      have ih := tmF_far hone k u v z hz
      have h1 : tmF (rowE l) k u v + 1 ≤ tmF (rowE l) (k + 1) v w := best_mem (l := (keep w (rowE l v)).map fun u => tmF (rowE l) k u v) (List.mem_map_of_mem hu)
      obtain ⟨p, hp, hE⟩ := rowE_mem.1 (keep_mem.1 hu).1
      have h2 := hone p hp
      have h3 : ρ u ≤ ρ v + 1 := by
        rcases hE with ⟨a, b⟩ | ⟨a, b⟩
        · rw [a, b] at h2; omega
        · rw [a, b] at h2; omega
      omega
end
section
variable {l : List (Int × Int)} {ρ : Int → Nat} {M : Nat}
theorem keep_all {r : List Int} (h : ∀ u, u ∈ r → 0 ≤ u) : keep (-1) r = r := by
  rw [keep, List.filter_eq_self]
  intro u hu
  have := h u hu
  simp
  omega
end
section
variable {l : List (Int × Int)} {ρ : Int → Nat} {M : Nat}
theorem perm_keep {v : Int} : ∀ {r : List Int}, r.Nodup → v ∈ r → r.Perm (v :: keep v r)
  | a :: r, hd, h => by
    rw [List.nodup_cons] at hd
    by_cases e : a = v
    · have : keep v (a :: r) = r := by
        rw [keep, List.filter_cons, if_neg (by simp [e]), List.filter_eq_self]
        intro u hu
        simp only [Bool.not_eq_true', decide_eq_false_iff_not]
        intro e2
        exact hd.1 (by rw [e, ← e2]; exact hu)
      rw [this, e]
    · have h2 : v ∈ r := by
        rcases List.mem_cons.1 h with h | h
        · exact absurd h.symm e
        · exact h
      have ih := perm_keep hd.2 h2
      have : keep v (a :: r) = a :: keep v r := by rw [keep, List.filter_cons, if_pos (by simp [e])]; rfl
      rw [this]
      exact (ih.cons a).trans (.swap _ _ _)
end
section
variable {l : List (Int × Int)} {ρ : Int → Nat} {M : Nat}
theorem tm_near {n : Nat} (hO : Ori l ρ M) (hM : M ≤ 70) (hv : ∀ p ∈ l, validB (n : Int) p = true) {u v : Int} (huv : u ∈ rowE l v) :
    tm (rowE l) u v + 1 ≤ tm (rowE l) v (-1) ∧ tm (rowE l) v u ≤ tm (rowE l) v (-1) ∧ tm (rowE l) v (-1) ≤ max (tm (rowE l) u v + 1) (tm (rowE l) v u + 1) := by
  have hvr := valid_row hv (rowE_sym huv)
  have hur := valid_row hv huv
  have hle := hO.le huv
  have m1 := mu_le l ρ M v (-1) hle.2
  have m2 := mu_le l ρ M v u hle.2
  have e1 := tm_rec (hO.msr hv) (v := v) (w := -1) ⟨hvr, .inl rfl⟩ (by omega)
  have e2 := tm_rec (hO.msr hv) (v := v) (w := u) ⟨hvr, .inr huv⟩ (by omega)
  rw [keep_all (fun z hz => (valid_row hv hz).1)] at e1
  have hp := (perm_keep (hO.nodup v) huv).map fun z => tm (rowE l) z v
  have e3 : tm (rowE l) v (-1) = best (tm (rowE l) u v :: (keep u (rowE l v)).map fun z => tm (rowE l) z v) := by
    rw [e1]
    exact best_perm hp
  have e4 : tm (rowE l) v u = best ((keep u (rowE l v)).map fun z => tm (rowE l) z v) := e2
  have h0 := tmF_nonneg (rowE l) 200 u v
  have h1 := best_cons_le (tm (rowE l) u v) ((keep u (rowE l v)).map fun z => tm (rowE l) z v)
  have h2 := best_cons_ge (tm (rowE l) u v) ((keep u (rowE l v)).map fun z => tm (rowE l) z v)
  have h3 := best_mem (l := tm (rowE l) u v :: (keep u (rowE l v)).map fun z => tm (rowE l) z v) (t := tm (rowE l) u v) (by simp)
  have h4 : 0 ≤ tm (rowE l) u v := h0
  rw [← e3, ← e4] at h1
  rw [← e3, ← e4] at h2
  rw [← e3] at h3
  omega
end
section
variable {l : List (Int × Int)} {ρ : Int → Nat} {M : Nat}
theorem tm_between {n : Nat} (hO : Ori l ρ M) (hM : M ≤ 70) (hv : ∀ p ∈ l, validB (n : Int) p = true) {u v : Int} (huv : u ∈ rowE l v) : tm (rowE l) u (-1) ≤ tm (rowE l) v (-1) + 1 := by
  obtain ⟨a1, a2, _⟩ := tm_near hO hM hv huv
  obtain ⟨_, _, b3⟩ := tm_near hO hM hv (rowE_sym huv)
  omega
end
/-- All of it, for a tree. -/
theorem tree_between {n : Nat} {l : List (Int × Int)} (h : treeOk (n : Int) l = true) {x : Nat} (hx : x < n) :
    (n : Int) ≤ ((2 ^ (tm (rowE l) x (-1)).toNat : Nat) : Int) ∧ ((rowE l x).length : Int) ≤ tm (rowE l) x (-1) ∧
    (∀ y : Nat, y < n → 0 ≤ (farF (adjOf n l) x).getD y 0 ∧ (farF (adjOf n l) x).getD y 0 ≤ tm (rowE l) x (-1) ∧ ((farF (adjOf n l) x).getD y 0 = 0 ↔ y = x) ∧
      ((farF (adjOf n l) x).getD y 0 = 1 → tm (rowE l) x (-1) - 1 ≤ tm (rowE l) y (-1) ∧ tm (rowE l) y (-1) ≤ tm (rowE l) x (-1) + 1)) := by
  obtain ⟨⟨hn, hl⟩, hv, hr⟩ := tree_rtd h
  have hA := adjOf_inv hv
  have hR := hr x hx
  obtain ⟨hO, hone⟩ := hR.ori hx hv hl
  have hD : ∀ u, u ∈ rowE l (x : Int) → (((bfs (fun y => (adjOf n l).getD y []) n x).getD (x : Int).toNat 0).toNat : Nat) < ((bfs (fun y => (adjOf n l).getD y []) n x).getD u.toNat 0).toNat → u ≠ -1 := fun u hu _ => by
    have := (valid_row hv hu).1; omega
  have hcov : ∀ z : Nat, z < n → (z : Int) ∈ ds (rowE l) 200 x (-1) := fun z hz => by
    have h1 := hR.anc hv n z hz (hR.le z hz)
    have h2 := hR.le z hz
    exact ds_cover 200 x (-1) z h1 (Nat.le_trans h2 (Nat.le_trans (by omega : n ≤ 200) (Nat.le_add_left 200 _))) hD
  have hfar : farF (adjOf n l) x = bfs (fun y => (adjOf n l).getD y []) n x := by rw [farF, hA.len]
  refine ⟨?_, ?_, fun y hy => ?_⟩
  · have h1 := tmF_pow (rowE l) 200 x (-1)
    have h2 : ((List.range n).map fun z : Nat => (z : Int)).length ≤ (ds (rowE l) 200 x (-1)).length := by
      have hnd : ((List.range n).map fun z : Nat => (z : Int)).Nodup := by
        unfold List.Nodup
        rw [List.pairwise_map]
        exact List.nodup_range.imp fun {a b} hab => by omega
      rcases Nat.lt_or_ge (ds (rowE l) 200 x (-1)).length ((List.range n).map fun z : Nat => (z : Int)).length with hlt | hge
      · have := perm_of_sub ((List.range n).map fun z : Nat => (z : Int)) (ds (rowE l) 200 x (-1)) hnd (fun v hv' => by
          obtain ⟨z, hz, rfl⟩ := List.mem_map.1 hv'
          exact hcov z (List.mem_range.1 hz)) (by omega)
        rw [this.length_eq]; exact Nat.le_refl _
      · exact hge
    rw [List.length_map, List.length_range] at h2
    unfold tm
    omega
  · have hx0 : Gd l n (x : Int) (-1) := ⟨⟨by omega, by omega⟩, .inl rfl⟩
    have m1 := mu_le l (fun v => ((bfs (fun y => (adjOf n l).getD y []) n x).getD v.toNat 0).toNat) n (x : Int) (-1) (hR.le x hx)
    have e1 := tm_rec (hO.msr hv) hx0 (by omega)
    rw [keep_all (fun z hz => (valid_row hv hz).1)] at e1
    have h1 := best_len (l := (rowE l (x : Int)).map fun u => tm (rowE l) u x) (fun t ht => by
      obtain ⟨u, _, rfl⟩ := List.mem_map.1 ht
      exact tmF_nonneg (rowE l) 200 u x)
    rw [List.length_map] at h1
    rw [e1]
    exact h1
  · have hroot := hR.root
    have hup := hR.up y hy
    have hle := hR.le y hy
    have hf := tmF_far (ρ := fun v => ((bfs (fun y => (adjOf n l).getD y []) n x).getD v.toNat 0).toNat) hone 200 x (-1) y (hcov y hy)
    obtain ⟨p1, p2, p3⟩ := bfs_pnt (fun y => (adjOf n l).getD y []) (r := x) hx (fun z hz w hw => by
      have e : (adjOf n l).getD z [] = (adjOf n l)[z]'(by rw [hA.len]; exact hz) := by simp [List.getD, List.getElem?_eq_getElem (show z < (adjOf n l).length by rw [hA.len]; exact hz)]
      rw [e] at hw
      exact (hA.row _ (List.getElem_mem _)).2 w hw)
    rw [hfar]
    simp only [Int.toNat_natCast] at hroot hup hf
    -- the lengths are not negative
    have hnn : 0 ≤ (bfs (fun y => (adjOf n l).getD y []) n x).getD y 0 := by
      by_cases e : y = x
      · rw [e, p2]; exact Int.le_refl _
      · obtain ⟨u, _, h2⟩ := hup e
        omega
    rw [hroot] at hf
    unfold tm
    refine ⟨hnn, by omega, ⟨fun e => ?_, fun e => by rw [e, p2]⟩, fun e => ?_⟩
    · rcases Nat.eq_or_lt_of_le (Nat.zero_le 0) with _ | _
      · by_cases e2 : y = x
        · exact e2
        · obtain ⟨u, _, h2⟩ := hup e2
          omega
      · omega
    · have hyx : y ≠ x := by
        intro e2
        rw [e2, p2] at e
        omega
      rcases p1 y hy hnn with e2 | ⟨w, hw, h4, h5, h6⟩
      · exact absurd e2 hyx
      · have hw0 : (bfs (fun y => (adjOf n l).getD y []) n x).getD w 0 = 0 := by omega
        have hwx : w = x := by
          by_cases e2 : w = x
          · exact e2
          · obtain ⟨u, _, h2⟩ := hR.up w hw e2
            simp only [Int.toNat_natCast] at h2
            omega
        rw [hwx] at h4
        have hE : (y : Int) ∈ rowE l (x : Int) := by
          obtain ⟨r, h1, h2⟩ := adjOf_row hv hx
          have e3 : (adjOf n l).getD x [] = r := by simp [List.getD, h1]
          have h4 : y ∈ r := by rw [← e3]; exact h4
          rw [← h2, rowI]
          exact List.mem_map_of_mem h4
        have b1 := tm_between hO (by omega) hv hE
        have b2 := tm_between hO (by omega) hv (rowE_sym hE)
        unfold tm at b1 b2
        omega
end Go.Proofs.Ytmhfkhlamnapdaa
end
section
open Go Go.HL
namespace Go.Proofs.Ytmhfkhlamnapdaa
theorem j22 (x n : Int) (hn : 0 < n ∧ n < 9223372036854775808) (H : Heap) : ∀ k, callN Try.prog polJ (k + 1) 22 [.int .i64 x, .int .i64 n] H = some (.int .i64 (modW x n), H) := fun k => by
  rw [prim_call (pol := polJ) (g := 22) (F := modF) (by kernel_rfl) (rs := [.int .i64 x, .int .i64 n]) rfl (res := .int .i64 (modW x n)) (by simp only [modF]; rw [if_pos hn])]; rfl
theorem j23 (l : List Int) {m : Nat} (hm : 1 ≤ m ∧ m ≤ 1000) (H : Heap) : ∀ k, callN Try.prog polJ (k + 1) 23 [.imm .arg 1 (l.map encI), .int .i64 (m : Int)] H = some (.sl H.length 0 (m - 1) none (m - 1) 2, H ++ [.arr 2 ((tl (tameAt l) m).map encP) true 0]) := fun k => by
  have ha : toArg H 6 (.imm .arg 1 (l.map encI)) = some (.imm .arg 1 (l.map encI)) := by
    show argP (.imm .arg 1 (l.map encI)) = _
    simp only [argP, argP_ints']
  rw [prim_call (pol := polJ) (g := 23) (F := tame23) (by kernel_rfl) (rs := [.imm .arg 1 (l.map encI), .int .i64 (m : Int)]) (by simp only [mapO, ha]; rfl) (res := .own 2 ((tl (tameAt l) m).map encP)) (by
    simp only [tame23, mapO_map decI_enc]
    rw [if_pos (by omega), Int.toNat_natCast, tame_tl]), recv_prs, tl_len]
theorem j24 {l : List (Int × Int)} {H : Heap} {b m : Nat} (hm : l.length = m) (hb : H[b]? = some (.arr 2 (l.map encP) true 0)) (n x : Int) : ∀ k, callN Try.prog polJ (k + 1) 24 [.int .i64 n, .sl b 0 m none m 2, .int .i64 x] H = some (.tuple [.int .i64 (timeF n l x).1, .int .i64 (timeF n l x).2], H) := fun k => by
  have ha := arg_pli hm hb
  rw [prim_call (pol := polJ) (g := 24) (F := time24) (by kernel_rfl) (rs := [.int .i64 n, .imm .arg 2 (l.map encP), .int .i64 x]) (by simp only [mapO, ha]; rfl) (res := .tuple [.int .i64 (timeF n l x).1, .int .i64 (timeF n l x).2]) (by simp only [time24, mapO_map decP_enc])]; rfl
theorem j25 {l : List (Int × Int)} {H : Heap} {b m : Nat} (hm : l.length = m) (hb : H[b]? = some (.arr 2 (l.map encP) true 0)) (n x : Int) {o : List Int} {e : Int} (he : pfarF n l x = (o, e)) : ∀ k, callN Try.prog polJ (k + 1) 25 [.int .i64 n, .sl b 0 m none m 2, .int .i64 x] H = some (.tuple [.sl H.length 0 o.length none o.length 1, .int .i64 e], H ++ [bI o]) := fun k => by
  have ha := arg_pli hm hb
  have hno : (o.map encI).any isOwn = false := by
    rw [List.any_eq_false]
    intro v hv
    obtain ⟨k, _, rfl⟩ := List.mem_map.1 hv
    simp [encI, isOwn]
  rw [prim_call (pol := polJ) (g := 25) (F := far25) (by kernel_rfl) (rs := [.int .i64 n, .imm .arg 2 (l.map encP), .int .i64 x]) (by simp only [mapO, ha]; rfl) (res := .tuple [.own 1 (o.map encI), .int .i64 e]) (by simp only [far25, mapO_map decP_enc, he])]
  simp only [recv, recvVals, recvVal, recvCell, hno, List.length_map]
  rfl
theorem j26 {l : List (Int × Int)} {H : Heap} {b m n : Nat} (hm : l.length = m) (hb : H[b]? = some (.arr 2 (l.map encP) true 0)) (hn : n ≤ 1000) (hl : m ≤ 1000) (hv : ∀ p ∈ l, validB (n : Int) p = true) (x : Int) : ∀ k, callN Try.prog polJ (k + 1) 26 [.int .i64 (n : Int), .sl b 0 m none m 2, .int .i64 x] H = some (.int .i64 ((nbrs n l x).length : Int), H) := fun k => by
  have ha := arg_pli hm hb
  rw [prim_call (pol := polJ) (g := 26) (F := neigh26) (by kernel_rfl) (rs := [.int .i64 (n : Int), .imm .arg 2 (l.map encP), .int .i64 x]) (by simp only [mapO, ha]; rfl) (res := .int .i64 ((nbrs n l x).length : Int)) (by
    simp only [neigh26, mapO_map decP_enc]
    rw [if_pos ⟨⟨by omega, by omega⟩, valid_all hv⟩, Int.toNat_natCast])]; rfl
theorem shl_pow {t : Int} (h0 : 0 ≤ t) (h1 : t ≤ 40) : binV Try.prog .shl 3 (.int .i64 1) (.int .i64 t) = some (.int .i64 ((2 ^ t.toNat : Nat) : Int)) := by
  have hp : 2 ^ t.toNat ≤ 2 ^ 40 := Nat.pow_le_pow_right (by omega) (by omega)
  have hmin : min t.toNat IntKind.i64.bits = t.toNat := by
    have : IntKind.i64.bits = 64 := rfl
    omega
  have e : (1 : Int) * 2 ^ t.toNat = ((2 ^ t.toNat : Nat) : Int) := by rw [Int.one_mul, Int.natCast_pow]; rfl
  simp only [binV, intBin]
  rw [if_neg (by omega), hmin, e]
  congr 2
  rw [wrapI64]
  generalize 2 ^ t.toNat = P at hp
  omega
theorem res5 : Try.f5.results.toList = [.tmp 6] := by kernel_rfl
section
variable {n : Nat} {L : List (Int × Int)} {x : Nat} {la : List HV}
abbrev bwE (n : Nat) (la : List HV) (x m : Nat) (t : Int) (i : Nat) (v13 v14 : HV) : Env := env5 (.int .i64 (n : Int)) (.imm .arg 1 la) (.int .i64 (x : Int)) (.bool false) (.sl 0 0 m none m 2) (.int .i64 t) .undef (.sl 1 0 n none n 1) .undef (.int .i64 (i : Int)) v13 v14
end
section
variable {n : Nat} {L : List (Int × Int)} {x : Nat} {la : List HV}
theorem bw_loop (htr : treeOk (n : Int) L = true) (hx : x < n) (hL : L.length + 1 = n) (hn : n ≤ 30) (ho : (farF (adjOf n L) x).length = n) : ∀ d i, i + d = n →
    RunsTo Try.prog polJ 5 (sub [1, 1, 1, 1, 1, 1, 1, 0, 1, 0] B5) (bwE n la x (n - 1) (tm (rowE L) x (-1)) i .undef .undef) [.arr 2 (L.map encP) true 0, bI (farF (adjOf n L) x)]
      (.exit 0) (polJ.keys 5) (bwE n la x (n - 1) (tm (rowE L) x (-1)) n .undef .undef) [.arr 2 (L.map encP) true 0, bI (farF (adjOf n L) x)] := by
  obtain ⟨_, _, hall⟩ := tree_between htr hx
  have hbt := tree_small htr hx
  have hnn := tmF_nonneg (rowE L) 200 x (-1)
  intro d
  induction d with
  | zero =>
    intro i hi
    have hi : i = n := by omega
    subst hi
    exact RunsTo.loop_out (RunsTo.seq_out (bw_i_1 (i : Int) la (x : Int) (i - 1) (L.map encP) _ i ((farF (adjOf i L) x).map encI) i (by omega)) (by simp) (c := sub [1, 1, 1, 1, 1, 1, 1, 0, 1, 0, 0] B5) (b := sub [1, 1, 1, 1, 1, 1, 1, 0, 1, 0, 0, 1] B5) (by kernel_rfl)) (by simp) (by kernel_rfl) (by kernel_rfl)
  | succ d ih =>
    intro i hi
    obtain ⟨y1, y2, y3, y4⟩ := hall i (by omega)
    have hin : i < n := by omega
    have e := bw_i_0 (n : Int) la (x : Int) (n - 1) (L.map encP) (tm (rowE L) x (-1)) n ((farF (adjOf n L) x).map encI) i (by omega)
    have hb1 : ([.arr 2 (L.map encP) true 0, bI (farF (adjOf n L) x)] : Heap)[1]? = some (bI (farF (adjOf n L) x)) := rfl
    have gi := gi2 (db := 1) hin
    have gl := gl2 hb1 ho hin
    have j : RunsTo Try.prog polJ 5 (sub [1, 1, 1, 1, 1, 1, 1, 0, 1, 0, 0, 1, 0, 0, 0] B5) (bwE n la x (n - 1) (tm (rowE L) x (-1)) i .undef .undef) [.arr 2 (L.map encP) true 0, bI (farF (adjOf n L) x)] .normal (polJ.keys 5) (bwE n la x (n - 1) (tm (rowE L) x (-1)) i .undef .undef) [.arr 2 (L.map encP) true 0, bI (farF (adjOf n L) x)] := by
      by_cases c : i = x
      · exact bw_j_2 (n : Int) la (x : Int) (n - 1) (L.map encP) (tm (rowE L) x (-1)) n ((farF (adjOf n L) x).map encI) i _ _ _ gi gl (by omega) gi gl (by omega) gi gl (y3.2 c) (by omega)
      · exact bw_j_5 (n : Int) la (x : Int) (n - 1) (L.map encP) (tm (rowE L) x (-1)) n ((farF (adjOf n L) x).map encI) i _ _ _ gi gl (by omega) gi gl (by omega) gi gl (fun h => c (y3.1 h)) (by omega)
    have r := ih (i + 1) (by omega)
    have up : ∀ v13 v14, RunsTo Try.prog polJ 5 (sub [1, 1, 1, 1, 1, 1, 1, 0, 1, 0, 0, 1, 0, 0, 1] B5) (bwE n la x (n - 1) (tm (rowE L) x (-1)) i .undef .undef) [.arr 2 (L.map encP) true 0, bI (farF (adjOf n L) x)] .normal (polJ.keys 5) (bwE n la x (n - 1) (tm (rowE L) x (-1)) i v13 v14) [.arr 2 (L.map encP) true 0, bI (farF (adjOf n L) x)] →
        RunsTo Try.prog polJ 5 (sub [1, 1, 1, 1, 1, 1, 1, 0, 1, 0] B5) (bwE n la x (n - 1) (tm (rowE L) x (-1)) i .undef .undef) [.arr 2 (L.map encP) true 0, bI (farF (adjOf n L) x)] (.exit 0) (polJ.keys 5) (bwE n la x (n - 1) (tm (rowE L) x (-1)) n .undef .undef) [.arr 2 (L.map encP) true 0, bI (farF (adjOf n L) x)] := by
      intro v13 v14 k
      have l1 := bw_l_0 (n : Int) la (x : Int) (n - 1) (L.map encP) (tm (rowE L) x (-1)) n ((farF (adjOf n L) x).map encI) i v13 v14
      rw [wrap_succ (by omega)] at l1
      have t1 := RunsTo.block_normal (i := 1) (c := sub [1, 1, 1, 1, 1, 1, 1, 0, 1, 0, 0, 1, 0] B5) (RunsTo.seq j k (c := sub [1, 1, 1, 1, 1, 1, 1, 0, 1, 0, 0, 1, 0, 0] B5) (by kernel_rfl) (by kernel_rfl)) (by kernel_rfl)
      have t2 := RunsTo.seq e (RunsTo.seq t1 l1 (c := sub [1, 1, 1, 1, 1, 1, 1, 0, 1, 0, 0, 1] B5) (by kernel_rfl) (by kernel_rfl)) (c := sub [1, 1, 1, 1, 1, 1, 1, 0, 1, 0, 0] B5) (by kernel_rfl) (by kernel_rfl)
      exact RunsTo.loop t2 (by kernel_rfl) (gc_eq _ rfl) r rfl (by kernel_rfl) (by kernel_rfl)
    by_cases c : (farF (adjOf n L) x).getD i 0 = 1
    · obtain ⟨z1, z2⟩ := y4 c
      have ht : timeF (n : Int) L (i : Int) = (tm (rowE L) i (-1), 0) := by rw [timeF, if_pos ⟨htr, by omega, by omega⟩]
      have g3 := j24 (l := L) (H := [.arr 2 (L.map encP) true 0, bI (farF (adjOf n L) x)]) (b := 0) (m := n - 1) (by omega) rfl (n : Int) (i : Int)
      rw [ht] at g3
      have w1 : IntKind.i64.wrap (tm (rowE L) x (-1) - 1) = tm (rowE L) x (-1) - 1 := by rw [wrapI64]; unfold tm at hbt hnn ⊢; omega
      have w2 : IntKind.i64.wrap (tm (rowE L) x (-1) + 1) = tm (rowE L) x (-1) + 1 := by rw [wrapI64]; unfold tm at hbt hnn ⊢; omega
      exact up _ _ (bw_k_2 (n : Int) la (x : Int) (n - 1) (L.map encP) (tm (rowE L) x (-1)) n ((farF (adjOf n L) x).map encI) i _ _ _ gi gl c g3 rfl (by rw [w1]; omega) (by rw [w2]; omega))
    · exact up _ _ (bw_k_4 (n : Int) la (x : Int) (n - 1) (L.map encP) (tm (rowE L) x (-1)) n ((farF (adjOf n L) x).map encI) i _ gi gl c)
end
theorem relayBetween_law (a : Int) (l : List Int) (b : Int) : ∃ E H, RunsTo Try.prog polJ 5 B5 (args0 [.int .i64 a, .imm .arg 1 (l.map encI), .int .i64 b]) [] .ret (polJ.keys 5) E H ∧ E.get 6 = .bool true := by
  obtain ⟨h0, h1⟩ := modW_bounds a 30 (by omega) (by omega)
  have a1 := bw_a_0 a (l.map encI) b
  have b1 := bw_b_0 a (l.map encI) b _ (j22 a 30 (by omega) _)
  obtain ⟨n, hn⟩ : ∃ n : Nat, (n : Int) = 1 + modW a 30 := ⟨(1 + modW a 30).toNat, by omega⟩
  have hw : IntKind.i64.wrap (1 + modW a 30) = (n : Int) := by rw [wrapI64]; omega
  rw [hw] at b1
  have hMk := tameAt_ok l n (by omega)
  have c1 := bw_c_0 (n : Int) (l.map encI) b (n - 1) _ (j23 l (by omega) _)
  obtain ⟨f0, f1⟩ := modW_bounds b (n : Int) (by omega) (by omega)
  have d1 := bw_d_0 (n : Int) (l.map encI) b (n - 1) ((tl (tameAt l) n).map encP) _ (j22 b n (by omega) _)
  obtain ⟨x, hx⟩ : ∃ x : Nat, modW b (n : Int) = (x : Int) := ⟨(modW b (n : Int)).toNat, by omega⟩
  rw [hx] at d1 f0 f1
  have hlen := tl_len (tameAt l) n
  have htr := tl_tree hMk (by omega)
  have hv := tl_valid hMk
  generalize tl (tameAt l) n = L at c1 d1 hlen htr hv
  have hxn : x < n := by omega
  have ht : timeF (n : Int) L (x : Int) = (tm (rowE L) x (-1), 0) := by rw [timeF, if_pos ⟨htr, by omega, by omega⟩]
  have hf : pfarF (n : Int) L (x : Int) = (farF (adjOf n L) x, 0) := by rw [pfarF, if_pos ⟨htr, by omega, by omega⟩, Int.toNat_natCast, Int.toNat_natCast]
  have ho : (farF (adjOf n L) x).length = n := by rw [farF, bfs_len]; exact (adjOf_inv hv).len
  have g24 := j24 (l := L) (H := [.arr 2 (L.map encP) true 0]) (b := 0) (m := n - 1) hlen rfl (n : Int) (x : Int)
  rw [ht] at g24
  have e1 := bw_e_0 (n : Int) (l.map encI) (x : Int) (n - 1) (L.map encP) _ _ g24
  have g25 := j25 (l := L) (H := [.arr 2 (L.map encP) true 0]) (b := 0) (m := n - 1) hlen rfl (n : Int) (x : Int) hf
  rw [ho] at g25
  have f2 := bw_f_0 (n : Int) (l.map encI) (x : Int) (n - 1) (L.map encP) (tm (rowE L) x (-1)) 0 _ _ _ g25
  obtain ⟨q1, q2, _⟩ := tree_between htr hxn
  have hbt := tree_small htr hxn
  have hnn : 0 ≤ tm (rowE L) (x : Int) (-1) := tmF_nonneg (rowE L) 200 x (-1)
  have g1 := bw_g_2 (n : Int) (l.map encI) (x : Int) (n - 1) (L.map encP) (tm (rowE L) x (-1)) 0 n 0 ((farF (adjOf n L) x).map encI) rfl rfl rfl (by omega) (by omega)
  have h2 := bw_h_0 (n : Int) (l.map encI) (x : Int) (n - 1) (L.map encP) (tm (rowE L) x (-1)) 0 n 0 ((farF (adjOf n L) x).map encI)
  have r := bw_loop (la := l.map encI) htr hxn (by omega) (by omega) ho n 0 (by omega)
  have r' := RunsTo.loop_in (e0 := env5 (.int .i64 (n : Int)) (.imm .arg 1 (l.map encI)) (.int .i64 (x : Int)) (.bool false) (.sl 0 0 (n - 1) none (n - 1) 2) (.int .i64 (tm (rowE L) x (-1))) (.int .i64 0) (.sl 1 0 n none n 1) (.int .i64 0) (.int .i64 0) .undef .undef) r (b := sub [1, 1, 1, 1, 1, 1, 1, 0, 1, 0, 0] B5) (by kernel_rfl) (by kernel_rfl) (by kernel_rfl)
  obtain ⟨⟨_, _⟩, _, hrt⟩ := tree_rtd htr
  obtain ⟨hO, _⟩ := (hrt 0 (by omega)).ori (by omega) hv (by omega)
  have hpl := (nbrs_perm hv hO (x := (x : Int)) (by omega)).length_eq
  have z1 := bw_z_0 (n : Int) (l.map encI) (x : Int) (n - 1) (L.map encP) (tm (rowE L) x (-1)) n ((farF (adjOf n L) x).map encI) n _ _ (j26 (l := L) (b := 0) (m := n - 1) (n := n) hlen rfl (by omega) (by omega) hv (x : Int)) (by rw [hpl]; exact q2) (shl_pow hnn (by omega)) q1
  have t1 := RunsTo.seq h2 (RunsTo.block_exit (c := sub [1, 1, 1, 1, 1, 1, 1, 0, 1] B5) r' (by kernel_rfl)) (c := sub [1, 1, 1, 1, 1, 1, 1, 0] B5) (by kernel_rfl) (by kernel_rfl)
  have t2 := RunsTo.seq g1 (RunsTo.seq t1 z1 (c := sub [1, 1, 1, 1, 1, 1, 1] B5) (by kernel_rfl) (by kernel_rfl)) (c := sub [1, 1, 1, 1, 1, 1] B5) (by kernel_rfl) (by kernel_rfl)
  have t3 := RunsTo.seq e1 (RunsTo.seq f2 t2 (c := sub [1, 1, 1, 1, 1] B5) (by kernel_rfl) (by kernel_rfl)) (c := sub [1, 1, 1, 1] B5) (by kernel_rfl) (by kernel_rfl)
  have t4 := RunsTo.seq c1 (RunsTo.seq d1 t3 (c := sub [1, 1, 1] B5) (by kernel_rfl) (by kernel_rfl)) (c := sub [1, 1] B5) (by kernel_rfl) (by kernel_rfl)
  exact ⟨_, _, RunsTo.seq a1 (RunsTo.seq b1 t4 (c := sub [1] B5) (by kernel_rfl) (by kernel_rfl)) (c := B5) (by kernel_rfl) (by kernel_rfl), rfl⟩
end Go.Proofs.Ytmhfkhlamnapdaa
end
section
namespace Go.HL
open Go.ChangeShapes Go.WideShapes Go.ChangeAt Go.RowKit Go.Deep
theorem okNil (w : World) (r : Nat) : okOf Ctx.nil w.heap.size false r := by
  refine ⟨fun hM => ?_, by simp⟩
  obtain ⟨b, y, h1, _, _⟩ := M_iff.1 hM
  simp [Ctx.nil] at h1
theorem cell_lt {w : World} {a : Addr} {v : Value} (h : w.cell? a = some v) : a.block < w.heap.size := by
  rcases Nat.lt_or_ge a.block w.heap.size with hl | hl
  · exact hl
  · have : w.heap[a.block]? = none := by simp [hl]
    simp [World.cell?, this] at h
end Go.HL
end
section
namespace Go.HL
open Go.ChangeShapes Go.WideShapes Go.ChangeAt Go.RowKit Go.Deep
theorem arg_ints_ok {H : Type} {enc : TypeId × Value → H} {P : Program} {W : World} {base : Nat} {t q : TypeId} {v : Value} {d : DataW H} {ps : List MemPlace} (ht : P.underlying t = some (.slice q)) (hq : P.underlying q = some (.int .i64)) (cq : P.cellsOf q = 1)
    (hval : Value.okWide P W .any base t v) (hd : DataW.Trod enc P W 0 (fun _ => true) true t v d ps) : ∃ l : List Int, V W (okOf Ctx.nil W.heap.size) Ctx.nil (.imm .arg 1 (l.map encI)) v := by
  obtain ⟨a, len, cap, rfl⟩ := okWide_slice ht hval
  obtain ⟨fuel, hf⟩ := hd
  rcases open_slice ht hf with ⟨h0, _⟩ | ⟨a', len', cap', m, n, D, Pl, h0, hb, hl, hm, hmm, hx, hel⟩
  · simp [Value.cells] at h0
    obtain ⟨rfl, rfl, rfl⟩ := h0
    exact ⟨[], .imm .arg 1 [] none 0 (fun _ => .bool false) (by simp) (by simp) (by simp) (by simp) (by simp) (by simp)⟩
  · simp [Value.cells] at h0
    obtain ⟨rfl, rfl, rfl⟩ := h0
    have hlm : len ≤ m := by rw [hmm]; split <;> omega
    have each : ∀ i, i < len → ∃ z : Int, W.cell? (a'.add i) = some (.int .i64 z) := by
      intro i hi
      obtain ⟨cs', h1, h2⟩ := hel i (by omega)
      rw [cq] at h1
      obtain ⟨_, hlen, hcell⟩ := World.cells?_some h1
      match cs', hlen with
      | [v0], _ =>
        obtain ⟨z0, e0, _, _⟩ := DataW.trod_int hq h2
        simp at e0
        subst e0
        have c0 := hcell 0 (by omega)
        rw [add_add] at c0
        exact ⟨z0, by simpa using c0⟩
    obtain ⟨f, hf⟩ := choose_lt each
    refine ⟨(List.range len).map f, ?_⟩
    have hlen : (((List.range len).map f).map encI).length = len := by simp
    have key := V.imm (w := W) (ok := okOf Ctx.nil W.heap.size) (c := Ctx.nil) .arg 1 (((List.range len).map f).map encI) (some a') cap (fun j => .int .i64 (f j))
      (by rw [hlen]; exact hl) (by simp) ?_ ?_ ?_ ?_
    · rw [hlen] at key; exact key
    · intro hne
      have h0 : 0 < len := by
        rcases Nat.eq_zero_or_pos len with h | h
        · subst h; simp at hne
        · exact h
      obtain ⟨b, off, spot⟩ := a'
      have hspot : spot = none := by simpa [Addr.add] using World.cell?_spot (hf 0 h0)
      subst hspot
      refine ⟨b, off, rfl, by simpa [Addr.add] using cell_lt (hf 0 h0), okNil W b, fun j hj => ?_⟩
      rw [hlen] at hj
      have c0 := hf j (by omega)
      rw [add_plain] at c0
      exact c0
    · intro v hv
      obtain ⟨p, _, rfl⟩ := List.mem_map.1 hv
      rfl
    · intro v hv
      obtain ⟨p, _, rfl⟩ := List.mem_map.1 hv
      rfl
    · intro i v j x hi hj
      have hil : i < len := by have := lt_of_get hi; rw [hlen] at this; exact this
      have : v = encI (f i) := by
        rw [List.getElem?_map, List.getElem?_map, List.getElem?_range hil] at hi
        simpa using hi.symm
      subst this
      have hjx : j < 1 := lt_of_get hj
      match j, hjx, hj with
      | 0, _, hj =>
        simp [encI, cellsOf] at hj
        subst hj
        have e1 : i * 1 + 0 = i := by omega
        rw [e1]
        exact V.int _ _
end Go.HL
end
