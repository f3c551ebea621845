/- A part of the proof. -/
import Derived.Test.YtlendaofkmhgmaaP5A
set_option linter.unusedVariables false
set_option linter.unusedSimpArgs false
section
open Go Go.HL
namespace Go.Proofs.Ytlendaofkmhgmaa
theorem trOk_iff {n : Nat} {l : List Int} : trOk n l = true ↔ l.length = n ∧ l.getD 0 0 = 0 ∧ inT n l ∧ l.Nodup := by
  unfold trOk; rw [decide_eq_true_eq]; exact Iff.rfl
theorem prim_miles {pol' : Pol} (hp : pol'.prim 46 = some miles46) {d : List (List Int)} (h1 : d.length ≤ 1000) (h2 : (d.all fun r => decide (r.length ≤ 1000)) = true) (H : Heap) (b : Bool) (hb : okB d = b) : ∀ k, callN Try.prog pol' (k + 1) 46 [.imm .arg 1 (d.map encR)] H = some (.bool b, H) := fun k => by
  rw [prim_call (pol := pol') (g := 46) (F := miles46) hp (rs := [.imm .arg 1 (d.map encR)]) (by simp only [mapO, arg_rw]) (res := .bool b) (by simp only [miles46, rwF, mapO_map decR_enc]; rw [if_pos ⟨h1, h2⟩, hb])]; rfl
theorem revP_len {l : List Int} {i j : Nat} (h : i ≤ j) (hj : j < l.length) : (revP l i j).length = l.length := by
  simp only [revP, List.length_append, List.length_take, List.length_reverse, List.length_drop]
  omega
theorem revP_get {l : List Int} {i j : Nat} (h : i ≤ j) (hj : j < l.length) (k : Nat) : (revP l i j)[k]? = if i ≤ k ∧ k ≤ j then l[i + j - k]? else l[k]? := by
  unfold revP
  by_cases c1 : k < i
  · rw [List.getElem?_append_left (by simp; omega), List.getElem?_take, if_pos c1, if_neg (by omega)]
  · rw [List.getElem?_append_right (by simp; omega), List.length_take, Nat.min_eq_left (by omega)]
    by_cases c2 : k ≤ j
    · rw [if_pos ⟨by omega, c2⟩, List.getElem?_append_left (by simp; omega), List.getElem?_reverse (by simp; omega), List.length_take, List.length_drop, Nat.min_eq_left (by omega), List.getElem?_take, if_pos (by omega), List.getElem?_drop]
      congr 1
      omega
    · rw [if_neg (by omega), List.getElem?_append_right (by simp; omega), List.length_reverse, List.length_take, List.length_drop, Nat.min_eq_left (by omega), List.getElem?_drop]
      congr 1
      omega
end Go.Proofs.Ytlendaofkmhgmaa
end
section
open Go Go.HL
namespace Go.Proofs.Ytlendaofkmhgmaa
structure Rv (o : List Int) (lo n i : Nat) (c : List Int) : Prop where
  len : c.length = o.length
  get : ∀ k, k < o.length → c.getD k 0 = if lo ≤ k ∧ k < lo + n ∧ (k < lo + i ∨ lo + n ≤ k + i) then o.getD (2 * lo + n - 1 - k) 0 else o.getD k 0
theorem Rv.zero (o : List Int) (lo n : Nat) : Rv o lo n 0 o := ⟨rfl, fun k hk => by rw [if_neg (by omega)]⟩
theorem getD_set (o : List Int) (i k : Nat) (v : Int) (hi : i < o.length) : (o.set i v).getD k 0 = if i = k then v else o.getD k 0 := by
  simp only [List.getD, List.getElem?_set]
  by_cases e : i = k
  · subst e; simp [hi]
  · simp [e]
theorem Rv.step {o c : List Int} {lo n i : Nat} (h : Rv o lo n i c) (hb : lo + n ≤ o.length) (hi : 2 * i + 1 < n) : Rv o lo n (i + 1) ((c.set (lo + i) (c.getD (lo + (n - 1 - i)) 0)).set (lo + (n - 1 - i)) (c.getD (lo + i) 0)) := by
  have hl := h.len
  refine ⟨by simp [hl], fun k hk => ?_⟩
  rw [getD_set _ _ _ _ (by rw [List.length_set]; omega), getD_set _ _ _ _ (by omega)]
  have e1 := h.get (lo + i) (by omega)
  have e2 := h.get (lo + (n - 1 - i)) (by omega)
  rw [if_neg (by omega)] at e1 e2
  by_cases c1 : lo + (n - 1 - i) = k
  · rw [if_pos c1, if_pos (by omega), e1]
    congr 1
    omega
  · rw [if_neg c1]
    by_cases c2 : lo + i = k
    · rw [if_pos c2, if_pos (by omega), e2]
      congr 1
      omega
    · rw [if_neg c2, h.get k hk]
      by_cases c3 : lo ≤ k ∧ k < lo + n ∧ (k < lo + i ∨ lo + n ≤ k + i)
      · rw [if_pos c3, if_pos (by omega)]
      · rw [if_neg c3, if_neg (by omega)]
theorem Rv.done {o c : List Int} {lo n i : Nat} (h : Rv o lo n i c) (hn : 1 ≤ n) (hb : lo + n ≤ o.length) (hi : n ≤ 2 * i + 1) : c = revP o lo (lo + n - 1) := by
  have hr := revP_len (l := o) (i := lo) (j := lo + n - 1) (by omega) (by omega)
  apply List.ext_getElem (by rw [hr]; exact h.len)
  intro k h1 h2
  have hk : k < o.length := by rw [← h.len]; exact h1
  have e := h.get k hk
  have e2 := revP_get (l := o) (i := lo) (j := lo + n - 1) (by omega) (by omega) k
  rw [List.getElem?_eq_getElem h2] at e2
  rw [← getD_at h1, e]
  by_cases c1 : lo ≤ k ∧ k ≤ lo + n - 1
  · rw [if_pos c1, List.getElem?_eq_getElem (by omega)] at e2
    have e3 := Option.some.inj e2
    rw [e3]
    by_cases c2 : k < lo + i ∨ lo + n ≤ k + i
    · rw [if_pos ⟨c1.1, by omega, c2⟩, getD_at (by omega)]
      congr 1
      omega
    · rw [if_neg (by omega), getD_at hk]
      congr 1
      omega
  · rw [if_neg c1, List.getElem?_eq_getElem hk] at e2
    rw [if_neg (by omega), getD_at hk]
    exact (Option.some.inj e2).symm
end Go.Proofs.Ytlendaofkmhgmaa
end
section
open Go Go.HL
namespace Go.Proofs.Ytlendaofkmhgmaa
theorem soundI (n : Nat) : CallSound Try.prog (callN Try.prog polI n) := sound_prim _ (fun g f h => by
  split at h
  · rename_i hg; cases h; rw [eq_of_beq hg]; exact miles_ok
  split at h
  · rename_i hg; cases h; rw [eq_of_beq hg]; exact mlen_ok
  · cases h) n
open Classical in
noncomputable def best29 : List HV → Option HV := rwF fun R => if R.length ≤ 1000 ∧ (R.all fun r => decide (r.length ≤ 1000)) = true then some (if okD R then .tuple [.own 1 ((bestT R).map encI), .int .i64 (lenT R (bestT R)), .int .i64 0] else .tuple [.own 1 [], .int .i64 0, .int .i64 2]) else none
theorem toRes_li2 {H : Heap} {b k : Nat} {cap : Option Nat} {o : List Int} (hb : H[b]? = some (bI o)) (hk : o.length = k) (x e : Int) : toRes H false (.tuple [.sl b 0 k cap k 1, .int .i64 x, .int .i64 e]) = some (.tuple [.own 1 (o.map encI), .int .i64 x, .int .i64 e]) := by
  have hr := resCell_sl (H := H) (no := [b]) (b := b) (k := 1) (m := k) (cap := cap) (els := o.map encI) hb (by simpa using hk) (mapO_self (fun r => frz_int 4 r) _)
  have ho : ownedAll H false (.tuple [.sl b 0 k cap k 1, .int .i64 x, .int .i64 e]) = [b] := by simp [ownedAll, cellsOf, owned, hb]
  simp only [toRes, ho, List.nodup_cons, List.not_mem_nil, not_false_eq_true, List.nodup_nil, and_self, if_true, mapO, resVal, hr]
  rfl
theorem arg_slc {H : Heap} {l : List Int} {b m : Nat} {cap : Option Nat} (hm : l.length = m) (hb : H[b]? = some (bI l)) : toArg H 6 (.sl b 0 m cap m 1) = some (.imm .arg 1 (l.map encI)) := arg_sl hm hb
theorem res29 : Try.f29.results.toList = [.tmp 2, .tmp 3, .tmp 4] := by kernel_rfl
theorem lit_zero (H : Heap) : litV Try.prog true true 23 1 [(0, .int .i64 0)] H = some (.sl H.length 0 1 (some 1) 1 1, H ++ [bI [0]]) := by kernel_rfl
section
variable {d : List (List Int)}
abbrev bsE (d : List (List Int)) (tv y8 y9 y10 y29 y30 : HV) : Env := env29 (.imm .arg 1 (d.map encR)) (.imm .lit 1 []) (.int .i64 0) (.int .i64 0) (.map 0) (.ptr 1 0 0 1) tv y8 y9 y10 y29 y30
end
section
variable {d : List (List Int)}
abbrev tv4 (m : Nat) : HV := .sl 4 0 m none m 1
end
section
variable {d : List (List Int)}
structure BI (d : List (List Int)) (v w : Nat) (o : List Int) (tv : HV) (H : Heap) : Prop where
  mem : Mem (rsT d) H
  box : H[1]? = some (boxK v w)
  st : (tv = .sl 2 0 1 (some 1) 1 1 ∧ o = [0] ∧ H.length = 3 ∧ H[2]? = some (bI o)) ∨ (tv = tv4 o.length ∧ H.length = 5 ∧ H[4]? = some (bI o))
end
section
variable {d : List (List Int)}
theorem BI.len {d : List (List Int)} {v w : Nat} {o : List Int} {tv : HV} {H : Heap} (h : BI d v w o tv H) : 3 ≤ H.length ∧ H.length ≤ 5 ∧ bnd tv ≤ H.length := by
  rcases h.st with ⟨h1, _, h3, _⟩ | ⟨h1, h3, _⟩ <;> rw [h1, h3] <;> simp [bnd]
end
section
variable {d : List (List Int)}
theorem BI.app {d : List (List Int)} {v w : Nat} {o : List Int} {tv : HV} {H H3 : Heap} (h : BI d v w o tv H) (hM : Mem (rsT d) H3) (hl : H3.length = H.length + 1) (hs : ∀ k, 2 ≤ k → k < H.length → H3[k]? = H[k]?) (ho : o.length ≤ 500) (x : Int) :
    ∃ H4, appV H3 1 8 tv [.int .i64 x] = some (tv4 (o.length + 1), H4) ∧ Mem (rsT d) H4 ∧ H4[1]? = H3[1]? ∧ H4[4]? = some (bI (o ++ [x])) ∧ 5 ≤ H4.length := by
  rcases h.st with ⟨h1, h2, h3, h4⟩ | ⟨h1, h3, h4⟩
  · have e := hs 2 (by omega) (by omega)
    rw [h4] at e
    subst h2; subst h1
    refine ⟨H3 ++ [bI ([0] ++ [x])], ?_, hM.app (same_bI _) rfl, List.getElem?_append_left (by omega), ?_, by simp; omega⟩
    · have e4 : H3.length = 4 := by omega
      simp only [appV, e, e4]
      simp [roomMax, bnd, bndL, encI]
    · rw [List.getElem?_append_right (by omega)]; simp [hl, h3]
  · have e := hs 4 (by omega) (by omega)
    rw [h4] at e
    subst h1
    have ap := app_ints (xs := [x]) e (by simp; omega) (by simp)
    rw [show (o ++ [x]).length = o.length + 1 by simp] at ap
    exact ⟨_, ap, hM.set (by omega) (same_bI _) rfl, List.getElem?_set_ne (by omega), List.getElem?_set_self (by omega), by simp; omega⟩
end
section
variable {d : List (List Int)}
theorem bs_in (hd : okD d) {v w : Nat} {o : List Int} {tv : HV} (hv : v < d.length) (hw : w < 2 ^ d.length) (ho : o.length ≤ 500) : ∀ k i H u, i + k = d.length → BI d v w o tv H → pck (okV d v w) k i = some u →
    ∃ y9 y10 y29 y30 H', RunsTo Try.prog polI 29 (sub [1, 1, 1, 1, 1, 0, 0, 0, 1, 0, 1, 1, 0] B29) (bsE d tv (.int .i64 (rsT d v w)) .undef .undef (.int .i64 (d.length : Int)) (.int .i64 (i : Int))) H
      (.exit 2) (polI.keys 29) (bsE d (tv4 (o.length + 1)) (.int .i64 (rsT d v w)) y9 y10 y29 y30) H' ∧ Mem (rsT d) H' ∧ H'[1]? = some (boxK u (wo w u : Nat)) ∧ H'[4]? = some (bI (o ++ [(u : Int)])) ∧ 5 ≤ H'.length := by
  have hp := pow_le hd.1.2
  have hn := hd.1.2
  intro k
  induction k with
  | zero => intro i H u _ _ h; cases h
  | succ k ih =>
    intro i H u hi hB hq
    rw [pck] at hq
    have bl := bo_shl (v := i) (by omega)
    have bn := bo_andn (L := w) (v := i) (by omega) (by omega)
    have hl := hB.len
    have g4 : some (newV (.agg [.int .i64 0, .int .i64 0]) H) = some (.ptr H.length 0 0 1, H ++ [boxK 0 0]) := by
      rw [show (HV.agg [.int .i64 0, .int .i64 0]) = encP ((0 : Int), (0 : Int)) from rfl, new_k]
    have gn0 : (H ++ [boxK 0 0])[H.length]? = some (boxK 0 0) := by rw [List.getElem?_append_right (Nat.le_refl _)]; simp
    have g5 : storeV Try.prog (H ++ [boxK 0 0]) 77 (.ptr H.length 0 0 1) (.agg [.int .i64 (i : Int), .int .i64 ((wo w i : Nat) : Int)]) = some (H ++ [boxK i (wo w i : Nat)]) := by
      have := st_k (x := (i : Int)) (y := ((wo w i : Nat) : Int)) gn0
      rw [List.set_append_right _ _ (Nat.le_refl _), Nat.sub_self] at this
      exact this
    have hM0 : Mem (rsT d) (H ++ [boxK 0 0]) := hB.mem.app (same_box _ _) rfl
    have l0 : loadV Try.prog (H ++ [boxK 0 0]) 3 (.ptr 1 0 1 1) = some (.int .i64 (w : Int)) := ld_k1 (by rw [List.getElem?_append_left (by omega)]; exact hB.box)
    have gS : (recL ((loadV Try.prog H 3 (.ptr 1 0 1 1)).map (fun v => (v, (H : Heap)))) ((loadV Try.prog (H ++ [boxK 0 0]) 3 (.ptr 1 0 1 1)).map (fun v => (v, ((H ++ [boxK 0 0]) : Heap)))) H (H ++ [boxK 0 0]) && true) = true := by
      rw [ld_k1 hB.box, l0]
      simp only [Option.map, recL, hB.mem.rf, hM0.rf]
      simp [same]
    have hM1 : Mem (rsT d) (H ++ [boxK i (wo w i : Nat)]) := hB.mem.app (same_box _ _) rfl
    have low : ∀ k, k < H.length → (H ++ [boxK (i : Int) (wo w i : Nat)])[k]? = H[k]? := fun k hk => List.getElem?_append_left hk
    have x1 : (H ++ [boxK i (wo w i : Nat)])[1]? = some (boxK v w) := by rw [low 1 (by omega)]; exact hB.box
    have x3 : (H ++ [boxK (i : Int) (wo w i : Nat)])[H.length]? = some (boxK i (wo w i : Nat)) := by rw [List.getElem?_append_right (Nat.le_refl _)]; simp
    have ll : (H ++ [boxK (i : Int) (wo w i : Nat)]).length = H.length + 1 := by simp
    have cut : ∀ (H' : Heap) (y : HV), Mem (rsT d) H' → bnd y = 0 → gc H.length (bndE (bsE d tv y .undef .undef (.int .i64 (d.length : Int)) (.int .i64 ((i + 1 : Nat) : Int)))) H' = H'.take H.length := fun H' y hM' hy => by
      rw [hM'.gc]
      congr 1
      simp only [bndE, bnd, bndL, hy]
      omega
    by_cases c : w.testBit i = true
    · have hne : ¬ ((w : Int) = ((wo w i : Nat) : Int)) := by have := wo_lt c; omega
      obtain ⟨H2, hcl, hM2, hF⟩ := rs_call hd w i (wo w i) (wo_le _ _) (by omega) (by have := wo_le w i; omega) _ hM1
      obtain ⟨N, hN⟩ := CallsTo.from hcl
      have b1 := hd.at hv (j := i) (by omega)
      have b3 := rsT_bnd hd (s := i) (L := wo w i) (by omega) (by have := wo_le w i; omega)
      have hwr : IntKind.i64.wrap (at2 d v i + rsT d i (wo w i)) = at2 d v i + rsT d i (wo w i) := wrap_id (by omega) (by omega)
      have gS2 : (recL ((loadV Try.prog (H ++ [boxK i (wo w i : Nat)]) 3 (.ptr 1 0 0 1)).map (fun v => (v, ((H ++ [boxK i (wo w i : Nat)]) : Heap)))) ((loadV Try.prog H2 3 (.ptr 1 0 0 1)).map (fun v => (v, (H2 : Heap)))) (H ++ [boxK i (wo w i : Nat)]) H2 && ((same (.imm .arg 1 ((d.getD v []).map encI)) (.imm .arg 1 ((d.getD v []).map encI)) && sameH ((H ++ [boxK i (wo w i : Nat)]) : Heap) (H ++ [boxK i (wo w i : Nat)]) && sameH (H2 : Heap) H2) && ((same (.int .i64 (at2 d v i)) (.int .i64 (at2 d v i)) && sameH ((H ++ [boxK i (wo w i : Nat)]) : Heap) (H ++ [boxK i (wo w i : Nat)]) && sameH (H2 : Heap) H2) && true))) = true := by
        have l2 : loadV Try.prog H2 3 (.ptr 1 0 0 1) = some (.int .i64 (v : Int)) := ld_k0 (by rw [hF.same _ (by omega)]; exact x1)
        rw [ld_k0 x1, l2]
        simp only [Option.map, recL, hM1.rf, hM2.rf, same_imm]
        simp [same]
      have y1 : H2[1]? = some (boxK v w) := by rw [hF.same _ (by omega)]; exact x1
      have y3 : H2[H.length]? = some (boxK i (wo w i : Nat)) := by rw [hF.same _ (by omega)]; exact x3
      have l2 := lt_of_get y1
      by_cases c2 : at2 d v i + rsT d i (wo w i) = rsT d v w
      · have hok : okV d v w i = true := by simp [okV, c, c2]
        rw [if_pos hok] at hq
        cases hq
        have s3 := st_k (x := (i : Int)) (y := ((wo w i : Nat) : Int)) y1
        obtain ⟨H4, ap, hM4, z1, z4, z5⟩ := hB.app (H3 := H2.set 1 (boxK i (wo w i : Nat))) (hM2.set (by omega) (same_box _ _) rfl) (by simp [hF.len]) (fun k h2 hk => by rw [List.getElem?_set_ne (by omega), hF.same _ (by omega), low _ hk]) ho (i : Int)
        have s := bs_l_1 N (d.map encR) tv v w H (rsT d v w) d.length i H.length ((wo w i : Nat) : Int) _ _ _ _ _ _ _ H2 _ _ _ (by omega) (ld_k1 hB.box) bl bn g4 g5 gS (ld_k1 x1) (ld_k1 x3) hne (ld_k0 x1) (g22 hv) (g23 hd hv (by omega)) (ld_k x3) hN (by rw [hwr, c2]) gS2 (ld_k y3) s3 ap
        refine ⟨_, _, _, _, _, RunsTo.loop_out s (by simp) (by kernel_rfl) (by kernel_rfl), hM4, ?_, z4, z5⟩
        rw [z1, List.getElem?_set_self (by omega)]
      · have hok : ¬ okV d v w i = true := by simp [okV, c, c2]
        rw [if_neg hok] at hq
        have s := bs_l_2 N (d.map encR) tv v w H (rsT d v w) d.length i H.length ((wo w i : Nat) : Int) _ _ _ _ _ _ _ H2 (by omega) (ld_k1 hB.box) bl bn g4 g5 gS (ld_k1 x1) (ld_k1 x3) hne (ld_k0 x1) (g22 hv) (g23 hd hv (by omega)) (ld_k x3) hN (by rw [hwr]; exact c2) gS2
        rw [wrap_succ (by omega)] at s
        have tl : (H2.take H.length).length = H.length := by rw [List.length_take, hF.len, ll]; omega
        have tk : ∀ k, k ≠ 0 → k < H.length → (H2.take H.length)[k]? = H[k]? := fun k h0 hk => by rw [List.getElem?_take, if_pos hk, hF.same _ h0, low _ hk]
        have hB2 : BI d v w o tv (H2.take H.length) := by
          refine ⟨hM2.take (by omega), by rw [tk 1 (by omega) (by omega)]; exact hB.box, ?_⟩
          rcases hB.st with ⟨h1, h2, h3, h4⟩ | ⟨h1, h3, h4⟩
          · exact .inl ⟨h1, h2, tl.trans h3, by rw [tk 2 (by omega) (by omega)]; exact h4⟩
          · exact .inr ⟨h1, tl.trans h3, by rw [tk 4 (by omega) (by omega)]; exact h4⟩
        obtain ⟨y9, y10, y29, y30, H', r, r2⟩ := ih (i + 1) _ u (by omega) hB2 hq
        exact ⟨y9, y10, y29, y30, H', RunsTo.loop s (by kernel_rfl) (cut _ _ hM2 rfl) r rfl (by kernel_rfl) (by kernel_rfl), r2⟩
    · have hok : ¬ okV d v w i = true := by simp [okV, c]
      rw [if_neg hok] at hq
      have e : wo w i = w := by unfold wo; rw [if_neg c]
      rw [e] at bn g5 hM1 x1 x3
      have s := bs_l_0 0 (d.map encR) tv v w H (rsT d v w) d.length i H.length (w : Int) _ _ _ _ (by omega) (ld_k1 hB.box) bl bn g4 g5 gS (ld_k1 x1) (ld_k1 x3) rfl rfl
      rw [wrap_succ (by omega)] at s
      have ec := cut _ (.int .i64 (rsT d v w)) hM1 rfl
      have et : (H ++ [boxK (i : Int) (w : Int)]).take H.length = H := by rw [List.take_append_of_le_length (Nat.le_refl _), List.take_of_length_le (Nat.le_refl _)]
      rw [et] at ec
      obtain ⟨y9, y10, y29, y30, H', r, r2⟩ := ih (i + 1) _ u (by omega) hB hq
      exact ⟨y9, y10, y29, y30, H', RunsTo.loop s (by kernel_rfl) ec r rfl (by kernel_rfl) (by kernel_rfl), r2⟩
end
section
variable {d : List (List Int)}
theorem bs_loop (hd : okD d) : ∀ (k v w : Nat) (o : List Int) (tv : HV) (H : Heap), w ≤ k → v < d.length → w < 2 ^ d.length → BI d v w o tv H → o.length + (grd d k v w).length ≤ 500 →
    ∃ tb cap H', RunsTo Try.prog polI 29 (sub [1, 1, 1, 1, 1, 0, 0] B29) (bsE d tv .undef .undef .undef .undef .undef) H (.exit 0) (polI.keys 29) (bsE d (.sl tb 0 (o ++ grd d k v w).length cap (o ++ grd d k v w).length 1) .undef .undef .undef .undef .undef) H' ∧ H'[tb]? = some (bI (o ++ grd d k v w)) := by
  have h0 : ∀ (v : Nat) (o : List Int) (tv : HV) (H : Heap), BI d v 0 o tv H → ∃ tb cap H', RunsTo Try.prog polI 29 (sub [1, 1, 1, 1, 1, 0, 0] B29) (bsE d tv .undef .undef .undef .undef .undef) H (.exit 0) (polI.keys 29) (bsE d (.sl tb 0 (o ++ []).length cap (o ++ []).length 1) .undef .undef .undef .undef .undef) H' ∧ H'[tb]? = some (bI (o ++ [])) := fun v o tv H hB => by
    rw [List.append_nil]
    have f := bs_f_1 0 (d.map encR) tv v 0 H (ld_k1 hB.box) (by omega)
    have r := RunsTo.loop_out (RunsTo.seq_out f (by simp) (c := sub [1, 1, 1, 1, 1, 0, 0, 0] B29) (b := sub [1, 1, 1, 1, 1, 0, 0, 0, 1] B29) (by kernel_rfl)) (by simp) (c := sub [1, 1, 1, 1, 1, 0, 0] B29) (by kernel_rfl) (by kernel_rfl)
    rcases hB.st with ⟨h1, h2, h3, h4⟩ | ⟨h1, h3, h4⟩
    · subst h1; subst h2
      exact ⟨2, some 1, H, r, h4⟩
    · subst h1
      exact ⟨4, none, H, r, h4⟩
  intro k
  induction k with
  | zero =>
    intro v w o tv H hk _ _ hB _
    have : w = 0 := by omega
    subst this
    exact h0 v o tv H hB
  | succ k ih =>
    intro v w o tv H hk hv hw hB hl
    by_cases cw : w = 0
    · subst cw
      rw [grd, if_pos rfl]
      exact h0 v o tv H hB
    · obtain ⟨u, p1, p2, p3, p4⟩ := pck_ok hd hv hw cw
      have eg : grd d (k + 1) v w = (u : Int) :: grd d k u (wo w u) := by rw [grd, if_neg cw, p1]
      rw [eg] at hl ⊢
      rw [List.length_cons] at hl
      have f := bs_f_0 0 (d.map encR) tv v w H (ld_k1 hB.box) (by omega)
      obtain ⟨H1, hcl, hM1, hF⟩ := rs_call hd w v w (Nat.le_refl _) hv hw _ hB.mem
      obtain ⟨N, hN⟩ := CallsTo.from hcl
      have g := bs_g_0 N (d.map encR) tv v w H _ H1 (ld_k hB.box) hN
      have h := bs_h_0 0 (d.map encR) tv v w H1 (rsT d v w)
      rw [List.length_map] at h
      have hB1 : BI d v w o tv H1 := by
        refine ⟨hM1, by rw [hF.same _ (by omega)]; exact hB.box, ?_⟩
        rcases hB.st with ⟨h1, h2, h3, h4⟩ | ⟨h1, h3, h4⟩
        · exact .inl ⟨h1, h2, hF.len.trans h3, by rw [hF.same _ (by omega)]; exact h4⟩
        · exact .inr ⟨h1, hF.len.trans h3, by rw [hF.same _ (by omega)]; exact h4⟩
      obtain ⟨y9, y10, y29, y30, H2, r, r1, r2, r3, r4⟩ := bs_in hd hv hw (by omega) d.length 0 H1 u (by omega) hB1 p1
      have r' := RunsTo.loop_in (e0 := bsE d tv (.int .i64 (rsT d v w)) .undef .undef (.int .i64 (d.length : Int)) (.int .i64 0)) r (b := sub [1, 1, 1, 1, 1, 0, 0, 0, 1, 0, 1, 1, 0, 0] B29) (by kernel_rfl) (by kernel_rfl) (by kernel_rfl)
      have t1 := RunsTo.seq h (RunsTo.block_exit (c := sub [1, 1, 1, 1, 1, 0, 0, 0, 1, 0, 1, 1] B29) r' (by kernel_rfl)) (c := sub [1, 1, 1, 1, 1, 0, 0, 0, 1, 0, 1] B29) (by kernel_rfl) (by kernel_rfl)
      have t2 := RunsTo.seq g t1 (c := sub [1, 1, 1, 1, 1, 0, 0, 0, 1, 0] B29) (by kernel_rfl) (by kernel_rfl)
      have t3 := RunsTo.block_normal (i := 1) (c := sub [1, 1, 1, 1, 1, 0, 0, 0, 1] B29) t2 (by kernel_rfl)
      have t4 := RunsTo.seq f t3 (c := sub [1, 1, 1, 1, 1, 0, 0, 0] B29) (by kernel_rfl) (by kernel_rfl)
      have hB2 : BI d u (wo w u) (o ++ [(u : Int)]) (tv4 (o.length + 1)) (H2.take 5) := by
        refine ⟨r1.take (by omega), ?_, .inr ⟨by simp, by rw [List.length_take]; omega, ?_⟩⟩
        · rw [List.getElem?_take, if_pos (by omega)]; exact r2
        · rw [List.getElem?_take, if_pos (by omega)]; exact r3
      have ec : gc H.length (bndE (bsE d (tv4 (o.length + 1)) .undef .undef .undef .undef .undef)) H2 = H2.take 5 := by
        rw [r1.gc]
        congr 1
        have := hB.len
        simp only [bndE, bnd, bndL]
        omega
      obtain ⟨tb, cap, H', q1, q2⟩ := ih u (wo w u) (o ++ [(u : Int)]) _ (H2.take 5) (by have := wo_lt p3; omega) p2 (by have := wo_lt p3; omega) hB2 (by simp; omega)
      rw [List.append_assoc] at q1 q2
      exact ⟨tb, cap, H', RunsTo.loop t4 (by kernel_rfl) ec q1 rfl (by kernel_rfl) (by kernel_rfl), q2⟩
end
theorem best_ok : PrimOk Try.prog 29 best29 := by
  refine primOk_pure (pol := polI) (fn := Try.f29) (cd := B29) follows_mixed soundI (by kernel_rfl) (by kernel_rfl) (fnok polI.prim _ _ (by kernel_rfl)) (by kernel_rfl) ?_
  intro args res h
  obtain ⟨d, rfl, hq⟩ := rwF_inv h
  clear h
  split at hq
  · rename_i hc
    cases hq
    have a := bs_a_0 0 (d.map encR)
    by_cases hd : okD d
    · rw [if_pos hd]
      have hn := hd.1
      have hp := pow_le hd.1.2
      have m1 := prim_miles (pol' := polI) (by kernel_rfl) hc.1 hc.2 [] true (okB_true hd)
      have b := bs_b_0 0 (d.map encR) m1
      have c := bs_c_0 0 (d.map encR) [] _ rfl
      have h2 : 2 ≤ 2 ^ d.length := by
        have := Nat.pow_le_pow_right (n := 2) (by omega) hn.1
        omega
      have ew : IntKind.i64.wrap (((2 ^ d.length : Nat) : Int) - 2) = ((2 ^ d.length - 2 : Nat) : Int) := by
        generalize 2 ^ d.length = x at hp h2
        rw [wrap_id (by omega) (by omega)]; omega
      have bl := bo_shl (v := d.length) (by omega)
      have dd := bs_d_0 0 (d.map encR) [.map [] [] 0] ((2 ^ d.length : Nat) : Int) _ [.map [] [] 0, boxK 0 (2 ^ d.length - 2 : Nat)] (by rw [List.length_map]; exact bl) (by rw [show (HV.agg [.int .i64 0, .int .i64 0]) = encP ((0 : Int), (0 : Int)) from rfl, new_k]; rfl) (by rw [ew]; exact st_k rfl)
      have e := bs_e_0 0 (d.map encR) _ [.map [] [] 0, boxK 0 (2 ^ d.length - 2 : Nat)] _ (lit_zero _)
      have hB : BI d 0 (2 ^ d.length - 2) [0] (.sl 2 0 1 (some 1) 1 1) [.map [] [] 0, boxK 0 (2 ^ d.length - 2 : Nat), bI [0]] := ⟨⟨⟨[], rfl⟩, by
        rw [sameH_iff]
        intro B hB
        simp only [List.mem_cons, List.not_mem_nil, or_false] at hB
        rcases hB with rfl | rfl | rfl
        · rfl
        · exact same_box _ _
        · exact same_bI _, by simp [mxs, Blk.mx]⟩, rfl, .inl ⟨rfl, rfl, rfl, rfl⟩⟩
      have ht := best_tour hd
      obtain ⟨t1, t2, t3, t4⟩ := trOk_iff.1 ht
      have hbl : (bestT d).length = 1 + (grd d (2 ^ d.length) 0 (2 ^ d.length - 2)).length := by simp only [bestT, List.length_cons]; omega
      obtain ⟨tb, cap, H', q1, q2⟩ := bs_loop hd (2 ^ d.length) 0 (2 ^ d.length - 2) [0] _ _ (Nat.sub_le _ _) (by omega) all_lt hB (by simp only [List.length_cons, List.length_nil]; omega)
      have eb : [0] ++ grd d (2 ^ d.length) 0 (2 ^ d.length - 2) = bestT d := rfl
      rw [eb] at q1 q2
      have k56 : ∀ k, callN Try.prog polI (k + 1) 56 [.imm .arg 1 (d.map encR), .sl tb 0 (bestT d).length cap (bestT d).length 1] H' = some (.int .i64 (lenT d (bestT d)), H') := fun k => by
        rw [prim_call (pol := polI) (g := 56) (F := len56) (by kernel_rfl) (rs := [.imm .arg 1 (d.map encR), .imm .arg 1 ((bestT d).map encI)]) (by simp only [mapO, arg_rw, arg_slc rfl q2]) (res := .int .i64 (lenT d (bestT d))) (by simp only [len56, rlF, mapO_map decR_enc, mapO_map decI_enc]; rw [if_pos ⟨hd, t3, by omega⟩])]; rfl
      have z := bs_z_0 0 (d.map encR) _ H' .undef .undef .undef .undef .undef _ _ k56
      have u1 := RunsTo.seq (RunsTo.block_exit (c := sub [1, 1, 1, 1, 1, 0] B29) q1 (by kernel_rfl)) z (c := sub [1, 1, 1, 1, 1] B29) (by kernel_rfl) (by kernel_rfl)
      have u2 := RunsTo.seq e u1 (c := sub [1, 1, 1, 1] B29) (by kernel_rfl) (by kernel_rfl)
      have u3 := RunsTo.seq dd u2 (c := sub [1, 1, 1] B29) (by kernel_rfl) (by kernel_rfl)
      have u4 := RunsTo.seq c u3 (c := sub [1, 1] B29) (by kernel_rfl) (by kernel_rfl)
      have u5 := RunsTo.seq a (RunsTo.seq b u4 (c := sub [1] B29) (by kernel_rfl) (by kernel_rfl)) (c := B29) (by kernel_rfl) (by kernel_rfl)
      exact ⟨_, _, _, .tuple [.sl tb 0 (bestT d).length cap (bestT d).length 1, .int .i64 (lenT d (bestT d)), .int .i64 0], u5, by simp, by simp only [resultsV, res29]; rfl, toRes_li2 q2 rfl _ 0⟩
    · rw [if_neg hd]
      have m1 := prim_miles (pol' := polI) (by kernel_rfl) hc.1 hc.2 [] false (okB_false hd)
      exact ⟨_, _, _, _, RunsTo.seq a (RunsTo.seq_out (bs_b_1 0 (d.map encR) m1) (by simp) (c := sub [1] B29) (b := sub [1, 1] B29) (by kernel_rfl)) (c := B29) (by kernel_rfl) (by kernel_rfl), by simp, by simp only [resultsV, res29]; rfl, rfl⟩
  · cases hq
end Go.Proofs.Ytlendaofkmhgmaa
end
section
open Go Go.HL
namespace Go.Proofs.Ytlendaofkmhgmaa
theorem mxs_app0 {H : Heap} (h : mxs H ≤ 0) {B : Blk} (hB : B.mx = 0) : mxs (H ++ [B]) ≤ 0 := by
  rw [mxs_le] at h ⊢
  intro C hC
  rcases List.mem_append.1 hC with hC | hC
  · exact h C hC
  · rw [List.mem_singleton.1 hC]; omega
end Go.Proofs.Ytlendaofkmhgmaa
end
section
open Go Go.HL
namespace Go.Proofs.Ytlendaofkmhgmaa
def shoL (f : List Int → List Int → Int → List Int × Int) (l : List Int) : Nat → Nat → List Int → Int → List Int × Int
  | 0, _, b, s => (b, s)
  | j + 1, y, b, s => if (y : Int) ∈ l then shoL f l j (y + 1) b s else shoL f l j (y + 1) (f (l ++ [(y : Int)]) b s).1 (f (l ++ [(y : Int)]) b s).2
def sho (d : List (List Int)) : Nat → List Int → List Int → Int → List Int × Int
  | 0, l, b, s => if lenT d l < s then (l, lenT d l) else (b, s)
  | k + 1, l, b, s => shoL (sho d k) l (d.length - 1) 1 b s
section
variable {d : List (List Int)}
theorem shoL_a {f : List Int → List Int → Int → List Int × Int} {l : List Int} {t : Nat → List Int} {m : Nat → Int} : ∀ (j y : Nat) (b : List Int) (s : Int), (∀ y', y ≤ y' → y' < y + j → (y' : Int) ∉ l → (∀ b s, f (l ++ [(y' : Int)]) b s = if m y' < s then (t y', m y') else (b, s)) ∧ s ≤ m y') → shoL f l j y b s = (b, s) := by
  intro j
  induction j with
  | zero => intros; rfl
  | succ j ih =>
    intro y b s h
    rw [shoL]
    split
    · exact ih (y + 1) b s fun y' h1 h2 h3 => h y' (by omega) (by omega) h3
    · rename_i c
      obtain ⟨h1, h2⟩ := h y (Nat.le_refl _) (by omega) c
      rw [h1, if_neg (by omega)]
      exact ih (y + 1) b s fun y' h1 h2 h3 => h y' (by omega) (by omega) h3
end
section
variable {d : List (List Int)}
theorem shoL_b {f : List Int → List Int → Int → List Int × Int} {l : List Int} {t : Nat → List Int} {m : Nat → Int} {u : Nat} : ∀ (j y : Nat) (b : List Int) (s : Int), y ≤ u → u < y + j → (u : Int) ∉ l → m u < s → (∀ y', y ≤ y' → y' < y + j → (y' : Int) ∉ l → (∀ b s, f (l ++ [(y' : Int)]) b s = if m y' < s then (t y', m y') else (b, s)) ∧ m u ≤ m y' ∧ (y' < u → m u < m y')) → shoL f l j y b s = (t u, m u) := by
  intro j
  induction j with
  | zero => intro y b s h1 h2; omega
  | succ j ih =>
    intro y b s h1 h2 h3 h4 h
    rw [shoL]
    by_cases e : y = u
    · subst e
      obtain ⟨g1, _, _⟩ := h y (Nat.le_refl _) (by omega) h3
      rw [if_neg h3, g1, if_pos h4]
      exact shoL_a (t := t) (m := m) j (y + 1) _ _ fun y' h1 h2 h3 => by
        obtain ⟨q1, q2, _⟩ := h y' (by omega) (by omega) h3
        exact ⟨q1, q2⟩
    · split
      · exact ih (y + 1) b s (by omega) (by omega) h3 h4 fun y' h1 h2 h3 => h y' (by omega) (by omega) h3
      · rename_i c
        obtain ⟨g1, g2, g3⟩ := h y (Nat.le_refl _) (by omega) c
        rw [g1]
        split
        · exact ih (y + 1) _ _ (by omega) (by omega) h3 (g3 (by omega)) fun y' h1 h2 h3 => h y' (by omega) (by omega) h3
        · exact ih (y + 1) b s (by omega) (by omega) h3 h4 fun y' h1 h2 h3 => h y' (by omega) (by omega) h3
end
section
variable {d : List (List Int)}
def pc (d : List (List Int)) : Nat → List Int → Int
  | _, [] => 0
  | s, v :: p => at2 d s v.toNat + pc d v.toNat p
end
section
variable {d : List (List Int)}
def lastP : Nat → List Int → Nat
  | s, [] => s
  | _, v :: p => lastP v.toNat p
end
section
variable {d : List (List Int)}
theorem pl_app (d : List (List Int)) : ∀ (p q : List Int) (s : Nat), pl d s (p ++ q) = pc d s p + pl d (lastP s p) q
  | [], q, s => by simp [pc, lastP]
  | v :: p, q, s => by
    rw [List.cons_append, pl, pl_app d p q, pc, lastP]; omega
end
section
variable {d : List (List Int)}
theorem pc_app (d : List (List Int)) : ∀ (p : List Int) (y s : Nat), pc d s (p ++ [(y : Int)]) = pc d s p + at2 d (lastP s p) y
  | [], y, s => by simp [pc, lastP]
  | v :: p, y, s => by
    rw [List.cons_append, pc, pc_app d p y, pc, lastP]; omega
end
section
variable {d : List (List Int)}
theorem lastP_app : ∀ (p : List Int) (y s : Nat), lastP s (p ++ [(y : Int)]) = y
  | [], y, s => by simp [lastP]
  | v :: p, y, s => by rw [List.cons_append, lastP, lastP_app p y]
end
section
variable {d : List (List Int)}
theorem lastP_lt {n : Nat} : ∀ (p : List Int) (s : Nat), s < n → inT n p → lastP s p < n
  | [], s, h, _ => h
  | v :: p, s, h, hp => by
    have := hp v (by simp)
    exact lastP_lt p v.toNat (by omega) fun w hw => hp w (by simp [hw])
end
section
variable {d : List (List Int)}
theorem pck_first {g : Nat → Bool} {v : Nat} (k : Nat) (h : pck g k 0 = some v) : ∀ u, u < v → g u = false := fun u hu => (pck_some k 0 h).2.2 u (by omega) hu
end
section
variable {d : List (List Int)}
structure Pre (n : Nat) (p : List Int) (L : Nat) : Prop where
  inn : inT n (0 :: p)
  nd : (0 :: p).Nodup
  left : ∀ y : Nat, L.testBit y = true ↔ y < n ∧ (y : Int) ∉ (0 :: p)
end
section
variable {d : List (List Int)}
theorem Pre.lt {n L : Nat} {p : List Int} (h : Pre n p L) : L < 2 ^ n := Nat.lt_pow_two_of_testBit _ fun i hi => by
  cases hb : L.testBit i with
  | false => rfl
  | true => have := ((h.left i).1 hb).1; omega
end
section
variable {d : List (List Int)}
theorem Pre.full {n L : Nat} {p : List Int} (h : Pre n p L) : (0 :: p).length = n ↔ L = 0 := by
  have hsub : (0 :: p) ⊆ (List.range n).map fun i : Nat => (i : Int) := fun x hx => by
    have := h.inn x hx
    exact List.mem_map.2 ⟨x.toNat, List.mem_range.2 (by omega), by omega⟩
  constructor
  · intro hl
    rcases Nat.eq_zero_or_pos L with h0 | h0
    · exact h0
    · obtain ⟨y, hb⟩ := Nat.exists_testBit_of_ne_zero (x := L) (by omega)
      obtain ⟨h1, h2⟩ := (h.left y).1 hb
      have h4 : ((y : Int) :: 0 :: p).Nodup := List.nodup_cons.2 ⟨h2, h.nd⟩
      have h5 := h4.length_le_of_subset (l₂ := (List.range n).map fun i : Nat => (i : Int)) (fun x hx => by
        rcases List.mem_cons.1 hx with rfl | hx
        · exact List.mem_map.2 ⟨y, List.mem_range.2 h1, rfl⟩
        · exact hsub hx)
      simp only [List.length_cons, List.length_map, List.length_range] at h5 hl
      omega
  · intro h0
    subst h0
    have ndR : ((List.range n).map fun i : Nat => (i : Int)).Nodup := by
      refine List.Pairwise.map _ (fun a b (hab : a ≠ b) => ?_) List.nodup_range
      intro e
      exact hab (by omega)
    have h1 := h.nd.length_le_of_subset hsub
    have h2 := ndR.length_le_of_subset (l₂ := 0 :: p) (fun x hx => by
      obtain ⟨i, hi, rfl⟩ := List.mem_map.1 hx
      apply Classical.byContradiction
      intro hm
      have := (h.left i).2 ⟨List.mem_range.1 hi, hm⟩
      simp at this)
    simp only [List.length_map, List.length_range] at h1 h2
    omega
end
section
variable {d : List (List Int)}
theorem Pre.step {n L y : Nat} {p : List Int} (h : Pre n p L) (hn : n ≤ 11) (hb : L.testBit y = true) : Pre n (p ++ [(y : Int)]) (wo L y) := by
  obtain ⟨h1, h2⟩ := (h.left y).1 hb
  have hL := h.lt
  have hp := pow_le hn
  have e : (0 :: (p ++ [(y : Int)])) = (0 :: p) ++ [(y : Int)] := rfl
  refine ⟨fun v hv => ?_, ?_, fun u => ?_⟩
  · rw [e, List.mem_append, List.mem_singleton] at hv
    rcases hv with hv | rfl
    · exact h.inn v hv
    · omega
  · rw [e, List.nodup_append]
    refine ⟨h.nd, by simp, fun a ha b hb' => ?_⟩
    rw [List.mem_singleton] at hb'
    subst hb'
    exact fun e => h2 (e ▸ ha)
  · rw [wo_bit (by omega) (by omega), e, Bool.and_eq_true, h.left, decide_eq_true_eq]
    simp only [List.mem_append, List.mem_singleton, not_or]
    constructor
    · rintro ⟨⟨g1, g2⟩, g3⟩; exact ⟨g1, g2, by omega⟩
    · rintro ⟨g1, g2, g3⟩; exact ⟨⟨g1, g2⟩, by omega⟩
end
section
variable {d : List (List Int)}
theorem sho_ok (hd : okD d) : ∀ (k : Nat) (p : List Int) (L : Nat) (b : List Int) (s : Int), (0 :: p).length + k = d.length → Pre d.length p L →
    sho d k (0 :: p) b s = if pc d 0 p + rsT d (lastP 0 p) L < s then (0 :: (p ++ grd d (2 ^ d.length) (lastP 0 p) L), pc d 0 p + rsT d (lastP 0 p) L) else (b, s) := by
  have hn := hd.1
  intro k
  induction k with
  | zero =>
    intro p L b s hk hP
    have h0 := hP.full.1 (by omega)
    subst h0
    have e : lenT d (0 :: p) = pc d 0 p + rsT d (lastP 0 p) 0 := by
      have := pl_app d p [] 0
      rw [List.append_nil] at this
      rw [lenT_pl, this]; rfl
    have eg : grd d (2 ^ d.length) (lastP 0 p) 0 = [] := by
      rw [grd_fuel _ 0 _ _ (Nat.zero_le _) (Nat.le_refl _)]; rfl
    rw [sho, e, eg, List.append_nil]
  | succ k ih =>
    intro p L b s hk hP
    have hL := hP.lt
    have hv : lastP 0 p < d.length := lastP_lt p 0 (by omega) fun w hw => hP.inn w (by simp [hw])
    have cL : L ≠ 0 := fun h0 => by
      have := hP.full.2 h0
      omega
    obtain ⟨u, p1, p2, p3, p4⟩ := pck_ok hd hv hL cL
    have hmin := (rsT_min hd hv hL cL).1
    rw [sho]
    have eg : grd d (2 ^ d.length) (lastP 0 p) L = (u : Int) :: grd d (2 ^ d.length) u (wo L u) := by
      have h1 := Nat.two_pow_pos d.length
      obtain ⟨K, hK⟩ : ∃ K, 2 ^ d.length = K + 1 := ⟨2 ^ d.length - 1, by omega⟩
      rw [hK, grd, if_neg cL, p1]
      show (u : Int) :: grd d K u (wo L u) = _
      have := wo_lt p3
      rw [grd_fuel K (K + 1) u (wo L u) (by omega) (by omega)]
    have hf : ∀ y' : Nat, 1 ≤ y' → y' < 1 + (d.length - 1) → (y' : Int) ∉ (0 :: p) → ∀ b s, sho d k ((0 :: p) ++ [(y' : Int)]) b s = if pc d 0 p + (at2 d (lastP 0 p) y' + rsT d y' (wo L y')) < s then (0 :: (p ++ ((y' : Int) :: grd d (2 ^ d.length) y' (wo L y'))), pc d 0 p + (at2 d (lastP 0 p) y' + rsT d y' (wo L y'))) else (b, s) := fun y' h1 h2 h3 b s => by
      have hb := (hP.left y').2 ⟨by omega, h3⟩
      have := ih (p ++ [(y' : Int)]) (wo L y') b s (by simp only [List.length_cons, List.length_append, List.length_nil] at hk ⊢; omega) (hP.step hn.2 hb)
      rw [lastP_app, pc_app, List.append_assoc] at this
      rw [Int.add_assoc] at this
      exact this
    have hu1 : 1 ≤ u := by
      rcases Nat.eq_zero_or_pos u with h0 | h0
      · have := ((hP.left u).1 p3).2
        subst h0
        simp at this
      · omega
    have hum : (u : Int) ∉ (0 :: p) := ((hP.left u).1 p3).2
    have hlow : ∀ y', y' < d.length → (y' : Int) ∉ (0 :: p) → rsT d (lastP 0 p) L ≤ at2 d (lastP 0 p) y' + rsT d y' (wo L y') := fun y' h1 h2 => hmin y' ((hP.left y').2 ⟨h1, h2⟩)
    by_cases c : pc d 0 p + rsT d (lastP 0 p) L < s
    · rw [if_pos c, eg]
      have := shoL_b (f := sho d k) (l := 0 :: p) (t := fun y' => 0 :: (p ++ ((y' : Int) :: grd d (2 ^ d.length) y' (wo L y')))) (m := fun y' => pc d 0 p + (at2 d (lastP 0 p) y' + rsT d y' (wo L y'))) (u := u) (d.length - 1) 1 b s hu1 (by omega) hum (by show pc d 0 p + (at2 d (lastP 0 p) u + rsT d u (wo L u)) < s; omega) fun y' h1 h2 h3 => by
        have h4 := hlow y' (by omega) h3
        refine ⟨hf y' h1 h2 h3, by show pc d 0 p + (at2 d (lastP 0 p) u + rsT d u (wo L u)) ≤ pc d 0 p + (at2 d (lastP 0 p) y' + rsT d y' (wo L y')); omega, fun h5 => ?_⟩
        have h6 := pck_first _ p1 y' h5
        have h7 := (hP.left y').2 ⟨by omega, h3⟩
        simp only [okV, h7, Bool.true_and, decide_eq_false_iff_not] at h6
        show pc d 0 p + (at2 d (lastP 0 p) u + rsT d u (wo L u)) < pc d 0 p + (at2 d (lastP 0 p) y' + rsT d y' (wo L y'))
        omega
      rw [this]
      show (_, pc d 0 p + (at2 d (lastP 0 p) u + rsT d u (wo L u))) = _
      rw [p4]
    · rw [if_neg c]
      exact shoL_a (f := sho d k) (l := 0 :: p) (t := fun y' => 0 :: (p ++ ((y' : Int) :: grd d (2 ^ d.length) y' (wo L y')))) (m := fun y' => pc d 0 p + (at2 d (lastP 0 p) y' + rsT d y' (wo L y'))) (d.length - 1) 1 b s fun y' h1 h2 h3 => by
        have h4 := hlow y' (by omega) h3
        exact ⟨hf y' h1 h2 h3, by show s ≤ pc d 0 p + (at2 d (lastP 0 p) y' + rsT d y' (wo L y')); omega⟩
end
section
variable {d : List (List Int)}
theorem sho_all (hd : okD d) {s : Int} (hs : 3000000 < s) : sho d (d.length - 1) [0] [] s = (bestT d, lenT d (bestT d)) := by
  have hn := hd.1
  have hP : Pre d.length [] (2 ^ d.length - 2) := ⟨fun v hv => by rw [List.mem_singleton] at hv; omega, by simp, fun y => by
    rw [all_bit hn.1, decide_eq_true_eq]
    simp only [List.mem_singleton]
    omega⟩
  have := sho_ok hd (d.length - 1) [] (2 ^ d.length - 2) [] s (by simp only [List.length_cons, List.length_nil]; omega) hP
  have hb := rsT_bnd hd (s := 0) (L := 2 ^ d.length - 2) (by omega) all_lt
  rw [this, best_len hd]
  simp only [pc, lastP, Int.zero_add]
  rw [if_pos (by omega)]
  rfl
end
noncomputable def polJ : Pol := { pol with prim := fun g => if g == 20 then some awakeF else if g == 27 then some modF else if g == 28 then some tame28 else if g == 29 then some best29 else if g == 26 then some ints26 else if g == 16 then some list16 else if g == 37 then some len56 else none }
end Go.Proofs.Ytlendaofkmhgmaa
end
section
open Go Go.HL
namespace Go.Proofs.Ytlendaofkmhgmaa
set_option maxRecDepth 100000
noncomputable def B30 : Code := Try.f30.body.getD .skip
abbrev env30 (v0 v1 v2 v3 v8 v9 v10 v11 v12 v13 v14 : HV) : Env := [(0, v0), (1, v1), (2, v2), (3, v3), (8, v8), (9, v9), (10, v10), (11, v11), (12, v12), (13, v13), (14, v14)]
theorem ss_a_0 (N : Nat) (xb n : Nat) (lv bv : HV) (sh : Int) (H : Heap) : RunsTo Try.prog polJ 30 (sub [0] B30) [(0, .sl xb 0 n none n 1), (1, lv), (2, bv), (3, .i sh)] H .normal (polJ.keys 30) (env30 (.sl xb 0 n none n 1) lv bv (.i sh) (.imm .lit 1 []) (.i 0) .undef .undef .undef .undef .undef) H :=
  RunsTo.hin N 60 [] fun kf hk => ⟨_, by kernel_rfl, .nil⟩
theorem ss_b_0 (N : Nat) (xb n : Nat) (lv bv : HV) (sh : Int) (H : Heap) : RunsTo Try.prog polJ 30 (sub [1, 0] B30) (env30 (.sl xb 0 n none n 1) lv bv (.i sh) (.imm .lit 1 []) (.i 0) .undef .undef .undef .undef .undef) H .normal (polJ.keys 30) (env30 (.sl xb 0 n none n 1) lv bv (.i sh) (.imm .lit 1 []) (.i 0) (.i (n : Int)) .undef .undef .undef .undef) H :=
  RunsTo.hin N 60 [] fun kf hk => ⟨_, by kernel_rfl, .nil⟩
theorem ss_c_0 (N : Nat) (xb n : Nat) (lv bv : HV) (sh : Int) (H : Heap) (n0 : Int) (sm : Int) (H0 : Heap) (g0 : lenV Try.prog H 23 lv = some (.i n0)) (g1 : n0 = (n : Int)) (g2 : ∀ kf, N ≤ kf → callN Try.prog polJ (kf + 1) 37 [.sl xb 0 n none n 1, lv] H = some (.i sm, H0)) (g3 : sm < sh) : RunsTo Try.prog polJ 30 (sub [1, 1, 0] B30) (env30 (.sl xb 0 n none n 1) lv bv (.i sh) (.imm .lit 1 []) (.i 0) (.i (n : Int)) .undef .undef .undef .undef) H .ret (polJ.keys 30) (env30 (.sl xb 0 n none n 1) lv bv (.i sh) lv (.i sm) (.i (n : Int)) (.i sm) .undef .undef .undef) H0 :=
  RunsTo.hin N 60 [⟨2, 1, .i n0, H⟩, ⟨2, 3, .bool true, H⟩, ⟨3, 2, .i sm, H0⟩, ⟨4, 2, .bool true, H0⟩] fun kf hk => ⟨_, by kernel_rfl, (oP H g0 (oB H (decide_eq_true g1) (oC (g2 kf (by omega)) (oB H0 (decide_eq_true g3) .nil))))⟩
theorem ss_c_1 (N : Nat) (xb n : Nat) (lv bv : HV) (sh : Int) (H : Heap) (n0 : Int) (sm : Int) (H0 : Heap) (g0 : lenV Try.prog H 23 lv = some (.i n0)) (g1 : n0 = (n : Int)) (g2 : ∀ kf, N ≤ kf → callN Try.prog polJ (kf + 1) 37 [.sl xb 0 n none n 1, lv] H = some (.i sm, H0)) (g3 : ¬ (sm < sh)) : RunsTo Try.prog polJ 30 (sub [1, 1, 0] B30) (env30 (.sl xb 0 n none n 1) lv bv (.i sh) (.imm .lit 1 []) (.i 0) (.i (n : Int)) .undef .undef .undef .undef) H .ret (polJ.keys 30) (env30 (.sl xb 0 n none n 1) lv bv (.i sh) bv (.i sh) (.i (n : Int)) (.i sm) .undef .undef .undef) H0 :=
  RunsTo.hin N 60 [⟨2, 1, .i n0, H⟩, ⟨2, 3, .bool true, H⟩, ⟨3, 2, .i sm, H0⟩, ⟨4, 2, .bool false, H0⟩] fun kf hk => ⟨_, by kernel_rfl, (oP H g0 (oB H (decide_eq_true g1) (oC (g2 kf (by omega)) (oB H0 (decide_eq_false g3) .nil))))⟩
theorem ss_c_2 (N : Nat) (xb n : Nat) (lv bv : HV) (sh : Int) (H : Heap) (n0 : Int) (g0 : lenV Try.prog H 23 lv = some (.i n0)) (g1 : ¬ (n0 = (n : Int))) : RunsTo Try.prog polJ 30 (sub [1, 1, 0] B30) (env30 (.sl xb 0 n none n 1) lv bv (.i sh) (.imm .lit 1 []) (.i 0) (.i (n : Int)) .undef .undef .undef .undef) H .normal (polJ.keys 30) (env30 (.sl xb 0 n none n 1) lv bv (.i sh) (.imm .lit 1 []) (.i 0) (.i (n : Int)) .undef .undef .undef .undef) H :=
  RunsTo.hin N 60 [⟨2, 1, .i n0, H⟩, ⟨2, 3, .bool false, H⟩] fun kf hk => ⟨_, by kernel_rfl, (oP H g0 (oB H (decide_eq_false g1) .nil))⟩
theorem ss_d_0 (N : Nat) (xb n : Nat) (lv bv : HV) (sh : Int) (H : Heap) : RunsTo Try.prog polJ 30 (sub [1, 1, 1, 0, 0] B30) (env30 (.sl xb 0 n none n 1) lv bv (.i sh) (.imm .lit 1 []) (.i 0) (.i (n : Int)) .undef .undef .undef .undef) H .normal (polJ.keys 30) (env30 (.sl xb 0 n none n 1) lv bv (.i sh) (.imm .lit 1 []) (.i 0) (.i (n : Int)) .undef (.i 1) .undef .undef) H :=
  RunsTo.hin N 60 [] fun kf hk => ⟨_, by kernel_rfl, .nil⟩
theorem ss_e_0 (N : Nat) (xb n : Nat) (lv bv : HV) (sh : Int) (H : Heap) (y : Nat)(g0 : (y : Int) < (n : Int)) : RunsTo Try.prog polJ 30 (sub [1, 1, 1, 0, 1, 0, 0, 0] B30) (env30 (.sl xb 0 n none n 1) lv bv (.i sh) (.imm .lit 1 []) (.i 0) (.i (n : Int)) .undef (.i (y : Int)) .undef .undef) H .normal (polJ.keys 30) (env30 (.sl xb 0 n none n 1) lv bv (.i sh) (.imm .lit 1 []) (.i 0) (.i (n : Int)) .undef (.i (y : Int)) .undef .undef) H :=
  RunsTo.hin N 60 [⟨8, 2, .bool true, H⟩] fun kf hk => ⟨_, by kernel_rfl, (oB H (decide_eq_true g0) .nil)⟩
theorem ss_e_1 (N : Nat) (xb n : Nat) (lv bv : HV) (sh : Int) (H : Heap) (y : Nat)(g0 : ¬ ((y : Int) < (n : Int))) : RunsTo Try.prog polJ 30 (sub [1, 1, 1, 0, 1, 0, 0, 0] B30) (env30 (.sl xb 0 n none n 1) lv bv (.i sh) (.imm .lit 1 []) (.i 0) (.i (n : Int)) .undef (.i (y : Int)) .undef .undef) H (.exit 0) (polJ.keys 30) (env30 (.sl xb 0 n none n 1) lv bv (.i sh) (.imm .lit 1 []) (.i 0) (.i (n : Int)) .undef (.i (y : Int)) .undef .undef) H :=
  RunsTo.hin N 60 [⟨8, 2, .bool false, H⟩] fun kf hk => ⟨_, by kernel_rfl, (oB H (decide_eq_false g0) .nil)⟩
theorem ss_f_0 (N : Nat) (xb n : Nat) (lv bv : HV) (sh : Int) (H : Heap) (y : Nat) : RunsTo Try.prog polJ 30 (sub [1, 1, 1, 0, 1, 0, 0, 1, 0, 0, 0] B30) (env30 (.sl xb 0 n none n 1) lv bv (.i sh) (.imm .lit 1 []) (.i 0) (.i (n : Int)) .undef (.i (y : Int)) .undef .undef) H .normal (polJ.keys 30) (env30 (.sl xb 0 n none n 1) lv bv (.i sh) (.imm .lit 1 []) (.i 0) (.i (n : Int)) .undef (.i (y : Int)) (.bool false) .undef) H :=
  RunsTo.hin N 60 [] fun kf hk => ⟨_, by kernel_rfl, .nil⟩
theorem ss_lt_0 (N : Nat) (xb n : Nat) (lv bv : HV) (sh : Int) (H : Heap) (y : Nat) (j : Nat) (n0 : Int) (g0 : lenV Try.prog H 23 lv = some (.i n0)) (g1 : (j : Int) < n0) : RunsTo Try.prog polJ 30 (sub [1, 1, 1, 0, 1, 0, 0, 1, 0, 0, 1, 0, 1, 0, 0] B30) (env30 (.sl xb 0 n none n 1) lv bv (.i sh) (.imm .lit 1 []) (.i 0) (.i (n : Int)) .undef (.i (y : Int)) (.bool true) (.i (j : Int))) H .normal (polJ.keys 30) (env30 (.sl xb 0 n none n 1) lv bv (.i sh) (.imm .lit 1 []) (.i 0) (.i (n : Int)) .undef (.i (y : Int)) (.bool true) (.i (IntKind.i64.wrap ((j : Int) + 1)))) H :=
  RunsTo.hin N 60 [⟨12, 2, .i n0, H⟩, ⟨12, 3, .bool true, H⟩] fun kf hk => ⟨_, by kernel_rfl, (oP H g0 (oB H (decide_eq_true g1) .nil))⟩
theorem ss_lt_1 (N : Nat) (xb n : Nat) (lv bv : HV) (sh : Int) (H : Heap) (y : Nat) (j : Nat) (n0 : Int) (g0 : lenV Try.prog H 23 lv = some (.i n0)) (g1 : ¬ ((j : Int) < n0)) : RunsTo Try.prog polJ 30 (sub [1, 1, 1, 0, 1, 0, 0, 1, 0, 0, 1, 0, 1, 0, 0] B30) (env30 (.sl xb 0 n none n 1) lv bv (.i sh) (.imm .lit 1 []) (.i 0) (.i (n : Int)) .undef (.i (y : Int)) (.bool true) (.i (j : Int))) H (.exit 2) (polJ.keys 30) (env30 (.sl xb 0 n none n 1) lv bv (.i sh) (.imm .lit 1 []) (.i 0) (.i (n : Int)) .undef (.i (y : Int)) (.bool true) (.i (j : Int))) H :=
  RunsTo.hin N 60 [⟨12, 2, .i n0, H⟩, ⟨12, 3, .bool false, H⟩] fun kf hk => ⟨_, by kernel_rfl, (oP H g0 (oB H (decide_eq_false g1) .nil))⟩
theorem ss_mt_0 (N : Nat) (xb n : Nat) (lv bv : HV) (sh : Int) (H : Heap) (y : Nat) (y14 : HV) (m cb : Nat) : RunsTo Try.prog polJ 30 (sub [1, 1, 1, 0, 1, 0, 0, 1, 0, 0, 1, 1] B30) (env30 (.sl xb 0 n none n 1) lv bv (.i sh) (.imm .lit 1 []) (.i 0) (.i (n : Int)) .undef (.i (y : Int)) (.bool true) y14) H .normal (polJ.keys 30) (env30 (.sl xb 0 n none n 1) lv bv (.i sh) (.imm .lit 1 []) (.i 0) (.i (n : Int)) .undef (.i (y : Int)) (.bool true) y14) H :=
  RunsTo.hin N 60 [] fun kf hk => ⟨_, by kernel_rfl, .nil⟩
theorem ss_g_0 (N : Nat) (xb n : Nat) (lv bv : HV) (sh : Int) (H : Heap) (y : Nat) : RunsTo Try.prog polJ 30 (sub [1, 1, 1, 0, 1, 0, 0, 1, 0, 0, 1, 0, 0] B30) (env30 (.sl xb 0 n none n 1) lv bv (.i sh) (.imm .lit 1 []) (.i 0) (.i (n : Int)) .undef (.i (y : Int)) (.bool false) .undef) H .normal (polJ.keys 30) (env30 (.sl xb 0 n none n 1) lv bv (.i sh) (.imm .lit 1 []) (.i 0) (.i (n : Int)) .undef (.i (y : Int)) (.bool false) (.i 0)) H :=
  RunsTo.hin N 60 [] fun kf hk => ⟨_, by kernel_rfl, .nil⟩
theorem ss_lf_0 (N : Nat) (xb n : Nat) (lv bv : HV) (sh : Int) (H : Heap) (y : Nat) (j : Nat) (n0 : Int) (a0 : HV) (x0 : Int) (g0 : lenV Try.prog H 23 lv = some (.i n0)) (g1 : (j : Int) < n0) (g2 : idxV Try.prog 23 lv (.i (j : Int)) = some (a0)) (g3 : loadV Try.prog H 3 (a0) = some (.i x0)) (g4 : x0 = (y : Int)) : RunsTo Try.prog polJ 30 (sub [1, 1, 1, 0, 1, 0, 0, 1, 0, 0, 1, 0, 1, 0, 0] B30) (env30 (.sl xb 0 n none n 1) lv bv (.i sh) (.imm .lit 1 []) (.i 0) (.i (n : Int)) .undef (.i (y : Int)) (.bool false) (.i (j : Int))) H .normal (polJ.keys 30) (env30 (.sl xb 0 n none n 1) lv bv (.i sh) (.imm .lit 1 []) (.i 0) (.i (n : Int)) .undef (.i (y : Int)) (.bool true) (.i (IntKind.i64.wrap ((j : Int) + 1)))) H :=
  RunsTo.hin N 60 [⟨12, 2, .i n0, H⟩, ⟨12, 3, .bool true, H⟩, ⟨14, 4, a0, H⟩, ⟨14, 5, .i x0, H⟩, ⟨14, 7, .bool true, H⟩] fun kf hk => ⟨_, by kernel_rfl, (oP H g0 (oB H (decide_eq_true g1) (oP H g2 (oP H g3 (oB H (decide_eq_true g4) .nil)))))⟩
theorem ss_lf_1 (N : Nat) (xb n : Nat) (lv bv : HV) (sh : Int) (H : Heap) (y : Nat) (j : Nat) (n0 : Int) (a0 : HV) (x0 : Int) (g0 : lenV Try.prog H 23 lv = some (.i n0)) (g1 : (j : Int) < n0) (g2 : idxV Try.prog 23 lv (.i (j : Int)) = some (a0)) (g3 : loadV Try.prog H 3 (a0) = some (.i x0)) (g4 : ¬ (x0 = (y : Int))) : RunsTo Try.prog polJ 30 (sub [1, 1, 1, 0, 1, 0, 0, 1, 0, 0, 1, 0, 1, 0, 0] B30) (env30 (.sl xb 0 n none n 1) lv bv (.i sh) (.imm .lit 1 []) (.i 0) (.i (n : Int)) .undef (.i (y : Int)) (.bool false) (.i (j : Int))) H .normal (polJ.keys 30) (env30 (.sl xb 0 n none n 1) lv bv (.i sh) (.imm .lit 1 []) (.i 0) (.i (n : Int)) .undef (.i (y : Int)) (.bool false) (.i (IntKind.i64.wrap ((j : Int) + 1)))) H :=
  RunsTo.hin N 60 [⟨12, 2, .i n0, H⟩, ⟨12, 3, .bool true, H⟩, ⟨14, 4, a0, H⟩, ⟨14, 5, .i x0, H⟩, ⟨14, 7, .bool false, H⟩] fun kf hk => ⟨_, by kernel_rfl, (oP H g0 (oB H (decide_eq_true g1) (oP H g2 (oP H g3 (oB H (decide_eq_false g4) .nil)))))⟩
theorem ss_lf_2 (N : Nat) (xb n : Nat) (lv bv : HV) (sh : Int) (H : Heap) (y : Nat) (j : Nat) (n0 : Int) (g0 : lenV Try.prog H 23 lv = some (.i n0)) (g1 : ¬ ((j : Int) < n0)) : RunsTo Try.prog polJ 30 (sub [1, 1, 1, 0, 1, 0, 0, 1, 0, 0, 1, 0, 1, 0, 0] B30) (env30 (.sl xb 0 n none n 1) lv bv (.i sh) (.imm .lit 1 []) (.i 0) (.i (n : Int)) .undef (.i (y : Int)) (.bool false) (.i (j : Int))) H (.exit 2) (polJ.keys 30) (env30 (.sl xb 0 n none n 1) lv bv (.i sh) (.imm .lit 1 []) (.i 0) (.i (n : Int)) .undef (.i (y : Int)) (.bool false) (.i (j : Int))) H :=
  RunsTo.hin N 60 [⟨12, 2, .i n0, H⟩, ⟨12, 3, .bool false, H⟩] fun kf hk => ⟨_, by kernel_rfl, (oP H g0 (oB H (decide_eq_false g1) .nil))⟩
theorem ss_mf_0 (N : Nat) (xb n : Nat) (lv bv : HV) (sh : Int) (H : Heap) (y : Nat) (y14 : HV) (m cb : Nat) (H0 : Heap) (H1 : Heap) (rv : HV) (rs : Int) (H2 : Heap) (g0 : ∀ kf, N ≤ kf → callN Try.prog polJ (kf + 1) 16 [lv] H = some (.sl cb 0 m none m 1, H0)) (g1 : appV H0 1 8 (.sl cb 0 m none m 1) [.i (y : Int)] = some (.sl cb 0 (m + 1) none (m + 1) 1, H1)) (g2 : ∀ kf, N ≤ kf → callN Try.prog polJ (kf + 1) 30 [.sl xb 0 n none n 1, .sl cb 0 (m + 1) none (m + 1) 1, bv, .i sh] H1 = some (.tuple [rv, .i rs], H2)) : RunsTo Try.prog polJ 30 (sub [1, 1, 1, 0, 1, 0, 0, 1, 0, 0, 1, 1] B30) (env30 (.sl xb 0 n none n 1) lv bv (.i sh) (.imm .lit 1 []) (.i 0) (.i (n : Int)) .undef (.i (y : Int)) (.bool false) y14) H .normal (polJ.keys 30) (env30 (.sl xb 0 n none n 1) lv rv (.i rs) (.imm .lit 1 []) (.i 0) (.i (n : Int)) .undef (.i (y : Int)) (.bool false) y14) H2 :=
  RunsTo.hin N 60 [⟨16, 2, .sl cb 0 m none m 1, H0⟩, ⟨16, 5, .sl cb 0 (m + 1) none (m + 1) 1, H1⟩, ⟨16, 8, .tuple [rv, .i rs], H2⟩] fun kf hk => ⟨_, by kernel_rfl, (oC (g0 kf (by omega)) (oC (g1) (oC (g2 kf (by omega)) .nil)))⟩
theorem ss_n_0 (N : Nat) (xb n : Nat) (lv bv : HV) (sh : Int) (H : Heap) (y : Nat) (y13 y14 : HV) : RunsTo Try.prog polJ 30 (sub [1, 1, 1, 0, 1, 0, 0, 1, 1] B30) (env30 (.sl xb 0 n none n 1) lv bv (.i sh) (.imm .lit 1 []) (.i 0) (.i (n : Int)) .undef (.i (y : Int)) y13 y14) H .normal (polJ.keys 30) (env30 (.sl xb 0 n none n 1) lv bv (.i sh) (.imm .lit 1 []) (.i 0) (.i (n : Int)) .undef (.i (IntKind.i64.wrap ((y : Int) + 1))) y13 y14) H :=
  RunsTo.hin N 60 [] fun kf hk => ⟨_, by kernel_rfl, .nil⟩
theorem ss_z_0 (N : Nat) (xb n : Nat) (lv bv : HV) (sh : Int) (H : Heap) (y12 y13 y14 : HV) : RunsTo Try.prog polJ 30 (sub [1, 1, 1, 1] B30) (env30 (.sl xb 0 n none n 1) lv bv (.i sh) (.imm .lit 1 []) (.i 0) (.i (n : Int)) .undef y12 y13 y14) H .ret (polJ.keys 30) (env30 (.sl xb 0 n none n 1) lv bv (.i sh) bv (.i sh) (.i (n : Int)) .undef y12 y13 y14) H :=
  RunsTo.hin N 60 [] fun kf hk => ⟨_, by kernel_rfl, .nil⟩
end Go.Proofs.Ytlendaofkmhgmaa
end
section
open Go Go.HL
namespace Go.Proofs.Ytlendaofkmhgmaa
set_option maxRecDepth 100000 in
theorem awake_fast : callNF Try.prog pol 200 20 [] [] = some (.bool true, []) := by kernel_rfl
theorem awake_prim : PrimOk Try.prog 20 awakeF := by
  refine primOk_of (pol := pol) sound (by kernel_rfl) fun args res h => ?_
  match args, h with
  | [], h =>
    cases h
    exact ⟨200, _, _, false, by rw [← callNF_eq]; exact awake_fast, rfl⟩
end Go.Proofs.Ytlendaofkmhgmaa
end
section
open Go Go.HL
namespace Go.Proofs.Ytlendaofkmhgmaa
section
variable {pol' : Pol} {d : List (List Int)} {l : List Int} {H : Heap} {xb lb : Nat}
abbrev bRw (d : List (List Int)) : Blk := .arr 1 (d.map encO) true 0
end
section
variable {pol' : Pol} {d : List (List Int)} {l : List Int} {H : Heap} {xb lb : Nat}
theorem rows_len (h : okD d) : d.length ≤ 1000 ∧ (d.all fun r => decide (r.length ≤ 1000)) = true := by
  have hn := h.1
  refine ⟨by omega, List.all_eq_true.2 fun r hr => ?_⟩
  obtain ⟨i, hi⟩ := List.mem_iff_getElem?.1 hr
  have hil := lt_of_get hi
  have := h.2.1 i hil
  rw [List.getD, hi] at this
  exact decide_eq_true (by simp at this; omega)
end
section
variable {pol' : Pol} {d : List (List Int)} {l : List Int} {H : Heap} {xb lb : Nat}
theorem c_tame (hp : pol'.prim 28 = some tame28) {R : List (List Int)} {n : Nat} {mo : Int} (hn : 1 ≤ n ∧ n ≤ 12) (hm : 0 ≤ mo ∧ mo ≤ 1000000) (H : Heap) : ∀ k, callN Try.prog pol' (k + 1) 28 [.imm .arg 1 (R.map encR), .int .i64 (n : Int), .int .i64 mo] H = some (.sl H.length 0 (tameL R n mo).length none (tameL R n mo).length 1, H ++ [bRw (tameL R n mo)]) := fun k => by
  rw [prim_call (pol := pol') (g := 28) (F := tame28) hp (rs := [.imm .arg 1 (R.map encR), .int .i64 (n : Int), .int .i64 mo]) (by simp only [mapO, arg_rw]; rfl) (res := .own 1 ((tameL R n mo).map encO)) (by simp only [tame28, nmF, mapO_map decR_enc]; rw [if_pos ⟨by omega, hm⟩, Int.toNat_natCast]), recv_rows]
end
section
variable {pol' : Pol} {d : List (List Int)} {l : List Int} {H : Heap} {xb lb : Nat}
theorem c_best (hp : pol'.prim 29 = some best29) (hd : okD d) (hx : H[xb]? = some (bRw d)) : ∀ k, callN Try.prog pol' (k + 1) 29 [.sl xb 0 d.length none d.length 1] H = some (.tuple [.sl H.length 0 (bestT d).length none (bestT d).length 1, .int .i64 (lenT d (bestT d)), .int .i64 0], H ++ [bI (bestT d)]) := fun k => by
  have hr := rows_len hd
  rw [prim_call (pol := pol') (g := 29) (F := best29) hp (rs := [.imm .arg 1 (d.map encR)]) (by simp only [mapO, arg_rs rfl hx]) (res := .tuple [.own 1 ((bestT d).map encI), .int .i64 (lenT d (bestT d)), .int .i64 0]) (by
    simp only [best29, rwF, mapO_map decR_enc]
    rw [if_pos ⟨hr.1, hr.2⟩, if_pos hd])]
  simp only [recv, recvVals, recvVal, recvCell, encI_any, List.length_map]
  rfl
end
theorem n_of (R0 : List (List Int)) (m : Int) (hm : 0 < m ∧ m ≤ 1000) (c : Int) (hc : 0 ≤ c ∧ c ≤ 3) : ∃ n : Nat, (c ≤ n ∧ (n : Int) < c + m) ∧ IntKind.i64.wrap (c + modW (IntKind.i64.wrap (((R0.map encR).length : Int) - c)) m) = (n : Int) := by
  have h := modW_bounds (IntKind.i64.wrap (((R0.map encR).length : Int) - c)) m (by omega) (by omega)
  refine ⟨(c + modW (IntKind.i64.wrap (((R0.map encR).length : Int) - c)) m).toNat, by omega, ?_⟩
  rw [wrap_id (by omega) (by omega)]; omega
end Go.Proofs.Ytlendaofkmhgmaa
end
section
open Go Go.HL
namespace Go.Proofs.Ytlendaofkmhgmaa
theorem soundJ (n : Nat) : CallSound Try.prog (callN Try.prog polJ n) := sound_prim _ (fun g f h => by
  split at h
  · rename_i hg; cases h; rw [eq_of_beq hg]; exact awake_prim
  split at h
  · rename_i hg; cases h; rw [eq_of_beq hg]; exact mod_ok
  split at h
  · rename_i hg; cases h; rw [eq_of_beq hg]; exact tame_ok
  split at h
  · rename_i hg; cases h; rw [eq_of_beq hg]; exact best_ok
  split at h
  · rename_i hg; cases h; rw [eq_of_beq hg]; exact ints_ok
  split at h
  · rename_i hg; cases h; rw [eq_of_beq hg]; exact list_ok
  split at h
  · rename_i hg; cases h; rw [eq_of_beq hg]; exact rlen_ok
  · cases h) n
theorem res30 : Try.f30.results.toList = [.tmp 8, .tmp 9] := by kernel_rfl
abbrev ClJ (g : FuncId) (args : List HV) (H : Heap) (r : HV) (H' : Heap) : Prop := CallsTo (P := Try.prog) (pol := polJ) g args H r H'
def Lv (H : Heap) (v : HV) (l : List Int) : Prop := v = .imm .lit 1 (l.map encI) ∨ ∃ c, v = .sl c 0 l.length none l.length 1 ∧ H[c]? = some (bI l)
def Ext (H H' : Heap) : Prop := H.length ≤ H'.length ∧ ∀ q, q < H.length → H'[q]? = H[q]?
theorem Ext.refl (H : Heap) : Ext H H := ⟨Nat.le_refl _, fun _ _ => rfl⟩
theorem Ext.trans {H H' H'' : Heap} (h : Ext H H') (h' : Ext H' H'') : Ext H H'' := ⟨Nat.le_trans h.1 h'.1, fun q hq => by rw [h'.2 q (Nat.lt_of_lt_of_le hq h.1), h.2 q hq]⟩
theorem Ext.at {H H' : Heap} (h : Ext H H') {q : Nat} {B : Blk} (hq : H[q]? = some B) : H'[q]? = some B := by rw [h.2 q (lt_of_get hq), hq]
theorem Ext.gc {H H' : Heap} (h : Ext H H') (r : Nat) : Ext H (gc H.length r H') := by
  unfold HL.gc
  have := h.1
  refine ⟨by rw [List.length_take]; omega, fun q hq => ?_⟩
  rw [List.getElem?_take, if_pos (by omega)]; exact h.2 q hq
theorem Ext.app (H : Heap) (B : Blk) : Ext H (H ++ [B]) := ⟨by simp, fun q hq => List.getElem?_append_left hq⟩
theorem Lv.ext {H H' : Heap} {v : HV} {l : List Int} (h : Lv H v l) (e : Ext H H') : Lv H' v l := by
  rcases h with h | ⟨c, h1, h2⟩
  · exact .inl h
  · exact .inr ⟨c, h1, e.at h2⟩
theorem Lv.gc {H : Heap} {v : HV} {l : List Int} (h : Lv H v l) {b r : Nat} (hr : bnd v ≤ r) : Lv (gc b r H) v l := by
  rcases h with h | ⟨c, h1, h2⟩
  · exact .inl h
  · subst h1
    simp only [bnd] at hr
    exact .inr ⟨c, rfl, by unfold HL.gc; rw [List.getElem?_take, if_pos (by omega)]; exact h2⟩
theorem mxs_gc0 {H : Heap} (h : mxs H ≤ 0) (b r : Nat) : mxs (gc b r H) ≤ 0 := by
  unfold HL.gc
  rw [mxs_le] at h ⊢
  exact fun C hC => h C (List.mem_of_mem_take hC)
theorem Lv.len {H : Heap} {v : HV} {l : List Int} (h : Lv H v l) : lenV Try.prog H 23 v = some (.int .i64 (l.length : Int)) := by
  rcases h with h | ⟨c, h1, h2⟩
  · subst h; simp only [lenV, u23, List.length_map]
  · subst h1; simp only [lenV, u23]
theorem Lv.ix {H : Heap} {v : HV} {l : List Int} (h : Lv H v l) {j : Nat} (hj : j < l.length) : ∃ a, idxV Try.prog 23 v (.int .i64 (j : Int)) = some a ∧ loadV Try.prog H 3 a = some (.int .i64 (l.getD j 0)) := by
  rcases h with h | ⟨c, h1, h2⟩
  · subst h
    refine ⟨.vptr (.int .i64 (l.getD j 0)), idx_imm u23 z3 (by omega) (by rw [Int.toNat_natCast, List.getElem?_map, List.getElem?_eq_getElem hj]; simp [List.getD, List.getElem?_eq_getElem hj, encI]), ?_⟩
    simp only [loadV, a3, i3]
    rfl
  · subst h1
    have := idx_sl (P := Try.prog) (t := 23) (b := c) (len := l.length) (tot := l.length) (cap := none) (ik := .i64) (n := (j : Int)) u23 z3 (by omega) (by omega)
    rw [Int.toNat_natCast] at this
    exact ⟨_, this, load_out h2 hj⟩
theorem Lv.arg {H : Heap} {v : HV} {l : List Int} (h : Lv H v l) : toArg H 6 v = some (.imm .arg 1 (l.map encI)) := by
  rcases h with h | ⟨c, h1, h2⟩
  · subst h
    show argP (.imm .lit 1 (l.map encI)) = _
    simp only [argP, argP_ints']
  · subst h1; exact arg_sl rfl h2
def Bv (H : Heap) (v : HV) (l : List Int) : Prop := Lv H v l ∨ v = .imm .lit 0 [] ∧ l = []
theorem Bv.ext {H H' : Heap} {v : HV} {l : List Int} (h : Bv H v l) (e : Ext H H') : Bv H' v l := h.imp (fun h => h.ext e) id
theorem Bv.gc {H : Heap} {v : HV} {l : List Int} (h : Bv H v l) {b r : Nat} (hr : bnd v ≤ r) : Bv (gc b r H) v l := h.imp (fun h => h.gc hr) id
section
variable {d : List (List Int)} {xb : Nat}
abbrev ssE (xb n : Nat) (lv bv : HV) (s : Int) (y11 y12 y13 y14 : HV) : Env := env30 (.sl xb 0 n none n 1) lv bv (.int .i64 s) (.imm .lit 1 []) (.int .i64 0) (.int .i64 (n : Int)) y11 y12 y13 y14
end
section
variable {d : List (List Int)} {xb : Nat}
theorem ss_used {n : Nat} {lv bv : HV} {s : Int} {H : Heap} {l : List Int} (hl : Lv H lv l) (h9 : l.length ≤ 1000) {y : Nat} : ∀ (k j : Nat) (b : Bool), j + k = l.length →
    RunsTo Try.prog polJ 30 (sub [1, 1, 1, 0, 1, 0, 0, 1, 0, 0, 1, 0, 1, 0] B30) (ssE xb n lv bv s .undef (.int .i64 (y : Int)) (.bool b) (.int .i64 (j : Int))) H (.exit 2) (polJ.keys 30) (ssE xb n lv bv s .undef (.int .i64 (y : Int)) (.bool (b || decide ((y : Int) ∈ l.drop j))) (.int .i64 (l.length : Int))) H := by
  intro k
  induction k with
  | zero =>
    intro j b hj
    have hj : j = l.length := by omega
    subst hj
    have e : (b || decide ((y : Int) ∈ l.drop l.length)) = b := by rw [List.drop_length]; simp
    rw [e]
    cases b with
    | true => exact RunsTo.loop_out (ss_lt_1 0 xb n lv bv s H y l.length _ hl.len (by omega)) (by simp) (by kernel_rfl) (by kernel_rfl)
    | false => exact RunsTo.loop_out (ss_lf_2 0 xb n lv bv s H y l.length _ hl.len (by omega)) (by simp) (by kernel_rfl) (by kernel_rfl)
  | succ k ih =>
    intro j b hj
    have hjl : j < l.length := by omega
    have ed : l.drop j = l.getD j 0 :: l.drop (j + 1) := by
      rw [List.drop_eq_getElem_cons hjl]
      simp [List.getD, List.getElem?_eq_getElem hjl]
    obtain ⟨a, g1, g2⟩ := hl.ix hjl
    cases b with
    | true =>
      have s1 := ss_lt_0 0 xb n lv bv s H y j _ hl.len (by omega)
      rw [wrap_succ (by omega)] at s1
      have := ih (j + 1) true (by omega)
      simp only [Bool.true_or] at this ⊢
      exact RunsTo.loop s1 (by kernel_rfl) (gc_eq _ rfl) this rfl (by kernel_rfl) (by kernel_rfl)
    | false =>
      by_cases c : l.getD j 0 = (y : Int)
      · have s1 := ss_lf_0 0 xb n lv bv s H y j _ _ _ hl.len (by omega) g1 g2 c
        rw [wrap_succ (by omega)] at s1
        have := ih (j + 1) true (by omega)
        have e : (false || decide ((y : Int) ∈ l.drop j)) = (true || decide ((y : Int) ∈ l.drop (j + 1))) := by
          rw [ed, c]; simp
        rw [e]
        exact RunsTo.loop s1 (by kernel_rfl) (gc_eq _ rfl) this rfl (by kernel_rfl) (by kernel_rfl)
      · have s1 := ss_lf_1 0 xb n lv bv s H y j _ _ _ hl.len (by omega) g1 g2 c
        rw [wrap_succ (by omega)] at s1
        have := ih (j + 1) false (by omega)
        have e : (false || decide ((y : Int) ∈ l.drop j)) = (false || decide ((y : Int) ∈ l.drop (j + 1))) := by
          rw [ed]
          have c' : ¬ ((y : Int) = l.getD j 0) := fun h => c h.symm
          have hi : ((y : Int) ∈ l.getD j 0 :: l.drop (j + 1)) ↔ (y : Int) ∈ l.drop (j + 1) := by
            rw [List.mem_cons]
            exact ⟨fun h => h.resolve_left c', .inr⟩
          rw [decide_eq_decide.2 hi]
        rw [e]
        exact RunsTo.loop s1 (by kernel_rfl) (gc_eq _ rfl) this rfl (by kernel_rfl) (by kernel_rfl)
end
section
variable {d : List (List Int)} {xb : Nat}
theorem Lv.bnd {H : Heap} {v : HV} {l : List Int} (h : Lv H v l) : bnd v ≤ H.length := by
  rcases h with h | ⟨c, h1, h2⟩
  · subst h
    simp [HL.bnd, ints_bnd]
  · subst h1
    have := lt_of_get h2
    simp only [HL.bnd]; omega
end
section
variable {d : List (List Int)} {xb : Nat}
theorem Bv.bnd {H : Heap} {v : HV} {l : List Int} (h : Bv H v l) : bnd v ≤ H.length := by
  rcases h with h | ⟨h1, _⟩
  · exact h.bnd
  · subst h1; simp [HL.bnd, bndL]
end
section
variable {d : List (List Int)} {xb : Nat}
def ShOk (d : List (List Int)) (xb k : Nat) : Prop := ∀ (H : Heap) (lv bv : HV) (l b : List Int) (s : Int), H[xb]? = some (bRw d) → Lv H lv l → Bv H bv b → bnd bv ≤ H.length → mxs H ≤ 0 → l.length + k = d.length → inT d.length l →
    ∃ rv H', ClJ 30 [.sl xb 0 d.length none d.length 1, lv, bv, .int .i64 s] H (.tuple [rv, .int .i64 (sho d k l b s).2]) H' ∧ Ext H H' ∧ Bv H' rv (sho d k l b s).1 ∧ bnd rv ≤ H'.length ∧ mxs H' ≤ 0
end
section
variable {d : List (List Int)} {xb : Nat}
theorem c_list {pol' : Pol} (hp : pol'.prim 16 = some list16) {H : Heap} {lv : HV} {l : List Int} (hl : Lv H lv l) (h : l.length ≤ 13) : ∀ k, callN Try.prog pol' (k + 1) 16 [lv] H = some (.sl H.length 0 l.length none l.length 1, H ++ [bI l]) := fun k => by
  rw [prim_call (pol := pol') (g := 16) (F := list16) hp (rs := [.imm .arg 1 (l.map encI)]) (by simp only [mapO, hl.arg]) (res := .own 1 ((l.take 13).map encI)) (by simp only [list16, liF, mapO_map decI_enc]), recv_ints, List.take_of_length_le h]
end
section
variable {d : List (List Int)} {xb : Nat}
theorem ss_loop (hd : okD d) {k : Nat} (hS : ShOk d xb k) : ∀ (j y : Nat) (H : Heap) (lv bv : HV) (l b : List Int) (s : Int), y + j = d.length → H[xb]? = some (bRw d) → Lv H lv l → Bv H bv b → mxs H ≤ 0 → l.length + (k + 1) = d.length → inT d.length l →
    ∃ rv H', RunsTo Try.prog polJ 30 (sub [1, 1, 1, 0, 1, 0] B30) (ssE xb d.length lv bv s .undef (.int .i64 (y : Int)) .undef .undef) H (.exit 0) (polJ.keys 30) (ssE xb d.length lv rv (shoL (sho d k) l j y b s).2 .undef (.int .i64 (d.length : Int)) .undef .undef) H' ∧ Ext H H' ∧ Bv H' rv (shoL (sho d k) l j y b s).1 ∧ mxs H' ≤ 0 := by
  have hn := hd.1
  intro j
  induction j with
  | zero =>
    intro y H lv bv l b s hy hx hl hb hm hk hi
    have hy : y = d.length := by omega
    subst hy
    rw [shoL]
    exact ⟨bv, H, RunsTo.loop_out (RunsTo.seq_out (ss_e_1 0 xb d.length lv bv s H d.length (by omega)) (by simp) (c := sub [1, 1, 1, 0, 1, 0, 0] B30) (b := sub [1, 1, 1, 0, 1, 0, 0, 1] B30) (by kernel_rfl)) (by simp) (by kernel_rfl) (by kernel_rfl), Ext.refl _, hb, hm⟩
  | succ j ih =>
    intro y H lv bv l b s hy hx hl hb hm hk hi
    have e := ss_e_0 0 xb d.length lv bv s H y (by omega)
    have f := ss_f_0 0 xb d.length lv bv s H y
    have g := ss_g_0 0 xb d.length lv bv s H y
    have u := ss_used (xb := xb) (n := d.length) (bv := bv) (s := s) hl (by omega) (y := y) l.length 0 false (by omega)
    rw [List.drop_zero, Bool.false_or] at u
    rw [shoL]
    have iter : ∀ (q : Bool) (bv2 : HV) (s2 : Int) (H2 : Heap), decide ((y : Int) ∈ l) = q →
        RunsTo Try.prog polJ 30 (sub [1, 1, 1, 0, 1, 0, 0, 1, 0, 0, 1, 1] B30) (ssE xb d.length lv bv s .undef (.int .i64 (y : Int)) (.bool q) (.int .i64 (l.length : Int))) H .normal (polJ.keys 30) (ssE xb d.length lv bv2 s2 .undef (.int .i64 (y : Int)) (.bool q) (.int .i64 (l.length : Int))) H2 →
        RunsTo Try.prog polJ 30 (sub [1, 1, 1, 0, 1, 0, 0] B30) (ssE xb d.length lv bv s .undef (.int .i64 (y : Int)) .undef .undef) H .normal (polJ.keys 30) (ssE xb d.length lv bv2 s2 .undef (.int .i64 ((y + 1 : Nat) : Int)) (.bool q) (.int .i64 (l.length : Int))) H2 := by
      intro q bv2 s2 H2 hq hr
      rw [hq] at u
      have nn := ss_n_0 0 xb d.length lv bv2 s2 H2 y (.bool q) (.int .i64 (l.length : Int))
      rw [wrap_succ (by omega)] at nn
      have t1 := RunsTo.seq g (RunsTo.block_exit (c := sub [1, 1, 1, 0, 1, 0, 0, 1, 0, 0, 1, 0, 1] B30) u (by kernel_rfl)) (c := sub [1, 1, 1, 0, 1, 0, 0, 1, 0, 0, 1, 0] B30) (by kernel_rfl) (by kernel_rfl)
      have t2 := RunsTo.seq t1 hr (c := sub [1, 1, 1, 0, 1, 0, 0, 1, 0, 0, 1] B30) (by kernel_rfl) (by kernel_rfl)
      have t3 := RunsTo.seq f t2 (c := sub [1, 1, 1, 0, 1, 0, 0, 1, 0, 0] B30) (by kernel_rfl) (by kernel_rfl)
      have t4 := RunsTo.block_normal (i := 1) (c := sub [1, 1, 1, 0, 1, 0, 0, 1, 0] B30) t3 (by kernel_rfl)
      have t5 := RunsTo.seq t4 nn (c := sub [1, 1, 1, 0, 1, 0, 0, 1] B30) (by kernel_rfl) (by kernel_rfl)
      exact RunsTo.seq e t5 (c := sub [1, 1, 1, 0, 1, 0, 0] B30) (by kernel_rfl) (by kernel_rfl)
    by_cases c : (y : Int) ∈ l
    · rw [if_pos c]
      have m := ss_mt_0 0 xb d.length lv bv s H y (.int .i64 (l.length : Int)) 0 0
      have t := iter true bv s H (decide_eq_true c) m
      obtain ⟨rv, H', r, q1, q2, q3⟩ := ih (y + 1) H lv bv l b s (by omega) hx hl hb hm hk hi
      exact ⟨rv, H', RunsTo.loop t (by kernel_rfl) (gc_eq _ rfl) r rfl (by kernel_rfl) (by kernel_rfl), q1, q2, q3⟩
    · rw [if_neg c]
      have hc1 := c_list (pol' := polJ) (by kernel_rfl) hl (by omega)
      have g1 : (H ++ [bI l])[H.length]? = some (bI l) := by rw [List.getElem?_append_right (Nat.le_refl _)]; simp
      have ap := app_ints (o := l) (xs := [(y : Int)]) g1 (by simp; omega) (by simp)
      rw [show (l ++ [(y : Int)]).length = l.length + 1 by simp] at ap
      have eH : (H ++ [bI l]).set H.length (bI (l ++ [(y : Int)])) = H ++ [bI (l ++ [(y : Int)])] := by
        rw [List.set_append_right _ _ (Nat.le_refl _), Nat.sub_self]; rfl
      rw [eH] at ap
      have x1 := Ext.app H (bI (l ++ [(y : Int)]))
      have hl1 : Lv (H ++ [bI (l ++ [(y : Int)])]) (.sl H.length 0 (l.length + 1) none (l.length + 1) 1) (l ++ [(y : Int)]) := .inr ⟨H.length, by simp, by rw [List.getElem?_append_right (Nat.le_refl _)]; simp⟩
      obtain ⟨rv, H2, hcl, x2, hrv, hbn, hm2⟩ := hS (H ++ [bI (l ++ [(y : Int)])]) _ bv (l ++ [(y : Int)]) b s (x1.at hx) hl1 (hb.ext x1) (hb.ext x1).bnd (mxs_app0 hm rfl) (by simp; omega) (fun v hv => by
        rw [List.mem_append, List.mem_singleton] at hv
        rcases hv with hv | rfl
        · exact hi v hv
        · omega)
      obtain ⟨N, hN⟩ := CallsTo.from hcl
      have m := ss_mf_0 N xb d.length lv bv s H y (.int .i64 (l.length : Int)) l.length H.length _ _ rv _ H2 (fun kf _ => hc1 kf) ap hN
      have t := iter false _ _ _ (decide_eq_false c) m
      have x3 : Ext H H2 := x1.trans x2
      generalize hr : bndE (ssE xb d.length lv rv (sho d k (l ++ [(y : Int)]) b s).2 .undef (.int .i64 ((y + 1 : Nat) : Int)) .undef .undef) = r
      have hrb : bnd rv ≤ r := by
        rw [← hr]
        simp only [bndE, bnd]
        omega
      obtain ⟨rv', H', r', q1, q2, q3⟩ := ih (y + 1) (gc H.length r H2) lv rv l (sho d k (l ++ [(y : Int)]) b s).1 (sho d k (l ++ [(y : Int)]) b s).2 (by omega) ((x3.gc r).at hx) (hl.ext (x3.gc r)) (hrv.gc hrb) (mxs_gc0 hm2 _ _) hk hi
      exact ⟨rv', H', RunsTo.loop t (by kernel_rfl) (by rw [hr]) r' rfl (by kernel_rfl) (by kernel_rfl), (x3.gc r).trans q1, q2, q3⟩
end
section
variable {d : List (List Int)} {xb : Nat}
theorem ss_call (hd : okD d) : ∀ k, ShOk d xb k := by
  have hn := hd.1
  have fin : ∀ (H : Heap) (lv bv rv : HV) (s s' : Int) (r : List Int) (E : Env) (Hd : Heap), RunsTo Try.prog polJ 30 (sub [1, 1] B30) (ssE xb d.length lv bv s .undef .undef .undef .undef) H .ret (polJ.keys 30) E Hd → E.get 8 = rv → E.get 9 = .int .i64 s' → Ext H Hd → Bv Hd rv r → mxs Hd ≤ 0 →
      ∃ rv' H', ClJ 30 [.sl xb 0 d.length none d.length 1, lv, bv, .int .i64 s] H (.tuple [rv', .int .i64 s']) H' ∧ Ext H H' ∧ Bv H' rv' r ∧ bnd rv' ≤ H'.length ∧ mxs H' ≤ 0 := by
    intro H lv bv rv s s' r E Hd t h8 h9 hx hr hm
    have a := ss_a_0 0 xb d.length lv bv s H
    have b := ss_b_0 0 xb d.length lv bv s H
    have t2 := RunsTo.seq a (RunsTo.seq b t (c := sub [1] B30) (by kernel_rfl) (by kernel_rfl)) (c := B30) (by kernel_rfl) (by kernel_rfl)
    have hc := CallsTo.shared (P := Try.prog) (pol := polJ) (g := 30) (fn := Try.f30) (cd := B30) (args := [.sl xb 0 d.length none d.length 1, lv, bv, .int .i64 s]) (v := .tuple [rv, .int .i64 s']) (by kernel_rfl) (by kernel_rfl) (by kernel_rfl) (by kernel_rfl) t2 (by kernel_rfl) (by simp) (by simp only [resultsV, res30, mapO, resultV, h8, h9])
    have hb : bnd rv ≤ bnd (.tuple [rv, .int .i64 s']) := by simp only [bnd, bndL]; omega
    exact ⟨rv, _, hc, hx.gc _, hr.gc hb, (hr.gc hb).bnd, mxs_gc0 hm _ _⟩
  intro k
  induction k with
  | zero =>
    intro H lv bv l b s hx hl hb hbb hm hk hi
    have c37 : ∀ kf, 0 ≤ kf → callN Try.prog polJ (kf + 1) 37 [.sl xb 0 d.length none d.length 1, lv] H = some (.int .i64 (lenT d l), H) := fun kf _ => by
      rw [prim_call (pol := polJ) (g := 37) (F := len56) (by kernel_rfl) (rs := [.imm .arg 1 (d.map encR), .imm .arg 1 (l.map encI)]) (by simp only [mapO, arg_rs rfl hx, hl.arg]) (res := .int .i64 (lenT d l)) (by simp only [len56, rlF, mapO_map decR_enc, mapO_map decI_enc]; rw [if_pos ⟨hd, hi, by omega⟩])]; rfl
    rw [sho]
    by_cases c : lenT d l < s
    · rw [if_pos c]
      have s1 := ss_c_0 0 xb d.length lv bv s H _ _ H hl.len (by omega) c37 c
      exact fin H lv bv lv s (lenT d l) l _ _ (RunsTo.seq_out s1 (by simp) (c := sub [1, 1] B30) (b := sub [1, 1, 1] B30) (by kernel_rfl)) rfl rfl (Ext.refl _) (.inl hl) hm
    · rw [if_neg c]
      have s1 := ss_c_1 0 xb d.length lv bv s H _ _ H hl.len (by omega) c37 c
      exact fin H lv bv bv s s b _ _ (RunsTo.seq_out s1 (by simp) (c := sub [1, 1] B30) (b := sub [1, 1, 1] B30) (by kernel_rfl)) rfl rfl (Ext.refl _) hb hm
  | succ k ih =>
    intro H lv bv l b s hx hl hb hbb hm hk hi
    have c := ss_c_2 0 xb d.length lv bv s H _ hl.len (by omega)
    have dd := ss_d_0 0 xb d.length lv bv s H
    obtain ⟨rv, H', r, q1, q2, q3⟩ := ss_loop hd ih (d.length - 1) 1 H lv bv l b s (by omega) hx hl hb hm hk hi
    have z := ss_z_0 0 xb d.length lv rv (shoL (sho d k) l (d.length - 1) 1 b s).2 H' (.int .i64 (d.length : Int)) .undef .undef
    have t1 := RunsTo.seq dd (RunsTo.block_exit (c := sub [1, 1, 1, 0, 1] B30) r (by kernel_rfl)) (c := sub [1, 1, 1, 0] B30) (by kernel_rfl) (by kernel_rfl)
    have t2 := RunsTo.seq t1 z (c := sub [1, 1, 1] B30) (by kernel_rfl) (by kernel_rfl)
    have t3 := RunsTo.seq c t2 (c := sub [1, 1] B30) (by kernel_rfl) (by kernel_rfl)
    rw [sho]
    exact fin H lv bv rv s _ _ _ _ t3 rfl rfl q1 q2 q3
end
end Go.Proofs.Ytlendaofkmhgmaa
end
section
open Go Go.HL
namespace Go.Proofs.Ytlendaofkmhgmaa
set_option maxRecDepth 100000
noncomputable def B5 : Code := Try.f5.body.getD .skip
abbrev env5 (v0 v2 v3 v4 v5 v6 v7 v8 v9 : HV) : Env := [(0, v0), (2, v2), (3, v3), (4, v4), (5, v5), (6, v6), (7, v7), (8, v8), (9, v9)]
theorem lw_a_0 (N : Nat) (rw : List HV) : RunsTo Try.prog polJ 5 (sub [0] B5) [(0, .imm .arg 1 rw)] [] .normal (polJ.keys 5) (env5 (.imm .arg 1 rw) (.bool false) .undef .undef .undef .undef .undef .undef .undef) [] :=
  RunsTo.hin N 60 [] fun kf hk => ⟨_, by kernel_rfl, .nil⟩
theorem lw_b_0 (N : Nat) (rw : List HV) (md0 : Int) (g0 : ∀ kf, callN Try.prog polJ (kf + 1) 27 [.i (IntKind.i64.wrap ((rw.length : Int) - 1)), .i 6] [] = some (.i md0, [])) : RunsTo Try.prog polJ 5 (sub [1, 0] B5) (env5 (.imm .arg 1 rw) (.bool false) .undef .undef .undef .undef .undef .undef .undef) [] .normal (polJ.keys 5) (env5 (.imm .arg 1 rw) (.bool false) (.i (IntKind.i64.wrap (1 + md0))) .undef .undef .undef .undef .undef .undef) [] :=
  RunsTo.hin N 60 [⟨1, 3, .i md0, []⟩] fun kf hk => ⟨_, by kernel_rfl, (oC (g0 kf) .nil)⟩
theorem lw_c_0 (N : Nat) (rw : List HV) (nn : Int) (q1 : Nat) (o1 : List HV) (g0 : ∀ kf, callN Try.prog polJ (kf + 1) 28 [.imm .arg 1 rw, .i nn, .i 1000] [] = some (.sl 0 0 q1 none q1 1, [.arr 1 o1 true 0])) : RunsTo Try.prog polJ 5 (sub [1, 1, 0] B5) (env5 (.imm .arg 1 rw) (.bool false) (.i nn) .undef .undef .undef .undef .undef .undef) [] .normal (polJ.keys 5) (env5 (.imm .arg 1 rw) (.bool false) (.i nn) (.sl 0 0 q1 none q1 1) .undef .undef .undef .undef .undef) [.arr 1 o1 true 0] :=
  RunsTo.hin N 60 [⟨2, 2, .sl 0 0 q1 none q1 1, [.arr 1 o1 true 0]⟩] fun kf hk => ⟨_, by kernel_rfl, (oC (g0 kf) .nil)⟩
theorem lw_d_0 (N : Nat) (rw : List HV) (nn : Int) (q1 : Nat) (o1 : List HV) (q2 : Nat) (o2 : List HV) (bl : Int) (g0 : ∀ kf, callN Try.prog polJ (kf + 1) 29 [.sl 0 0 q1 none q1 1] [.arr 1 o1 true 0] = some (.tuple [.sl 1 0 q2 none q2 1, .i bl, .i 0], [.arr 1 o1 true 0, .arr 1 o2 true 0])) : RunsTo Try.prog polJ 5 (sub [1, 1, 1, 0] B5) (env5 (.imm .arg 1 rw) (.bool false) (.i nn) (.sl 0 0 q1 none q1 1) .undef .undef .undef .undef .undef) [.arr 1 o1 true 0] .normal (polJ.keys 5) (env5 (.imm .arg 1 rw) (.bool false) (.i nn) (.sl 0 0 q1 none q1 1) (.sl 1 0 q2 none q2 1) (.i bl) (.i 0) .undef .undef) [.arr 1 o1 true 0, .arr 1 o2 true 0] :=
  RunsTo.hin N 60 [⟨3, 1, .tuple [.sl 1 0 q2 none q2 1, .i bl, .i 0], [.arr 1 o1 true 0, .arr 1 o2 true 0]⟩] fun kf hk => ⟨_, by kernel_rfl, (oC (g0 kf) .nil)⟩
theorem lw_e_0 (N : Nat) (rw : List HV) (nn : Int) (q1 : Nat) (o1 : List HV) (q2 : Nat) (o2 : List HV) (bl : Int) (rv : HV) (rs : Int) (H0 : Heap) (g0 : ∀ kf, N ≤ kf → callN Try.prog polJ (kf + 1) 30 [.sl 0 0 q1 none q1 1, .imm .lit 1 [.i 0], .imm .lit 0 [], .i 1099511627776] [.arr 1 o1 true 0, .arr 1 o2 true 0] = some (.tuple [rv, .i rs], H0)) : RunsTo Try.prog polJ 5 (sub [1, 1, 1, 1, 0] B5) (env5 (.imm .arg 1 rw) (.bool false) (.i nn) (.sl 0 0 q1 none q1 1) (.sl 1 0 q2 none q2 1) (.i bl) (.i 0) .undef .undef) [.arr 1 o1 true 0, .arr 1 o2 true 0] .normal (polJ.keys 5) (env5 (.imm .arg 1 rw) (.bool false) (.i nn) (.sl 0 0 q1 none q1 1) (.sl 1 0 q2 none q2 1) (.i bl) (.i 0) rv (.i rs)) H0 :=
  RunsTo.hin N 60 [⟨4, 2, .tuple [rv, .i rs], H0⟩] fun kf hk => ⟨_, by kernel_rfl, (oC (g0 kf (by omega)) .nil)⟩
theorem lw_f_0 (N : Nat) (rw : List HV) (nn : Int) (q1 : Nat) (o1 : List HV) (q2 : Nat) (o2 : List HV) (bl : Int) (rv : HV) (rs : Int) (H : Heap) (H0 : Heap) (g0 : bl = rs) (g1 : ∀ kf, N ≤ kf → callN Try.prog polJ (kf + 1) 26 [.sl 1 0 q2 none q2 1, rv] H = some (.bool true, H0)) : RunsTo Try.prog polJ 5 (sub [1, 1, 1, 1, 1] B5) (env5 (.imm .arg 1 rw) (.bool false) (.i nn) (.sl 0 0 q1 none q1 1) (.sl 1 0 q2 none q2 1) (.i bl) (.i 0) rv (.i rs)) H .ret (polJ.keys 5) (env5 (.imm .arg 1 rw) (.bool true) (.i nn) (.sl 0 0 q1 none q1 1) (.sl 1 0 q2 none q2 1) (.i bl) (.i 0) rv (.i rs)) H0 :=
  RunsTo.hin N 60 [⟨5, 5, .bool true, H⟩, ⟨5, 10, .bool true, H0⟩] fun kf hk => ⟨_, by kernel_rfl, (oB H (decide_eq_true g0) (oC (g1 kf (by omega)) .nil))⟩
end Go.Proofs.Ytlendaofkmhgmaa
end
section
open Go Go.HL
namespace Go.Proofs.Ytlendaofkmhgmaa
theorem res5 : Try.f5.results.toList = [.tmp 2] := by kernel_rfl
theorem roundWhole_law (R0 : List (List Int)) : ∃ E H, RunsTo Try.prog polJ 5 B5 (args0 [.imm .arg 1 (R0.map encR)]) [] .ret (polJ.keys 5) E H ∧ E.get 2 = .bool true := by
  obtain ⟨n, hn, hw⟩ := n_of R0 6 (by omega) 1 (by omega)
  have a := lw_a_0 0 (R0.map encR)
  have b := lw_b_0 0 (R0.map encR) _ (prim_mod (by kernel_rfl) (by omega) [])
  rw [hw] at b
  have c := lw_c_0 0 (R0.map encR) n _ _ (c_tame (by kernel_rfl) (R := R0) (n := n) (mo := 1000) (by omega) (by omega) _)
  have hd : okD (tameL R0 n 1000) := tame_okD (by omega) (by omega)
  have hdl : (tameL R0 n 1000).length = n := mat_len _ _
  generalize hD : tameL R0 n 1000 = d at c hd hdl
  subst hdl
  have dd := lw_d_0 0 (R0.map encR) d.length d.length (d.map encO) _ _ _ (c_best (by kernel_rfl) hd (H := [bRw d]) rfl)
  have bt := best_tour hd
  have tb := (trOk_iff.1 bt).1
  have hs := sho_all hd (s := 1099511627776) (by omega)
  obtain ⟨rv, H', hcl, q1, q2, _, _⟩ := ss_call (xb := 0) hd (d.length - 1) [bRw d, bI (bestT d)] (.imm .lit 1 [.int .i64 0]) (.imm .lit 0 []) [0] [] 1099511627776 rfl (.inl rfl) (.inr ⟨rfl, rfl⟩) (by simp [bnd, bndL]) (by simp [mxs, Blk.mx]) (by simp only [List.length_cons, List.length_nil]; omega) (fun v hv => by rw [List.mem_singleton] at hv; omega)
  rw [hs] at hcl q2
  obtain ⟨N, hN⟩ := CallsTo.from hcl
  have e := lw_e_0 N (R0.map encR) d.length d.length (d.map encO) (bestT d).length ((bestT d).map encI) (lenT d (bestT d)) rv _ H' hN
  have hrv : Lv H' rv (bestT d) := by
    rcases q2 with h | ⟨_, h⟩
    · exact h
    · simp [bestT] at h
  have k26 : ∀ kf, 0 ≤ kf → callN Try.prog polJ (kf + 1) 26 [.sl 1 0 (bestT d).length none (bestT d).length 1, rv] H' = some (.bool true, H') := fun kf _ => by
    have h1 : H'[1]? = some (bI (bestT d)) := q1.at rfl
    rw [prim_call (pol := polJ) (g := 26) (F := ints26) (by kernel_rfl) (rs := [.imm .arg 1 ((bestT d).map encI), .imm .arg 1 ((bestT d).map encI)]) (by simp only [mapO, arg_sl rfl h1, hrv.arg]) (res := .bool true) (by simp only [ints26, llF, mapO_map decI_enc]; rw [if_pos (by omega), decide_eq_true trivial])]; rfl
  have f := lw_f_0 0 (R0.map encR) d.length d.length (d.map encO) (bestT d).length ((bestT d).map encI) (lenT d (bestT d)) rv _ H' H' rfl k26
  have t1 := RunsTo.seq e f (c := sub [1, 1, 1, 1] B5) (by kernel_rfl) (by kernel_rfl)
  have t2 := RunsTo.seq dd t1 (c := sub [1, 1, 1] B5) (by kernel_rfl) (by kernel_rfl)
  have t3 := RunsTo.seq c t2 (c := sub [1, 1] B5) (by kernel_rfl) (by kernel_rfl)
  have t4 := RunsTo.seq b t3 (c := sub [1] B5) (by kernel_rfl) (by kernel_rfl)
  exact ⟨_, _, RunsTo.seq a t4 (c := B5) (by kernel_rfl) (by kernel_rfl), rfl⟩
end Go.Proofs.Ytlendaofkmhgmaa
end
section
namespace Go.HL
open Go.ChangeShapes Go.WideShapes Go.ChangeAt Go.RowKit Go.Deep
theorem okNil (w : World) (r : Nat) : okOf Ctx.nil w.heap.size false r := by
  refine ⟨fun hM => ?_, by simp⟩
  obtain ⟨b, y, h1, _, _⟩ := M_iff.1 hM
  simp [Ctx.nil] at h1
theorem cell_lt {w : World} {a : Addr} {v : Value} (h : w.cell? a = some v) : a.block < w.heap.size := by
  rcases Nat.lt_or_ge a.block w.heap.size with hl | hl
  · exact hl
  · have : w.heap[a.block]? = none := by simp [hl]
    simp [World.cell?, this] at h
end Go.HL
end
section
namespace Go.HL
open Go.ChangeShapes Go.WideShapes Go.ChangeAt Go.RowKit Go.Deep
theorem ints_cells {H : Type} {enc : TypeId × Value → H} {P : Program} {W : World} {base fuel : Nat} {sp : Nat → Bool} {held : Bool} {t q : TypeId} {cs : List Value} {x : DataW H × List MemPlace} (ht : P.underlying t = some (.slice q)) (hq : P.underlying q = some (.int .i64)) (cq : P.cellsOf q = 1)
    (hf : DataW.trod enc P W base sp held fuel t cs = some x) : ∃ (l : List Int) (v : Value), cs = [v] ∧ V W (okOf Ctx.nil W.heap.size) Ctx.nil (.imm .arg 1 (l.map encI)) v := by
  rcases open_slice ht hf with ⟨h0, _⟩ | ⟨a', len, cap, m, n, D, Pl, h0, hb, hl, hm, hmm, hx, hel⟩
  · exact ⟨[], _, h0, .imm .arg 1 [] none 0 (fun _ => .bool false) (by simp) (by simp) (by simp) (by simp) (by simp) (by simp)⟩
  · subst h0
    have hlm : len ≤ m := by rw [hmm]; split <;> omega
    have each : ∀ i, i < len → ∃ z : Int, W.cell? (a'.add i) = some (.int .i64 z) := by
      intro i hi
      obtain ⟨cs', h1, h2⟩ := hel i (by omega)
      rw [cq] at h1
      obtain ⟨_, hlen, hcell⟩ := World.cells?_some h1
      match cs', hlen with
      | [v0], _ =>
        obtain ⟨z0, e0, _, _⟩ := DataW.trod_int hq h2
        simp at e0
        subst e0
        have c0 := hcell 0 (by omega)
        rw [add_add] at c0
        exact ⟨z0, by simpa using c0⟩
    obtain ⟨f, hf⟩ := choose_lt each
    refine ⟨(List.range len).map f, _, rfl, ?_⟩
    have hlen : (((List.range len).map f).map encI).length = len := by simp
    have key := V.imm (w := W) (ok := okOf Ctx.nil W.heap.size) (c := Ctx.nil) .arg 1 (((List.range len).map f).map encI) (some a') cap (fun j => .int .i64 (f j))
      (by rw [hlen]; exact hl) (by simp) ?_ ?_ ?_ ?_
    · rw [hlen] at key; exact key
    · intro hne
      have h0 : 0 < len := by
        rcases Nat.eq_zero_or_pos len with h | h
        · subst h; simp at hne
        · exact h
      obtain ⟨b, off, spot⟩ := a'
      have hspot : spot = none := by simpa [Addr.add] using World.cell?_spot (hf 0 h0)
      subst hspot
      refine ⟨b, off, rfl, by simpa [Addr.add] using cell_lt (hf 0 h0), okNil W b, fun j hj => ?_⟩
      rw [hlen] at hj
      have c0 := hf j (by omega)
      rw [add_plain] at c0
      exact c0
    · intro v hv
      obtain ⟨p, _, rfl⟩ := List.mem_map.1 hv
      rfl
    · intro v hv
      obtain ⟨p, _, rfl⟩ := List.mem_map.1 hv
      rfl
    · intro i v j x hi hj
      have hil : i < len := by have := lt_of_get hi; rw [hlen] at this; exact this
      have : v = encI (f i) := by
        rw [List.getElem?_map, List.getElem?_map, List.getElem?_range hil] at hi
        simpa using hi.symm
      subst this
      have hjx : j < 1 := lt_of_get hj
      match j, hjx, hj with
      | 0, _, hj =>
        simp [encI, cellsOf] at hj
        subst hj
        have e1 : i * 1 + 0 = i := by omega
        rw [e1]
        exact V.int _ _
def encRH (r : List Int) : HV := .imm .arg 1 (r.map encI)
theorem rows_cells {H : Type} {enc : TypeId × Value → H} {P : Program} {W : World} {base fuel : Nat} {sp : Nat → Bool} {held : Bool} {s t q : TypeId} {cs : List Value} {x : DataW H × List MemPlace} (hs : P.underlying s = some (.slice t)) (ct : P.cellsOf t = 1) (ht : P.underlying t = some (.slice q)) (hq : P.underlying q = some (.int .i64)) (cq : P.cellsOf q = 1)
    (hf : DataW.trod enc P W base sp held fuel s cs = some x) : ∃ (R : List (List Int)) (v : Value), cs = [v] ∧ V W (okOf Ctx.nil W.heap.size) Ctx.nil (.imm .arg 1 (R.map encRH)) v := by
  rcases open_slice hs hf with ⟨h0, _⟩ | ⟨a', len, cap, m, n, D, Pl, h0, hb, hl, hm, hmm, hx, hel⟩
  · exact ⟨[], _, h0, .imm .arg 1 [] none 0 (fun _ => .bool false) (by simp) (by simp) (by simp) (by simp) (by simp) (by simp)⟩
  · subst h0
    have hlm : len ≤ m := by rw [hmm]; split <;> omega
    have each : ∀ i, i < len → ∃ p : List Int × Value, W.cell? (a'.add i) = some p.2 ∧ V W (okOf Ctx.nil W.heap.size) Ctx.nil (encRH p.1) p.2 := by
      intro i hi
      obtain ⟨cs', h1, h2⟩ := hel i (by omega)
      rw [ct, Nat.mul_one] at h1
      obtain ⟨_, hlen, hcell⟩ := World.cells?_some h1
      obtain ⟨l, v, rfl, hV⟩ := ints_cells ht hq cq h2
      have c0 := hcell 0 (by omega)
      rw [add_add] at c0
      exact ⟨(l, v), by simpa using c0, hV⟩
    obtain ⟨f, hf⟩ := choose_lt each
    refine ⟨(List.range len).map fun i => (f i).1, _, rfl, ?_⟩
    have hlen : (((List.range len).map fun i => (f i).1).map encRH).length = len := by simp
    have key := V.imm (w := W) (ok := okOf Ctx.nil W.heap.size) (c := Ctx.nil) .arg 1 (((List.range len).map fun i => (f i).1).map encRH) (some a') cap (fun j => (f j).2)
      (by rw [hlen]; exact hl) (by simp) ?_ ?_ ?_ ?_
    · rw [hlen] at key; exact key
    · intro hne
      have h0 : 0 < len := by
        rcases Nat.eq_zero_or_pos len with h | h
        · subst h; simp at hne
        · exact h
      obtain ⟨b, off, spot⟩ := a'
      have hspot : spot = none := by simpa [Addr.add] using World.cell?_spot (hf 0 h0).1
      subst hspot
      refine ⟨b, off, rfl, by simpa [Addr.add] using cell_lt (hf 0 h0).1, okNil W b, fun j hj => ?_⟩
      rw [hlen, Nat.mul_one] at hj
      have c0 := (hf j hj).1
      rw [add_plain] at c0
      exact c0
    · intro v hv
      obtain ⟨p, _, rfl⟩ := List.mem_map.1 hv
      rfl
    · intro v hv
      obtain ⟨p, _, rfl⟩ := List.mem_map.1 hv
      rfl
    · intro i v j x hi hj
      have hil : i < len := by have := lt_of_get hi; rw [hlen] at this; exact this
      have : v = encRH (f i).1 := by
        rw [List.getElem?_map, List.getElem?_map, List.getElem?_range hil] at hi
        simpa using hi.symm
      subst this
      have hjx : j < 1 := lt_of_get hj
      obtain rfl : j = 0 := by omega
      simp [encRH, cellsOf] at hj
      subst hj
      have e1 : i * 1 + 0 = i := by omega
      rw [e1]
      exact (hf i hil).2
theorem arg_rows_ok {H : Type} {enc : TypeId × Value → H} {P : Program} {W : World} {base : Nat} {s t q : TypeId} {v : Value} {d : DataW H} {ps : List MemPlace} (hs : P.underlying s = some (.slice t)) (ct : P.cellsOf t = 1) (ht : P.underlying t = some (.slice q)) (hq : P.underlying q = some (.int .i64)) (cq : P.cellsOf q = 1)
    (hval : Value.okWide P W .any base s v) (hd : DataW.Trod enc P W 0 (fun _ => true) true s v d ps) : ∃ R : List (List Int), V W (okOf Ctx.nil W.heap.size) Ctx.nil (.imm .arg 1 (R.map encRH)) v := by
  obtain ⟨a, len, cap, rfl⟩ := okWide_slice hs hval
  obtain ⟨fuel, hf⟩ := hd
  obtain ⟨R, v, hv, h⟩ := rows_cells hs ct ht hq cq hf
  simp [Value.cells] at hv
  subst hv
  exact ⟨R, h⟩
end Go.HL
end
