/- A part of the proof. -/
import Derived.Test.YtlendaofkmhgmaaP7C
set_option linter.unusedVariables false
set_option linter.unusedSimpArgs false
section
open Go Go.HL
namespace Go.Proofs.Ytlendaofkmhgmaa
open Go.Proofs.Try renaming prog → Tp
open Go.HL.HV renaming undef → Ud
theorem soundA (n : Nat) : CallSound Tp (callN Tp polA n) :=
  callN_ok follows_mixed (fun g fn h => by
    have e : fnOk polA g fn = fnOk pol g fn := rfl
    rw [e]
    exact List.all_eq_true.1 fns_ok (fn, g) (by
      rw [List.mem_zipIdx_iff_getElem?]
      simpa using h)) (fun g f h => by
  simp only [polA] at h
  split at h
  · rename_i hg; cases h; rw [eq_of_beq hg]; exact mod_ok
  · cases h) n
theorem fnokA (g : FuncId) (fn : Func) (h : Tp.funcs[g]? = some fn) : fnOk polA g fn = true := by
  have e : fnOk polA g fn = fnOk pol g fn := rfl
  rw [e]
  exact List.all_eq_true.1 fns_ok (fn, g) (by
    rw [List.mem_zipIdx_iff_getElem?]
    simpa using h)
theorem res28 : Try.f28.results.toList = [.tmp 6] := by kernel_rfl
theorem info23b : (Tp.info? 23).map (fun i => (i.size, i.bytes, zeroFits i)) = some (1, 24, true) := by kernel_rfl
theorem info3m : (Tp.info? 3).map (fun i => (i.size, i.bytes, i.zero.map ofConst)) = some (1, 8, some (.int .i64 0)) := by kernel_rfl
abbrev slT (n a : Nat) : HV := .sl (a + 1) 0 n (some n) n 1
theorem lit_sl (b n : Nat) (H : Heap) : litV Tp false false 22 1 [(0, slT n b)] H = some (.sl H.length 0 1 (some 1) 1 1, H ++ [.arr 1 [slT n b] true (b + 2)]) := by kernel_rfl
theorem app_one {H : Heap} {n i lb mx m2 : Nat} {els : List HV} {v : HV} (hi : els.length = i) (h0 : H[0]? = some (.arr 1 els true mx)) (hl : H[lb]? = some (.arr 1 [v] true m2)) (hb : i ≤ 1000) (hm : bndL [v] = m2) :
    builtinV Tp .append [22, 22] [.sl 0 0 i none i 1, .sl lb 0 1 (some 1) 1 1] H = some (.sl 0 0 (i + 1) none (i + 1) 1, H.set 0 (.arr 1 (els ++ [v]) true (max mx m2))) := by
  have hinfo := info23b
  cases hinf : Tp.info? 23 with
  | none => rw [hinf] at hinfo; cases hinfo
  | some inf =>
    rw [hinf] at hinfo
    simp only [Option.map, Option.some.injEq, Prod.mk.injEq] at hinfo
    obtain ⟨e1, e2, e3⟩ := hinfo
    have hs : srcOf H (.sl lb 0 1 (some 1) 1 1) = some ([v], 1) := by simp [srcOf, view, hl]
    simp only [builtinV, u22, hinf, hs, e1, e2, e3]
    rw [if_pos ⟨.inl trivial, by omega, trivial⟩]
    simp only [appV, h0, hi, hm, List.length_cons, List.length_nil, List.cons_ne_nil, if_false]
    rw [if_pos ⟨trivial, trivial, trivial, by rw [show roomMax = 70368744177664 from rfl]; omega⟩, if_pos ⟨trivial, trivial, trivial⟩]
structure TS (n i : Nat) (H : Heap) : Prop where
  len : H.length = i + 1
  out : H[0]? = some (.arr 1 ((List.range i).map (slT n)) true (if i = 0 then 0 else i + 1))
  row : ∀ a, a < i → H[a + 1]? = some (bI (List.replicate n 0))
theorem mxs_ge {H : Heap} {j : Nat} {B : Blk} (h : H[j]? = some B) : B.mx ≤ mxs H := mxs_le.1 (Nat.le_refl _) B (List.mem_of_getElem? h)
section
variable {R : List (List Int)} {n : Nat} {mo : Int}
abbrev tmE (R : List (List Int)) (n : Nat) (mo : Int) (v7 y8 y9 y10 y11 y12 y13 : HV) : Env := env28 (.imm .arg 1 (R.map encR)) (.int .i64 (n : Int)) (.int .i64 mo) (.imm .lit 1 []) v7 y8 y9 y10 y11 y12 y13
theorem tm_make (hn : n ≤ 12) : ∀ k i H, i + k = n → TS n i H →
    ∃ H', RT polA 28 (sub [1, 1, 0, 1, 0] B28) (tmE R n mo (.sl 0 0 i none i 1) (.int .i64 (i : Int)) Ud Ud Ud Ud Ud) H (.exit 0) (tmE R n mo (.sl 0 0 n none n 1) (.int .i64 (n : Int)) Ud Ud Ud Ud Ud) H' ∧ TS n n H' := by
  intro k
  induction k with
  | zero =>
    intro i H hi hT
    have : i = n := by omega
    subst this
    exact ⟨H, lpo (tm_l_1 (R.map encR) i mo i 0 0 H (by omega)), hT⟩
  | succ k ih =>
    intro i H hi hT
    have hl := hT.len
    have m1 := makeV_ok (P := Tp) (H := H) (t := 23) (n := (n : Int)) u23 info3m rfl rfl (by omega) (by omega) (by rw [show roomMax = 70368744177664 from rfl]; omega)
    rw [Int.toNat_natCast, hl] at m1
    have m2 := lit_sl i n (H ++ [.arr 1 (List.replicate n (.int .i64 0)) true 0])
    have hl2 : (H ++ [Blk.arr 1 (List.replicate n (.int .i64 0)) true 0]).length = i + 2 := by simp [hl]
    rw [hl2] at m2
    have m3 := app_one (H := H ++ [.arr 1 (List.replicate n (.int .i64 0)) true 0] ++ [.arr 1 [slT n i] true (i + 2)]) (n := n) (i := i) (lb := i + 2) (m2 := i + 2) (v := slT n i) (els := (List.range i).map (slT n)) (by simp) (by rw [List.getElem?_append_left (by omega), List.getElem?_append_left (by omega)]; exact hT.out) (by rw [List.getElem?_append_right (by omega), hl2]; simp) (by omega) (by simp [bndL, bnd])
    have s := tm_l_0 (R.map encR) n mo i (i + 1) (i + 2) H _ _ _ (by omega) m1 m2 m3
    rw [wrap_succ (by omega)] at s
    generalize hH2 : (H ++ [Blk.arr 1 (List.replicate n (.int .i64 0)) true 0] ++ [Blk.arr 1 [slT n i] true (i + 2)]).set 0 (.arr 1 ((List.range i).map (slT n) ++ [slT n i]) true (max (if i = 0 then 0 else i + 1) (i + 2))) = H2 at s
    have hlen : H2.length = i + 3 := by rw [← hH2]; simp [hl]
    have g0 : H2[0]? = some (.arr 1 ((List.range (i + 1)).map (slT n)) true (i + 2)) := by
      rw [← hH2, List.getElem?_set_self (by simp), List.range_succ, List.map_append]
      have : max (if i = 0 then 0 else i + 1) (i + 2) = i + 2 := by split <;> omega
      rw [this]; rfl
    have g1 : ∀ a, a < i + 1 → H2[a + 1]? = some (bI (List.replicate n 0)) := fun a ha => by
      rw [← hH2, List.getElem?_set_ne (by omega), List.getElem?_append_left (by omega)]
      by_cases e : a = i
      · subst e
        rw [List.getElem?_append_right (by omega), show a + 1 - H.length = 0 by omega]
        simp [bI, encI]
      · rw [List.getElem?_append_left (by omega)]
        exact hT.row a (by omega)
    have hmx : mxs H2 = i + 2 := by
      have h1 : i + 2 ≤ mxs H2 := mxs_ge g0
      have h2 : mxs H2 ≤ i + 2 := by
        rw [mxs_le]
        intro B hB
        obtain ⟨j, hj⟩ := List.mem_iff_getElem?.1 hB
        have hjl := lt_of_get hj
        by_cases e0 : j = 0
        · rw [e0, g0] at hj
          rw [← Option.some.inj hj]; exact Nat.le_refl _
        · by_cases e1 : j ≤ i + 1
          · rw [show j = (j - 1) + 1 by omega, g1 (j - 1) (by omega)] at hj
            rw [← Option.some.inj hj]; exact Nat.zero_le _
          · have ej : j = i + 2 := by omega
            rw [ej, ← hH2, List.getElem?_set_ne (by omega), List.getElem?_append_right (by omega), hl2] at hj
            simp at hj
            rw [← hj]; exact Nat.le_refl _
      omega
    have ec : gc H.length (bndE (tmE R n mo (.sl 0 0 (i + 1) none (i + 1) 1) (.int .i64 ((i + 1 : Nat) : Int)) Ud Ud Ud Ud Ud)) H2 = H2.take (i + 2) := by
      unfold gc
      rw [hmx, hl]
      have e : max (i + 1) (max (bndE (tmE R n mo (.sl 0 0 (i + 1) none (i + 1) 1) (.int .i64 ((i + 1 : Nat) : Int)) Ud Ud Ud Ud Ud)) (i + 2)) = i + 2 := by
        simp only [bndE, bnd, bndL]
        omega
      rw [e]
    have hT2 : TS n (i + 1) (H2.take (i + 2)) := by
      refine ⟨by rw [List.length_take]; omega, ?_, fun a ha => ?_⟩
      · rw [List.getElem?_take, if_pos (by omega), g0, if_neg (by omega)]
      · rw [List.getElem?_take, if_pos (by omega), g1 a ha]
    obtain ⟨H', r, hT'⟩ := ih (i + 1) _ (by omega) hT2
    exact ⟨H', lop s ec r, hT'⟩
structure TM (n : Nat) (f : Nat → Nat → Int) (H : Heap) : Prop where
  len : H.length = n + 1
  out : H[0]? = some (.arr 1 ((List.range n).map (slT n)) true (n + 1))
  row : ∀ a, a < n → H[a + 1]? = some (bI ((List.range n).map (f a)))
theorem TS.mem {H : Heap} (h : TS n n H) (hn : 1 ≤ n) : TM n (fun _ _ => 0) H := by
  refine ⟨h.len, by rw [h.out, if_neg (by omega)], fun a ha => ?_⟩
  rw [h.row a ha]
  have e : List.replicate n (0 : Int) = (List.range n).map fun _ => (0 : Int) := by
    apply List.ext_getElem?
    intro i
    by_cases h : i < n
    · rw [List.getElem?_map, List.getElem?_range h, List.getElem?_replicate, if_pos h]; simp
    · rw [List.getElem?_eq_none (by simp; omega), List.getElem?_eq_none (by simp; omega)]
  rw [e]
def up2 (f : Nat → Nat → Int) (i k : Nat) (x : Int) (a b : Nat) : Int := if a = i ∧ b = k ∨ a = k ∧ b = i then x else f a b
theorem ixo {i : Nat} (hi : i < n) : idxV Tp 22 (.sl 0 0 n none n 1) (.int .i64 (i : Int)) = some (.ptr 0 i 0 n) := by
  have := idx_sl (P := Tp) (t := 22) (b := 0) (len := n) (tot := n) (cap := none) (ik := .i64) (n := (i : Int)) u22 z23 (by omega) (by omega)
  rwa [Int.toNat_natCast] at this
theorem ixr {b k : Nat} (hk : k < n) : idxV Tp 23 (.sl b 0 n (some n) n 1) (.int .i64 (k : Int)) = some (.ptr b k 0 n) := by
  have := idx_sl (P := Tp) (t := 23) (b := b) (len := n) (tot := n) (cap := some n) (ik := .i64) (n := (k : Int)) u23 z3 (by omega) (by omega)
  rwa [Int.toNat_natCast] at this
theorem TM.ld {f : Nat → Nat → Int} {H : Heap} (h : TM n f H) {i : Nat} (hi : i < n) : loadV Tp H 23 (.ptr 0 i 0 n) = some (slT n i) := by
  refine load_elem (b := 0) h.out (by simp) ?_ rfl a23 i23
  rw [List.getElem?_map, List.getElem?_range hi]; rfl
theorem TM.st {f : Nat → Nat → Int} {H : Heap} (h : TM n f H) {i k : Nat} (hi : i < n) (hk : k < n) (x : Int) : storeV Tp H 3 (.ptr (i + 1) k 0 n) (.int .i64 x) = some (H.set (i + 1) (bI (((List.range n).map (f i)).set k x))) := by
  have := store_out (h.row i hi) (y := k) (by simpa using hk) x
  rwa [show ((List.range n).map (f i)).length = n by simp] at this
theorem TM.two {f : Nat → Nat → Int} {H : Heap} (h : TM n f H) {i k : Nat} (hi : i < n) (hk : k < n) (hik : i < k) (x : Int) :
    storeV Tp H 3 (.ptr (i + 1) k 0 n) (.int .i64 x) = some (H.set (i + 1) (bI (((List.range n).map (f i)).set k x))) ∧
    storeV Tp (H.set (i + 1) (bI (((List.range n).map (f i)).set k x))) 3 (.ptr (k + 1) i 0 n) (.int .i64 x) = some ((H.set (i + 1) (bI (((List.range n).map (f i)).set k x))).set (k + 1) (bI (((List.range n).map (f k)).set i x))) ∧
    TM n (up2 f i k x) ((H.set (i + 1) (bI (((List.range n).map (f i)).set k x))).set (k + 1) (bI (((List.range n).map (f k)).set i x))) := by
  have hl := h.len
  refine ⟨h.st hi hk x, ?_, ?_⟩
  · have hr : (H.set (i + 1) (bI (((List.range n).map (f i)).set k x)))[k + 1]? = some (bI ((List.range n).map (f k))) := by
      rw [List.getElem?_set_ne (by omega)]; exact h.row k hk
    have := store_out hr (y := i) (by simpa using hi) x
    rwa [show ((List.range n).map (f k)).length = n by simp] at this
  · refine ⟨by simp [hl], by rw [List.getElem?_set_ne (by omega), List.getElem?_set_ne (by omega)]; exact h.out, fun a ha => ?_⟩
    by_cases e1 : a = k
    · subst e1
      rw [List.getElem?_set_self (by simp; omega), row_set]
      congr 2
      refine row_congr fun b hb => ?_
      unfold up2
      by_cases e : b = i
      · rw [if_pos e, if_pos (.inr ⟨rfl, e⟩)]
      · rw [if_neg e, if_neg (by omega)]
    · rw [List.getElem?_set_ne (by omega)]
      by_cases e2 : a = i
      · subst e2
        rw [List.getElem?_set_self (by omega), row_set]
        congr 2
        refine row_congr fun b hb => ?_
        unfold up2
        by_cases e : b = k
        · rw [if_pos e, if_pos (.inl ⟨rfl, e⟩)]
        · rw [if_neg e, if_neg (by omega)]
      · rw [List.getElem?_set_ne (by omega), h.row a ha]
        congr 2
        refine row_congr fun b hb => ?_
        unfold up2
        rw [if_neg (by omega)]
theorem TM.congr {f g : Nat → Nat → Int} {H : Heap} (h : TM n f H) (e : ∀ a b, a < n → b < n → f a b = g a b) : TM n g H := ⟨h.len, h.out, fun a ha => by rw [h.row a ha, row_congr fun b hb => e a b ha hb]⟩
theorem prim_mod {pol' : Pol} (hp : pol'.prim 27 = some modF) {a m : Int} (hm : 0 < m ∧ m < 9223372036854775808) (H : Heap) : ∀ k, callN Tp pol' (k + 1) 27 [.int .i64 a, .int .i64 m] H = some (.int .i64 (modW a m), H) := fun k => by
  rw [prim_call (pol := pol') (g := 27) (F := modF) hp (rs := [.int .i64 a, .int .i64 m]) rfl (res := .int .i64 (modW a m)) (by simp only [modF]; rw [if_pos hm])]; rfl
theorem tm_step (hn : n ≤ 12) (hmo : 0 ≤ mo ∧ mo ≤ 1000000) {f : Nat → Nat → Int} {H : Heap} (h : TM n f H) {i k : Nat} (hk : k < n) (hik : i < k) :
    ∃ H' y11 y12 y13, RT polA 28 (sub [1, 1, 1, 0, 1, 0, 0, 1, 0, 0, 1, 0, 0] B28) (tmE R n mo (.sl 0 0 n none n 1) Ud (.int .i64 (i : Int)) (.int .i64 (k : Int)) Ud Ud Ud) H .normal (tmE R n mo (.sl 0 0 n none n 1) Ud (.int .i64 (i : Int)) (.int .i64 ((k + 1 : Nat) : Int)) y11 y12 y13) H' ∧ TM n (up2 f i k (tmX R mo i k)) H' := by
  have hi : i < n := by omega
  obtain ⟨s1, s2, s3⟩ := h.two hi hk hik (tmX R mo i k)
  have hwm : IntKind.i64.wrap (mo + 1) = mo + 1 := wrap_id (by omega) (by omega)
  have hm : ∀ a : Int, ∀ kf, callN Tp polA (kf + 1) 27 [.int .i64 a, .int .i64 (IntKind.i64.wrap (mo + 1))] H = some (.int .i64 (modW a (mo + 1)), H) := fun a => by
    rw [hwm]; exact prim_mod (by kernel_rfl) (by omega) H
  refine ⟨_, .int .i64 (tmX R mo i k), slT n i, slT n k, ?_, s3⟩
  by_cases c1 : i < R.length
  · have gi := gr (R := R) (y := i) c1
    by_cases c2 : k < (R.getD i []).length
    · have gk := gx (l := R.getD i []) (y := k) c2
      have ex : tmX R mo i k = clm mo (at2 R i k) := by unfold tmX; rw [if_pos ⟨c1, c2⟩]
      rw [ex] at s1 s2 ⊢
      by_cases c3 : at2 R i k < 0
      · rw [show clm mo (at2 R i k) = modW (at2 R i k) (mo + 1) by unfold clm; rw [if_pos (.inl c3)]] at s1 s2 ⊢
        have s := tm_m_0 (R.map encR) n mo Ud i k H _ _ (at2 R i k) _ H _ _ (by omega) (by rw [List.length_map]; omega) gi (by rw [List.length_map]; omega) gi gk c3 (hm _) (ixo hi) (h.ld hi) (ixo hk) (h.ld hk) (ixr hk) s1 (ixr hi) s2
        rwa [wrap_succ (by omega)] at s
      · by_cases c4 : mo < at2 R i k
        · rw [show clm mo (at2 R i k) = modW (at2 R i k) (mo + 1) by unfold clm; rw [if_pos (.inr c4)]] at s1 s2 ⊢
          have s := tm_m_1 (R.map encR) n mo Ud i k H _ _ (at2 R i k) _ H _ _ (by omega) (by rw [List.length_map]; omega) gi (by rw [List.length_map]; omega) gi gk c3 c4 (hm _) (ixo hi) (h.ld hi) (ixo hk) (h.ld hk) (ixr hk) s1 (ixr hi) s2
          rwa [wrap_succ (by omega)] at s
        · rw [show clm mo (at2 R i k) = at2 R i k by unfold clm; rw [if_neg (by omega)]] at s1 s2 ⊢
          have s := tm_m_2 (R.map encR) n mo Ud i k H _ _ (at2 R i k) _ _ (by omega) (by rw [List.length_map]; omega) gi (by rw [List.length_map]; omega) gi gk c3 c4 (ixo hi) (h.ld hi) (ixo hk) (h.ld hk) (ixr hk) s1 (ixr hi) s2
          rwa [wrap_succ (by omega)] at s
    · have ex : tmX R mo i k = clm mo 1 := by unfold tmX; rw [if_neg (fun h => c2 h.2)]
      rw [ex] at s1 s2 ⊢
      by_cases c4 : mo < 1
      · rw [show clm mo 1 = modW 1 (mo + 1) by unfold clm; rw [if_pos (.inr c4)]] at s1 s2 ⊢
        have s := tm_m_3 (R.map encR) n mo Ud i k H _ _ H _ _ (by omega) (by rw [List.length_map]; omega) gi (by rw [List.length_map]; omega) c4 (hm _) (ixo hi) (h.ld hi) (ixo hk) (h.ld hk) (ixr hk) s1 (ixr hi) s2
        rwa [wrap_succ (by omega)] at s
      · rw [show clm mo 1 = 1 by unfold clm; rw [if_neg (by omega)]] at s1 s2 ⊢
        have s := tm_m_4 (R.map encR) n mo Ud i k H _ _ _ (by omega) (by rw [List.length_map]; omega) gi (by rw [List.length_map]; omega) c4 (ixo hi) (h.ld hi) (ixo hk) (h.ld hk) (ixr hk) s1 (ixr hi) s2
        rwa [wrap_succ (by omega)] at s
  · have ex : tmX R mo i k = clm mo 1 := by unfold tmX; rw [if_neg (fun h => c1 h.1)]
    rw [ex] at s1 s2 ⊢
    by_cases c4 : mo < 1
    · rw [show clm mo 1 = modW 1 (mo + 1) by unfold clm; rw [if_pos (.inr c4)]] at s1 s2 ⊢
      have s := tm_m_5 (R.map encR) n mo Ud i k H _ H _ _ (by omega) (by rw [List.length_map]; omega) c4 (hm _) (ixo hi) (h.ld hi) (ixo hk) (h.ld hk) (ixr hk) s1 (ixr hi) s2
      rwa [wrap_succ (by omega)] at s
    · rw [show clm mo 1 = 1 by unfold clm; rw [if_neg (by omega)]] at s1 s2 ⊢
      have s := tm_m_6 (R.map encR) n mo Ud i k H _ _ (by omega) (by rw [List.length_map]; omega) c4 (ixo hi) (h.ld hi) (ixo hk) (h.ld hk) (ixr hk) s1 (ixr hi) s2
      rwa [wrap_succ (by omega)] at s
def tmP (R : List (List Int)) (mo : Int) (i k a b : Nat) : Int := if a = b then 0 else if min a b < i ∨ min a b = i ∧ max a b < k then tmX R mo (min a b) (max a b) else 0
theorem tmP_up {i k a b : Nat} (hik : i < k) : up2 (tmP R mo i k) i k (tmX R mo i k) a b = tmP R mo i (k + 1) a b := by
  unfold up2 tmP
  by_cases e : a = i ∧ b = k ∨ a = k ∧ b = i
  · rw [if_pos e, if_neg (by omega), show min a b = i by omega, show max a b = k by omega, if_pos (by omega)]
  · rw [if_neg e]
    by_cases e2 : a = b
    · rw [if_pos e2, if_pos e2]
    · rw [if_neg e2, if_neg e2]
      by_cases c : min a b < i ∨ min a b = i ∧ max a b < k
      · rw [if_pos c, if_pos (by omega)]
      · rw [if_neg c, if_neg (by omega)]
theorem tm_in (hn : n ≤ 12) (hmo : 0 ≤ mo ∧ mo ≤ 1000000) : ∀ j i k H, k + j = n → i < k → TM n (tmP R mo i k) H →
    ∃ H', RT polA 28 (sub [1, 1, 1, 0, 1, 0, 0, 1, 0, 0, 1, 0] B28) (tmE R n mo (.sl 0 0 n none n 1) Ud (.int .i64 (i : Int)) (.int .i64 (k : Int)) Ud Ud Ud) H (.exit 4) (tmE R n mo (.sl 0 0 n none n 1) Ud (.int .i64 (i : Int)) (.int .i64 (n : Int)) Ud Ud Ud) H' ∧ TM n (tmP R mo i n) H' := by
  intro j
  induction j with
  | zero =>
    intro i k H hj hik h
    have : k = n := by omega
    subst this
    exact ⟨H, lpo (tm_m_7 (R.map encR) k mo Ud i k H (by omega)), h⟩
  | succ j ih =>
    intro i k H hj hik h
    obtain ⟨H1, y11, y12, y13, s, h1⟩ := tm_step (R := R) hn hmo h (k := k) (by omega) hik
    obtain ⟨H', r, h'⟩ := ih i (k + 1) H1 (by omega) (by omega) (h1.congr fun a b _ _ => tmP_up hik)
    exact ⟨H', lop s (gc_eq _ (by rw [h1.len, h.len])) r, h'⟩
theorem tmP_next {i a b : Nat} (ha : a < n) (hb : b < n) : tmP R mo i n a b = tmP R mo (i + 1) (i + 2) a b := by
  unfold tmP
  by_cases e2 : a = b
  · rw [if_pos e2, if_pos e2]
  · rw [if_neg e2, if_neg e2]
    by_cases c : min a b < i ∨ min a b = i ∧ max a b < n
    · rw [if_pos c, if_pos (by omega)]
    · rw [if_neg c, if_neg (by omega)]
theorem tm_out (hn : n ≤ 12) (hmo : 0 ≤ mo ∧ mo ≤ 1000000) : ∀ j i H, i + j = n → TM n (tmP R mo i (i + 1)) H →
    ∃ H', RT polA 28 (sub [1, 1, 1, 0, 1, 0] B28) (tmE R n mo (.sl 0 0 n none n 1) Ud (.int .i64 (i : Int)) Ud Ud Ud Ud) H (.exit 2) (tmE R n mo (.sl 0 0 n none n 1) Ud (.int .i64 (n : Int)) Ud Ud Ud Ud) H' ∧ TM n (tmP R mo n (n + 1)) H' := by
  intro j
  induction j with
  | zero =>
    intro i H hj h
    have : i = n := by omega
    subst this
    exact ⟨H, lpo (sqo (tm_e_1 (R.map encR) i mo Ud i H (by omega)) (c := sub [1, 1, 1, 0, 1, 0, 0] B28) (b := sub [1, 1, 1, 0, 1, 0, 0, 1] B28)), h⟩
  | succ j ih =>
    intro i H hj h
    have e := tm_e_0 (R.map encR) n mo Ud i H (by omega)
    have f := tm_f_0 (R.map encR) n mo Ud i H
    rw [wrap_succ (by omega)] at f
    obtain ⟨H1, r, h1⟩ := tm_in (R := R) hn hmo (n - (i + 1)) i (i + 1) H (by omega) (by omega) h
    have g := tm_g_0 (R.map encR) n mo Ud i n H1
    rw [wrap_succ (by omega)] at g
    have t1 := sq f (bke (c := sub [1, 1, 1, 0, 1, 0, 0, 1, 0, 0, 1] B28) r) (c := sub [1, 1, 1, 0, 1, 0, 0, 1, 0, 0] B28)
    have t2 := RunsTo.block_normal (i := 3) (c := sub [1, 1, 1, 0, 1, 0, 0, 1, 0] B28) t1 (by kernel_rfl)
    have t3 := sq t2 g (c := sub [1, 1, 1, 0, 1, 0, 0, 1] B28)
    have t4 := sq e t3 (c := sub [1, 1, 1, 0, 1, 0, 0] B28)
    obtain ⟨H', r2, h'⟩ := ih (i + 1) H1 (by omega) (h1.congr fun a b ha hb => tmP_next ha hb)
    exact ⟨H', lop t4 (gc_eq _ (by rw [h1.len, h.len])) r2, h'⟩
theorem frz_rows {H : Heap} (hn : 1 ≤ n) {f : Nat → Nat → Int} (h : TM n f H) : ∀ (j i : Nat), i + j = n → mapO (frz H [0] 4) ((List.range' i j).map (slT n)) = some ((List.range' i j).map fun a => encO ((List.range n).map (f a))) := by
  intro j
  induction j with
  | zero => intro i _; rfl
  | succ j ih =>
    intro i hi
    rw [List.range'_succ, List.map_cons, List.map_cons, mapO, ih (i + 1) (by omega)]
    have hr := h.row i (by omega)
    have hv : view H (i + 1) 0 n n 1 = some (((List.range n).map (f i)).map encI) := by
      simp only [view, hr, List.length_map, List.length_range]
      rw [if_pos ⟨trivial, by omega, trivial⟩]
      rw [List.drop_zero, List.take_of_length_le (by simp)]
    have hm : mapO (frz H [0] 3) (((List.range n).map (f i)).map encI) = some (((List.range n).map (f i)).map encI) := mapO_self (f := frz H [0] 3) (g := encI) (fun r => frz_int 3 r) _
    have : frz H [0] 4 (slT n i) = some (encO ((List.range n).map (f i))) := by
      have e : frz H [0] 4 (slT n i) = if n = 0 then some (.imm .own 1 []) else if [0].contains (i + 1) then none else match view H (i + 1) 0 n n 1 with | some l => (match mapO (frz H [0] 3) l with | some l => some (.imm .own 1 l) | none => none) | none => none := rfl
      rw [e, if_neg (by omega), if_neg (by simp)]
      simp only [hv, hm]
      rfl
    rw [this]
theorem res_rows {H : Heap} (hn : 1 ≤ n) {f : Nat → Nat → Int} (h : TM n f H) : toRes H false (.sl 0 0 n none n 1) = some (.own 1 ((mat n f).map encO)) := by
  have ho : ownedAll H false (.sl 0 0 n none n 1) = [0] := by simp [ownedAll, cellsOf, owned, h.out]
  have hv : view H 0 0 n n 1 = some ((List.range n).map (slT n)) := by
    simp only [view, h.out, List.length_map, List.length_range]
    rw [if_pos ⟨trivial, by omega, trivial⟩]
    rw [List.drop_zero, List.take_of_length_le (by simp)]
  have hf := frz_rows hn h n 0 (by omega)
  rw [← List.range_eq_range'] at hf
  have hr : (resElem H [0] false) = frz H [0] 4 := by funext v; rfl
  have e : (mat n f).map encO = (List.range n).map fun a => encO ((List.range n).map (f a)) := by simp [mat, List.map_map, Function.comp_def]
  simp only [toRes, ho, List.nodup_cons, List.not_mem_nil, not_false_eq_true, List.nodup_nil, and_self, if_true, resVal, resCell, h.out, hv, hr, hf, e]
end
theorem tame_ok : PrimOk Tp 28 tame28 := by
  refine primOk_pure (pol := polA) (fn := Try.f28) (cd := B28) follows_mixed soundA (by kernel_rfl) (by kernel_rfl) (fnokA _ _ (by kernel_rfl)) (by kernel_rfl) ?_
  intro args res h
  obtain ⟨R, n0, mo, rfl, hq⟩ := nmF_inv h
  clear h
  split at hq
  · rename_i hc
    cases hq
    obtain ⟨n, rfl⟩ : ∃ n : Nat, n0 = (n : Int) := ⟨n0.toNat, by omega⟩
    rw [Int.toNat_natCast]
    have a := tm_a_0 (R.map encR) n mo []
    have b := tm_b_0 (R.map encR) n mo [] _ rfl
    have c := tm_c_0 (R.map encR) n mo [.arr 1 [] true 0]
    obtain ⟨H1, r1, h1⟩ := tm_make (R := R) (n := n) (mo := mo) (by omega) n 0 [.arr 1 [] true 0] (by omega) ⟨rfl, rfl, fun a ha => by omega⟩
    have d := tm_d_0 (R.map encR) n mo (.int .i64 (n : Int)) H1
    have hM : TM n (tmP R mo 0 1) H1 := (h1.mem (by omega)).congr fun a b _ _ => by
      unfold tmP
      split
      · rfl
      · rw [if_neg (by omega)]
    obtain ⟨H2, r2, h2⟩ := tm_out (R := R) (n := n) (mo := mo) (by omega) hc.2 n 0 H1 (by omega) hM
    have z := tm_z_0 (R.map encR) n mo Ud (.int .i64 (n : Int)) Ud Ud Ud Ud H2
    have r2' := lpi (e0 := tmE R n mo (.sl 0 0 n none n 1) (.int .i64 (n : Int)) (.int .i64 0) Ud Ud Ud Ud) r2 (b := sub [1, 1, 1, 0, 1, 0, 0] B28)
    have t1 := sq c (bke (c := sub [1, 1, 0, 1] B28) r1) (c := sub [1, 1, 0] B28)
    have t2 := sq d (bke (c := sub [1, 1, 1, 0, 1] B28) r2') (c := sub [1, 1, 1, 0] B28)
    have t3 := sq t1 (sq t2 z (c := sub [1, 1, 1] B28)) (c := sub [1, 1] B28)
    have t4 := sq a (sq b t3 (c := sub [1] B28)) (c := B28)
    have hfin : TM n (tameF R mo) H2 := h2.congr fun a b ha hb => by
      unfold tmP tameF
      by_cases e : a = b
      · rw [if_pos e, if_pos e]
      · rw [if_neg e, if_neg e, if_pos (by omega)]
        by_cases c : a < b
        · rw [if_pos c, show min a b = a by omega, show max a b = b by omega]
        · rw [if_neg c, show min a b = b by omega, show max a b = a by omega]
    exact ⟨_, _, _, .sl 0 0 n none n 1, t4, by simp, by simp only [resultsV, res28]; rfl, res_rows (by omega) hfin⟩
  · cases hq
end Go.Proofs.Ytlendaofkmhgmaa
end
section
open Go Go.HL
namespace Go.Proofs.Ytlendaofkmhgmaa
section
variable {d : List (List Int)}
def lastP : Nat → List Int → Nat
  | s, [] => s
  | _, v :: p => lastP v.toNat p
structure Pre (n : Nat) (p : List Int) (L : Nat) : Prop where
  inn : inT n (0 :: p)
  nd : (0 :: p).Nodup
  left : ∀ y : Nat, L.testBit y = true ↔ y < n ∧ (y : Int) ∉ (0 :: p)
theorem Pre.lt {n L : Nat} {p : List Int} (h : Pre n p L) : L < 2 ^ n := Nat.lt_pow_two_of_testBit _ fun i hi => by
  cases hb : L.testBit i with
  | false => rfl
  | true => have := ((h.left i).1 hb).1; omega
theorem Pre.step {n L y : Nat} {p : List Int} (h : Pre n p L) (hn : n ≤ 11) (hb : L.testBit y = true) : Pre n (p ++ [(y : Int)]) (wo L y) := by
  obtain ⟨h1, h2⟩ := (h.left y).1 hb
  have hL := h.lt
  have hp := pow_le hn
  have e : (0 :: (p ++ [(y : Int)])) = (0 :: p) ++ [(y : Int)] := rfl
  refine ⟨fun v hv => ?_, ?_, fun u => ?_⟩
  · rw [e, List.mem_append, List.mem_singleton] at hv
    rcases hv with hv | rfl
    · exact h.inn v hv
    · omega
  · rw [e, List.nodup_append]
    refine ⟨h.nd, by simp, fun a ha b hb' => ?_⟩
    rw [List.mem_singleton] at hb'
    subst hb'
    exact fun e => h2 (e ▸ ha)
  · rw [wo_bit (by omega) (by omega), e, Bool.and_eq_true, h.left, decide_eq_true_eq]
    simp only [List.mem_append, List.mem_singleton, not_or]
    constructor
    · rintro ⟨⟨g1, g2⟩, g3⟩; exact ⟨g1, g2, by omega⟩
    · rintro ⟨g1, g2, g3⟩; exact ⟨⟨g1, g2⟩, by omega⟩
end
end Go.Proofs.Ytlendaofkmhgmaa
end
section
open Go Go.HL
namespace Go.Proofs.Ytlendaofkmhgmaa
open Go.Proofs.Try renaming prog → Tp
open Go.HL.HV renaming undef → Ud
section
variable {pol' : Pol} {d : List (List Int)} {l : List Int} {H : Heap} {xb lb : Nat}
abbrev bRw (d : List (List Int)) : Blk := .arr 1 (d.map encO) true 0
theorem rows_len (h : okD d) : d.length ≤ 1000 ∧ (d.all fun r => decide (r.length ≤ 1000)) = true := by
  have hn := h.1
  refine ⟨by omega, List.all_eq_true.2 fun r hr => ?_⟩
  obtain ⟨i, hi⟩ := List.mem_iff_getElem?.1 hr
  have hil := lt_of_get hi
  have := h.2.1 i hil
  rw [List.getD, hi] at this
  exact decide_eq_true (by simp at this; omega)
theorem c_tame (hp : pol'.prim 28 = some tame28) {R : List (List Int)} {n : Nat} {mo : Int} (hn : 1 ≤ n ∧ n ≤ 12) (hm : 0 ≤ mo ∧ mo ≤ 1000000) (H : Heap) : ∀ k, callN Tp pol' (k + 1) 28 [.imm .arg 1 (R.map encR), .int .i64 (n : Int), .int .i64 mo] H = some (.sl H.length 0 (tameL R n mo).length none (tameL R n mo).length 1, H ++ [bRw (tameL R n mo)]) := fun k => by
  rw [prim_call (pol := pol') (g := 28) (F := tame28) hp (rs := [.imm .arg 1 (R.map encR), .int .i64 (n : Int), .int .i64 mo]) (by simp only [mapO, arg_rw]; rfl) (res := .own 1 ((tameL R n mo).map encO)) (by simp only [tame28, nmF, mapO_map decR_enc]; rw [if_pos ⟨by omega, hm⟩, Int.toNat_natCast]), recv_rows]
end
theorem n_of (R0 : List (List Int)) (m : Int) (hm : 0 < m ∧ m ≤ 1000) (c : Int) (hc : 0 ≤ c ∧ c ≤ 3) : ∃ n : Nat, (c ≤ n ∧ (n : Int) < c + m) ∧ IntKind.i64.wrap (c + modW (IntKind.i64.wrap (((R0.map encR).length : Int) - c)) m) = (n : Int) := by
  have h := modW_bounds (IntKind.i64.wrap (((R0.map encR).length : Int) - c)) m (by omega) (by omega)
  refine ⟨(c + modW (IntKind.i64.wrap (((R0.map encR).length : Int) - c)) m).toNat, by omega, ?_⟩
  rw [wrap_id (by omega) (by omega)]; omega
end Go.Proofs.Ytlendaofkmhgmaa
end
section
open Go Go.HL
namespace Go.Proofs.Ytlendaofkmhgmaa
open Go.Proofs.Try renaming prog → Tp
open Go.HL.HV renaming undef → Ud
def anyF (f : Nat → Bool) : Nat → Nat → Bool
  | 0, _ => false
  | k + 1, i => f i || anyF f k (i + 1)
def tight (d : List (List Int)) (fa : List Int) (v u : Nat) : Bool := decide (at2 d v u + fa.getD u 0 = fa.getD v 0)
def ldF (d : List (List Int)) (fa : List Int) (to : Nat) : Nat → Nat → Nat → Bool
  | 0, v, _ => decide (v = to)
  | k + 1, v, L => decide (v = to) || anyF (fun u => L.testBit u && tight d fa v u && ldF d fa to k u (wo L u)) d.length 0
def ldT (d : List (List Int)) (fa : List Int) (to v L : Nat) : Bool := ldF d fa to L v L
theorem a22 : tyAgg Tp 22 = false := by kernel_rfl
theorem i22 : (Tp.underlying 22).isSome = true := by kernel_rfl
theorem a74 : tyAgg Tp 74 = false := by kernel_rfl
theorem i74 : (Tp.underlying 74).isSome = true := by kernel_rfl
theorem a75 : tyAgg Tp 75 = false := by kernel_rfl
theorem i75 : (Tp.underlying 75).isSome = true := by kernel_rfl
abbrev fnK : HV := .func 53 [] [.ptr 1 0 0 1, .ptr 6 0 0 1, .ptr 0 0 0 1, .ptr 3 0 0 1, .ptr 7 0 0 1]
abbrev bB (g : Int × Int → Bool) (k : Int × Int) : HV := .bool (g k)
structure WM (d : List (List Int)) (fa : List Int) (to : Nat) (ks : List (Int × Int)) (g : Int × Int → Bool) (H : Heap) : Prop where
  b0 : H[0]? = some (.arr 1 [.imm .arg 1 (d.map encR)] true 0)
  b1 : H[1]? = some (.arr 1 [.int .i64 (to : Int)] true 0)
  b2 : H[2]? = some (bI fa)
  b3 : H[3]? = some (.arr 1 [.sl 2 0 d.length none d.length 1] true 5)
  b5 : H[5]? = some (.map (ks.map encP) (ks.map (bB g)) 0)
  b6 : H[6]? = some (.arr 1 [.map 5] true 6)
  b7 : H[7]? = some (.arr 1 [fnK] true 8)
  nd : ks.Nodup
  rf : sameH H H = true
  mx : mxs H ≤ 8
structure FrW (H H' : Heap) : Prop where
  len : H'.length = H.length
  same : ∀ k, k ≠ 5 → H'[k]? = H[k]?
theorem FrW.refl (H : Heap) : FrW H H := ⟨rfl, fun _ _ => rfl⟩
theorem FrW.trans {H H' H'' : Heap} (h : FrW H H') (h' : FrW H' H'') : FrW H H'' := ⟨h'.len.trans h.len, fun k hk => (h'.same k hk).trans (h.same k hk)⟩
section
variable {d : List (List Int)} {fa : List Int} {to : Nat} {ks : List (Int × Int)} {g : Int × Int → Bool} {H : Heap}
theorem WM.l0 (h : WM d fa to ks g H) : loadV Tp H 22 (.ptr 0 0 0 1) = some (.imm .arg 1 (d.map encR)) := load_elem (b := 0) h.b0 rfl rfl rfl a22 i22
theorem WM.l1 (h : WM d fa to ks g H) : loadV Tp H 3 (.ptr 1 0 0 1) = some (.int .i64 (to : Int)) := load_elem (b := 1) h.b1 rfl rfl rfl a3 i3
theorem WM.l3 (h : WM d fa to ks g H) : loadV Tp H 23 (.ptr 3 0 0 1) = some (.sl 2 0 d.length none d.length 1) := load_elem (b := 3) h.b3 rfl rfl rfl a23 i23
theorem WM.l5 (h : WM d fa to ks g H) : loadV Tp H 74 (.ptr 6 0 0 1) = some (.map 5) := load_elem (b := 6) h.b6 rfl rfl rfl a74 i74
theorem WM.l6 (h : WM d fa to ks g H) : loadV Tp H 75 (.ptr 7 0 0 1) = some fnK := load_elem (b := 7) h.b7 rfl rfl rfl a75 i75
theorem WM.l2 (h : WM d fa to ks g H) (hf : fa.length = d.length) {v : Nat} (hv : v < d.length) : loadV Tp H 3 (.ptr 2 v 0 d.length) = some (.int .i64 (fa.getD v 0)) := by
  rw [← hf]
  exact load_out h.b2 (by omega)
theorem WM.set (h : WM d fa to ks g H) {k : Nat} {B : Blk} (hk : 8 ≤ k) (hB : sameH [B] [B] = true) (hm : B.mx ≤ 8) : WM d fa to ks g (H.set k B) := by
  have hs : ∀ j, j < 8 → (H.set k B)[j]? = H[j]? := fun j hj => List.getElem?_set_ne (by omega)
  refine ⟨by rw [hs 0 (by omega)]; exact h.b0, by rw [hs 1 (by omega)]; exact h.b1, by rw [hs 2 (by omega)]; exact h.b2, by rw [hs 3 (by omega)]; exact h.b3, by rw [hs 5 (by omega)]; exact h.b5, by rw [hs 6 (by omega)]; exact h.b6, by rw [hs 7 (by omega)]; exact h.b7, h.nd, sameH_set h.rf hB, ?_⟩
  have hx := h.mx
  rw [mxs_le] at hx ⊢
  intro C hC
  rcases List.mem_or_eq_of_mem_set hC with hC | rfl
  · exact hx C hC
  · exact hm
theorem WM.take (h : WM d fa to ks g H) {m : Nat} (hm : 8 ≤ m) : WM d fa to ks g (H.take m) := by
  have hs : ∀ j, j < 8 → (H.take m)[j]? = H[j]? := fun j hj => by rw [List.getElem?_take, if_pos (by omega)]
  refine ⟨by rw [hs 0 (by omega)]; exact h.b0, by rw [hs 1 (by omega)]; exact h.b1, by rw [hs 2 (by omega)]; exact h.b2, by rw [hs 3 (by omega)]; exact h.b3, by rw [hs 5 (by omega)]; exact h.b5, by rw [hs 6 (by omega)]; exact h.b6, by rw [hs 7 (by omega)]; exact h.b7, h.nd, sameH_take h.rf, ?_⟩
  have hx := h.mx
  rw [mxs_le] at hx ⊢
  exact fun C hC => hx C (List.mem_of_mem_take hC)
theorem WM.gc (h : WM d fa to ks g H) {b r : Nat} (hb : 8 ≤ b) : gc b r H = H.take (max b r) := by
  have := h.mx
  unfold HL.gc
  congr 1
  omega
end
end Go.Proofs.Ytlendaofkmhgmaa
end
section
open Go Go.HL
namespace Go.Proofs.Ytlendaofkmhgmaa
def Good (d : List (List Int)) (fa : List Int) (to : Nat) (ks : List (Int × Int)) (g : Int × Int → Bool) (B : Nat) : Prop := ∀ q, q ∈ ks → q.2 < (B : Int) → g q = ldT d fa to q.1.toNat q.2.toNat
def Kept (ks ks' : List (Int × Int)) (g g' : Int × Int → Bool) (w : Nat) : Prop := ∀ q : Int × Int, (w : Int) < q.2 → (q ∈ ks' ↔ q ∈ ks) ∧ g' q = g q
end Go.Proofs.Ytlendaofkmhgmaa
end
section
open Go Go.HL
namespace Go.Proofs.Ytlendaofkmhgmaa
section
variable {d : List (List Int)} {fa : List Int} {to : Nat}
theorem Good.mono {ks : List (Int × Int)} {g : Int × Int → Bool} {B B' : Nat} (h : Good d fa to ks g B) (hB : B' ≤ B) : Good d fa to ks g B' := fun q hq hq2 => h q hq (by omega)
theorem Good.step {ks ks' : List (Int × Int)} {g g' : Int × Int → Bool} {B w : Nat} (h : Good d fa to ks g B) (h' : Good d fa to ks' g' (w + 1)) (hk : Kept ks ks' g g' w) : Good d fa to ks' g' B := fun q hq hq2 => by
  by_cases c : q.2 < ((w + 1 : Nat) : Int)
  · exact h' q hq c
  · have := hk q (by omega)
    rw [this.2]
    exact h q (this.1.1 hq) hq2
abbrev tvW (m : Nat) : HV := .sl 11 0 m none m 1
structure BW (d : List (List Int)) (fa : List Int) (to v w : Nat) (o : List Int) (tv : HV) (H : Heap) : Prop where
  mem : ∃ ks g, WM d fa to ks g H ∧ Good d fa to ks g (w + 1)
  box : H[8]? = some (boxK v w)
  st : (tv = .sl 9 0 1 (some 1) 1 1 ∧ o.length = 1 ∧ H.length = 10 ∧ H[9]? = some (bI o)) ∨ (tv = tvW o.length ∧ H.length = 12 ∧ H[11]? = some (bI o))
theorem BW.len {v w : Nat} {o : List Int} {tv : HV} {H : Heap} (h : BW d fa to v w o tv H) : 10 ≤ H.length ∧ H.length ≤ 12 ∧ bnd tv ≤ H.length := by
  rcases h.st with ⟨h1, _, h3, _⟩ | ⟨h1, h3, _⟩ <;> rw [h1, h3] <;> simp [bnd]
end
end Go.Proofs.Ytlendaofkmhgmaa
end
section
open Go Go.HL
namespace Go.Proofs.Ytlendaofkmhgmaa
def Ch (R : Nat → Nat → Prop) : Nat → List Int → Prop
  | _, [] => True
  | s, v :: p => R s v.toNat ∧ Ch R v.toNat p
theorem Ch.mono {R R' : Nat → Nat → Prop} (h : ∀ a b, R a b → R' a b) : ∀ (p : List Int) (s : Nat), Ch R s p → Ch R' s p
  | [], _, _ => trivial
  | v :: p, s, hp => ⟨h _ _ hp.1, Ch.mono h p _ hp.2⟩
theorem Ch.split {R : Nat → Nat → Prop} : ∀ (p q : List Int) (s : Nat), Ch R s (p ++ q) ↔ Ch R s p ∧ Ch R (lastP s p) q
  | [], q, s => by simp [Ch, lastP]
  | v :: p, q, s => by rw [List.cons_append, Ch, Ch, lastP, Ch.split p q, and_assoc]
theorem inT.hd {n : Nat} {v : Int} {p : List Int} (h : inT n (v :: p)) : v.toNat < n ∧ ((v.toNat : Nat) : Int) = v := by
  have := h v (by simp); omega
end Go.Proofs.Ytlendaofkmhgmaa
end
section
open Go Go.HL
namespace Go.Proofs.Ytlendaofkmhgmaa
open Go.Proofs.Try renaming prog → Tp
open Go.HL.HV renaming undef → Ud
section
variable {pol' : Pol} {d : List (List Int)} {l : List Int} {H : Heap}
open Classical in
theorem q31 (hp : pol'.prim 31 = some climb31) (hx : H[0]? = some (.arr 1 (d.map encO) true 0)) (h1 : d.length ≤ 1000) (h2 : (d.all fun r => decide (r.length ≤ 1000)) = true) {s : Int} {o : List Int} {a e : Int} (he : (if okD d ∧ 0 ≤ s ∧ s ≤ 100 then ((climT d s.toNat).1, (climT d s.toNat).2, (0 : Int)) else ([], 0, 2)) = (o, a, e)) : ∀ k, callN Tp pol' (k + 1) 31 [.sl 0 0 d.length none d.length 1, .int .i64 s] H = some (.tuple [.sl H.length 0 o.length none o.length 1, .int .i64 a, .int .i64 e], H ++ [bI o]) := fun k => by
  rw [prim_call (pol := pol') (g := 31) (F := climb31) hp (rs := [.imm .arg 1 (d.map encR), .int .i64 s]) (by simp only [mapO, arg_rs rfl hx]; rfl) (res := .tuple [.own 1 (o.map encI), .int .i64 a, .int .i64 e]) (by
    simp only [climb31, riF, mapO_map decR_enc]
    rw [if_pos ⟨h1, h2⟩]
    split at he <;> rename_i hc <;> cases he
    · rw [if_pos hc]
    · rw [if_neg hc]; rfl)]
  simp only [recv, recvVals, recvVal, recvCell, encI_any, List.length_map]
  rfl
theorem q26z (hp : pol'.prim 26 = some ints26) {o : List Int} {a b n : Nat} (hn : o.length = n) (ho : n ≤ 1000) (h2 : H[a]? = some (bI o)) (h3 : H[b]? = some (bI o)) : ∀ k, callN Tp pol' (k + 1) 26 [.sl a 0 n none n 1, .sl b 0 n none n 1] H = some (.bool true, H) := fun k => by
  rw [prim_call (pol := pol') (g := 26) (F := ints26) hp (rs := [.imm .arg 1 (o.map encI), .imm .arg 1 (o.map encI)]) (by simp only [mapO, arg_sl hn h2, arg_sl hn h3]) (res := .bool true) (by simp only [ints26, llF, mapO_map decI_enc]; rw [if_pos (by omega), decide_eq_true trivial])]; rfl
end
end Go.Proofs.Ytlendaofkmhgmaa
end
section
open Go Go.HL
namespace Go.Proofs.Ytlendaofkmhgmaa
open Go.Proofs.Try renaming prog → Tp
open Go.HL.HV renaming undef → Ud
noncomputable def polLd7 : Pol := { pol with prim := fun g => if g == 20 then some awakeF else if g == 27 then some modF else if g == 28 then some tame28 else if g == 31 then some climb31 else if g == 17 then some bound17 else if g == 26 then some ints26 else none }
theorem soundLd7 (n : Nat) : CallSound Tp (callN Tp polLd7 n) := sound_prim _ (fun g f h => by
  split at h
  · rename_i hg; cases h; rw [eq_of_beq hg]; exact awake_prim
  split at h
  · rename_i hg; cases h; rw [eq_of_beq hg]; exact mod_ok
  split at h
  · rename_i hg; cases h; rw [eq_of_beq hg]; exact tame_ok
  split at h
  · rename_i hg; cases h; rw [eq_of_beq hg]; exact climb_ok
  split at h
  · rename_i hg; cases h; rw [eq_of_beq hg]; exact Bound_ok
  split at h
  · rename_i hg; cases h; rw [eq_of_beq hg]; exact ints_ok
  · cases h) n
end Go.Proofs.Ytlendaofkmhgmaa
end
section
open Go Go.HL
namespace Go.Proofs.Ytlendaofkmhgmaa
set_option maxRecDepth 100000
open Go.Proofs.Try renaming prog → Tp
open Go.HL.HV renaming undef → Ud
noncomputable def B7 : Code := Try.f7.body.getD .skip
abbrev env7 (v0 v1 v4 v5 v6 v7 v8 v9 v10 v11 v12 v13 v14 v15 v16 v17 : HV) : Env := [(0, v0), (1, v1), (4, v4), (5, v5), (6, v6), (7, v7), (8, v8), (9, v9), (10, v10), (11, v11), (12, v12), (13, v13), (14, v14), (15, v15), (16, v16), (17, v17)]
theorem lcb_a_0 (rw : List HV) (st : Int) : RT polLd7 7 (sub [0] B7) [(0, .imm .arg 1 rw), (1, .i st)] [] .normal (env7 (.imm .arg 1 rw) (.i st) (.bool false) Ud Ud Ud Ud Ud Ud Ud Ud Ud Ud Ud Ud Ud) [] :=
  RunsTo.hin 0 60 [] fun kf hk => ⟨_, by kernel_rfl, .nil⟩
theorem lcb_b_0 (rw : List HV) (st : Int) (md0 : Int) (g0 : ∀ kf, callN Tp polLd7 (kf + 1) 27 [.i (IntKind.i64.wrap ((rw.length : Int) - 1)), .i 11] [] = some (.i md0, [])) : RT polLd7 7 (sub [1, 0] B7) (env7 (.imm .arg 1 rw) (.i st) (.bool false) Ud Ud Ud Ud Ud Ud Ud Ud Ud Ud Ud Ud Ud) [] .normal (env7 (.imm .arg 1 rw) (.i st) (.bool false) (.i (IntKind.i64.wrap (1 + md0))) Ud Ud Ud Ud Ud Ud Ud Ud Ud Ud Ud Ud) [] :=
  RunsTo.hin 0 60 [⟨1, 3, .i md0, []⟩] fun kf hk => ⟨_, by kernel_rfl, (oC (g0 kf) .nil)⟩
theorem lcb_c_0 (rw : List HV) (st : Int) (nn : Int) (q0 : Nat) (o0 : List HV) (g0 : ∀ kf, callN Tp polLd7 (kf + 1) 28 [.imm .arg 1 rw, .i nn, .i 1000] [] = some (.sl 0 0 q0 none q0 1, [.arr 1 o0 true 0])) : RT polLd7 7 (sub [1, 1, 0] B7) (env7 (.imm .arg 1 rw) (.i st) (.bool false) (.i nn) Ud Ud Ud Ud Ud Ud Ud Ud Ud Ud Ud Ud) [] .normal (env7 (.imm .arg 1 rw) (.i st) (.bool false) (.i nn) (.sl 0 0 q0 none q0 1) Ud Ud Ud Ud Ud Ud Ud Ud Ud Ud Ud) [.arr 1 o0 true 0] :=
  RunsTo.hin 0 60 [⟨2, 2, .sl 0 0 q0 none q0 1, [.arr 1 o0 true 0]⟩] fun kf hk => ⟨_, by kernel_rfl, (oC (g0 kf) .nil)⟩
theorem lcb_d_0 (rw : List HV) (st : Int) (nn : Int) (q0 : Nat) (o0 : List HV) (md0 : Int) (g0 : ∀ kf, callN Tp polLd7 (kf + 1) 27 [.i st, .i 100] [.arr 1 o0 true 0] = some (.i md0, [.arr 1 o0 true 0])) : RT polLd7 7 (sub [1, 1, 1, 0] B7) (env7 (.imm .arg 1 rw) (.i st) (.bool false) (.i nn) (.sl 0 0 q0 none q0 1) Ud Ud Ud Ud Ud Ud Ud Ud Ud Ud Ud) [.arr 1 o0 true 0] .normal (env7 (.imm .arg 1 rw) (.i st) (.bool false) (.i nn) (.sl 0 0 q0 none q0 1) (.i md0) Ud Ud Ud Ud Ud Ud Ud Ud Ud Ud) [.arr 1 o0 true 0] :=
  RunsTo.hin 0 60 [⟨3, 1, .i md0, [.arr 1 o0 true 0]⟩] fun kf hk => ⟨_, by kernel_rfl, (oC (g0 kf) .nil)⟩
theorem lcb_e_0 (rw : List HV) (st : Int) (nn : Int) (q0 : Nat) (o0 : List HV) (s : Int) (q1 : Nat) (v1 : Int) (o1 : List HV) (g0 : ∀ kf, callN Tp polLd7 (kf + 1) 31 [.sl 0 0 q0 none q0 1, .i s] [.arr 1 o0 true 0] = some (.tuple [.sl 1 0 q1 none q1 1, .i v1, .i 0], [.arr 1 o0 true 0, .arr 1 o1 true 0])) : RT polLd7 7 (sub [1, 1, 1, 1, 0] B7) (env7 (.imm .arg 1 rw) (.i st) (.bool false) (.i nn) (.sl 0 0 q0 none q0 1) (.i s) Ud Ud Ud Ud Ud Ud Ud Ud Ud Ud) [.arr 1 o0 true 0] .normal (env7 (.imm .arg 1 rw) (.i st) (.bool false) (.i nn) (.sl 0 0 q0 none q0 1) (.i s) (.sl 1 0 q1 none q1 1) (.i v1) (.i 0) Ud Ud Ud Ud Ud Ud Ud) [.arr 1 o0 true 0, .arr 1 o1 true 0] :=
  RunsTo.hin 0 60 [⟨4, 2, .tuple [.sl 1 0 q1 none q1 1, .i v1, .i 0], [.arr 1 o0 true 0, .arr 1 o1 true 0]⟩] fun kf hk => ⟨_, by kernel_rfl, (oC (g0 kf) .nil)⟩
theorem lcb_f_0 (rw : List HV) (st : Int) (nn : Int) (q0 : Nat) (o0 : List HV) (s : Int) (q1 : Nat) (v1 : Int) (o1 : List HV) (q2 : Nat) (v2 : Int) (o2 : List HV) (g0 : ∀ kf, callN Tp polLd7 (kf + 1) 31 [.sl 0 0 q0 none q0 1, .i (IntKind.i64.wrap (s + 1))] [.arr 1 o0 true 0, .arr 1 o1 true 0] = some (.tuple [.sl 2 0 q2 none q2 1, .i v2, .i 0], [.arr 1 o0 true 0, .arr 1 o1 true 0, .arr 1 o2 true 0])) : RT polLd7 7 (sub [1, 1, 1, 1, 1, 0] B7) (env7 (.imm .arg 1 rw) (.i st) (.bool false) (.i nn) (.sl 0 0 q0 none q0 1) (.i s) (.sl 1 0 q1 none q1 1) (.i v1) (.i 0) Ud Ud Ud Ud Ud Ud Ud) [.arr 1 o0 true 0, .arr 1 o1 true 0] .normal (env7 (.imm .arg 1 rw) (.i st) (.bool false) (.i nn) (.sl 0 0 q0 none q0 1) (.i s) (.sl 1 0 q1 none q1 1) (.i v1) (.i 0) (.sl 2 0 q2 none q2 1) (.i v2) (.i 0) Ud Ud Ud Ud) [.arr 1 o0 true 0, .arr 1 o1 true 0, .arr 1 o2 true 0] :=
  RunsTo.hin 0 60 [⟨5, 3, .tuple [.sl 2 0 q2 none q2 1, .i v2, .i 0], [.arr 1 o0 true 0, .arr 1 o1 true 0, .arr 1 o2 true 0]⟩] fun kf hk => ⟨_, by kernel_rfl, (oC (g0 kf) .nil)⟩
theorem lcb_g_0 (rw : List HV) (st : Int) (nn : Int) (q0 : Nat) (o0 : List HV) (s : Int) (q1 : Nat) (v1 : Int) (o1 : List HV) (q2 : Nat) (v2 : Int) (o2 : List HV) (w0 : Int) (g0 : ∀ kf, callN Tp polLd7 (kf + 1) 17 [.sl 0 0 q0 none q0 1, .sl 1 0 q1 none q1 1] [.arr 1 o0 true 0, .arr 1 o1 true 0, .arr 1 o2 true 0] = some (.tuple [.i w0, .i 0], [.arr 1 o0 true 0, .arr 1 o1 true 0, .arr 1 o2 true 0])) : RT polLd7 7 (sub [1, 1, 1, 1, 1, 1, 0] B7) (env7 (.imm .arg 1 rw) (.i st) (.bool false) (.i nn) (.sl 0 0 q0 none q0 1) (.i s) (.sl 1 0 q1 none q1 1) (.i v1) (.i 0) (.sl 2 0 q2 none q2 1) (.i v2) (.i 0) Ud Ud Ud Ud) [.arr 1 o0 true 0, .arr 1 o1 true 0, .arr 1 o2 true 0] .normal (env7 (.imm .arg 1 rw) (.i st) (.bool false) (.i nn) (.sl 0 0 q0 none q0 1) (.i s) (.sl 1 0 q1 none q1 1) (.i v1) (.i 0) (.sl 2 0 q2 none q2 1) (.i v2) (.i 0) (.i w0) (.i 0) Ud Ud) [.arr 1 o0 true 0, .arr 1 o1 true 0, .arr 1 o2 true 0] :=
  RunsTo.hin 0 60 [⟨6, 2, .tuple [.i w0, .i 0], [.arr 1 o0 true 0, .arr 1 o1 true 0, .arr 1 o2 true 0]⟩] fun kf hk => ⟨_, by kernel_rfl, (oC (g0 kf) .nil)⟩
theorem lcb_h_0 (rw : List HV) (st : Int) (nn : Int) (q0 : Nat) (o0 : List HV) (s : Int) (q1 : Nat) (v1 : Int) (o1 : List HV) (q2 : Nat) (v2 : Int) (o2 : List HV) (w1 : Int) (w0 : Int) (g0 : ∀ kf, callN Tp polLd7 (kf + 1) 17 [.sl 0 0 q0 none q0 1, .sl 2 0 q2 none q2 1] [.arr 1 o0 true 0, .arr 1 o1 true 0, .arr 1 o2 true 0] = some (.tuple [.i w0, .i 0], [.arr 1 o0 true 0, .arr 1 o1 true 0, .arr 1 o2 true 0])) : RT polLd7 7 (sub [1, 1, 1, 1, 1, 1, 1, 0] B7) (env7 (.imm .arg 1 rw) (.i st) (.bool false) (.i nn) (.sl 0 0 q0 none q0 1) (.i s) (.sl 1 0 q1 none q1 1) (.i v1) (.i 0) (.sl 2 0 q2 none q2 1) (.i v2) (.i 0) (.i w1) (.i 0) Ud Ud) [.arr 1 o0 true 0, .arr 1 o1 true 0, .arr 1 o2 true 0] .normal (env7 (.imm .arg 1 rw) (.i st) (.bool false) (.i nn) (.sl 0 0 q0 none q0 1) (.i s) (.sl 1 0 q1 none q1 1) (.i v1) (.i 0) (.sl 2 0 q2 none q2 1) (.i v2) (.i 0) (.i w1) (.i 0) (.i w0) (.i 0)) [.arr 1 o0 true 0, .arr 1 o1 true 0, .arr 1 o2 true 0] :=
  RunsTo.hin 0 60 [⟨7, 2, .tuple [.i w0, .i 0], [.arr 1 o0 true 0, .arr 1 o1 true 0, .arr 1 o2 true 0]⟩] fun kf hk => ⟨_, by kernel_rfl, (oC (g0 kf) .nil)⟩
theorem lcb_i_0 (rw : List HV) (st : Int) (nn : Int) (q0 : Nat) (o0 : List HV) (s : Int) (q1 : Nat) (v1 : Int) (o1 : List HV) (q2 : Nat) (v2 : Int) (o2 : List HV) (w1 : Int) (w2 : Int)(g0 : v1 ≤ v2) (g1 : w1 = v1) (g2 : w2 = v2) (g3 : v1 < v2) : RT polLd7 7 (sub [1, 1, 1, 1, 1, 1, 1, 1] B7) (env7 (.imm .arg 1 rw) (.i st) (.bool false) (.i nn) (.sl 0 0 q0 none q0 1) (.i s) (.sl 1 0 q1 none q1 1) (.i v1) (.i 0) (.sl 2 0 q2 none q2 1) (.i v2) (.i 0) (.i w1) (.i 0) (.i w2) (.i 0)) [.arr 1 o0 true 0, .arr 1 o1 true 0, .arr 1 o2 true 0] .ret (env7 (.imm .arg 1 rw) (.i st) (.bool true) (.i nn) (.sl 0 0 q0 none q0 1) (.i s) (.sl 1 0 q1 none q1 1) (.i v1) (.i 0) (.sl 2 0 q2 none q2 1) (.i v2) (.i 0) (.i w1) (.i 0) (.i w2) (.i 0)) [.arr 1 o0 true 0, .arr 1 o1 true 0, .arr 1 o2 true 0] :=
  RunsTo.hin 0 60 [⟨8, 17, .bool true, [.arr 1 o0 true 0, .arr 1 o1 true 0, .arr 1 o2 true 0]⟩, ⟨8, 22, .bool true, [.arr 1 o0 true 0, .arr 1 o1 true 0, .arr 1 o2 true 0]⟩, ⟨8, 27, .bool true, [.arr 1 o0 true 0, .arr 1 o1 true 0, .arr 1 o2 true 0]⟩, ⟨8, 32, .bool true, [.arr 1 o0 true 0, .arr 1 o1 true 0, .arr 1 o2 true 0]⟩] fun kf hk => ⟨_, by kernel_rfl, (oB [.arr 1 o0 true 0, .arr 1 o1 true 0, .arr 1 o2 true 0] (decide_eq_true g0) (oB [.arr 1 o0 true 0, .arr 1 o1 true 0, .arr 1 o2 true 0] (decide_eq_true g1) (oB [.arr 1 o0 true 0, .arr 1 o1 true 0, .arr 1 o2 true 0] (decide_eq_true g2) (oB [.arr 1 o0 true 0, .arr 1 o1 true 0, .arr 1 o2 true 0] (decide_eq_true g3) .nil))))⟩
theorem lcb_i_1 (rw : List HV) (st : Int) (nn : Int) (q0 : Nat) (o0 : List HV) (s : Int) (q1 : Nat) (v1 : Int) (o1 : List HV) (q2 : Nat) (v2 : Int) (o2 : List HV) (w1 : Int) (w2 : Int)(g0 : v1 ≤ v2) (g1 : w1 = v1) (g2 : w2 = v2) (g3 : ¬ (v1 < v2)) (g4 : ∀ kf, callN Tp polLd7 (kf + 1) 26 [.sl 1 0 q1 none q1 1, .sl 2 0 q2 none q2 1] [.arr 1 o0 true 0, .arr 1 o1 true 0, .arr 1 o2 true 0] = some (.bool true, [.arr 1 o0 true 0, .arr 1 o1 true 0, .arr 1 o2 true 0])) : RT polLd7 7 (sub [1, 1, 1, 1, 1, 1, 1, 1] B7) (env7 (.imm .arg 1 rw) (.i st) (.bool false) (.i nn) (.sl 0 0 q0 none q0 1) (.i s) (.sl 1 0 q1 none q1 1) (.i v1) (.i 0) (.sl 2 0 q2 none q2 1) (.i v2) (.i 0) (.i w1) (.i 0) (.i w2) (.i 0)) [.arr 1 o0 true 0, .arr 1 o1 true 0, .arr 1 o2 true 0] .ret (env7 (.imm .arg 1 rw) (.i st) (.bool true) (.i nn) (.sl 0 0 q0 none q0 1) (.i s) (.sl 1 0 q1 none q1 1) (.i v1) (.i 0) (.sl 2 0 q2 none q2 1) (.i v2) (.i 0) (.i w1) (.i 0) (.i w2) (.i 0)) [.arr 1 o0 true 0, .arr 1 o1 true 0, .arr 1 o2 true 0] :=
  RunsTo.hin 0 60 [⟨8, 17, .bool true, [.arr 1 o0 true 0, .arr 1 o1 true 0, .arr 1 o2 true 0]⟩, ⟨8, 22, .bool true, [.arr 1 o0 true 0, .arr 1 o1 true 0, .arr 1 o2 true 0]⟩, ⟨8, 27, .bool true, [.arr 1 o0 true 0, .arr 1 o1 true 0, .arr 1 o2 true 0]⟩, ⟨8, 32, .bool false, [.arr 1 o0 true 0, .arr 1 o1 true 0, .arr 1 o2 true 0]⟩, ⟨8, 36, .bool true, [.arr 1 o0 true 0, .arr 1 o1 true 0, .arr 1 o2 true 0]⟩] fun kf hk => ⟨_, by kernel_rfl, (oB [.arr 1 o0 true 0, .arr 1 o1 true 0, .arr 1 o2 true 0] (decide_eq_true g0) (oB [.arr 1 o0 true 0, .arr 1 o1 true 0, .arr 1 o2 true 0] (decide_eq_true g1) (oB [.arr 1 o0 true 0, .arr 1 o1 true 0, .arr 1 o2 true 0] (decide_eq_true g2) (oB [.arr 1 o0 true 0, .arr 1 o1 true 0, .arr 1 o2 true 0] (decide_eq_false g3) (oC (g4 kf) .nil)))))⟩
end Go.Proofs.Ytlendaofkmhgmaa
end
section
open Go Go.HL
namespace Go.Proofs.Ytlendaofkmhgmaa
open Go.Proofs.Try renaming prog → Tp
open Go.HL.HV renaming undef → Ud
theorem res7 : Try.f7.results.toList = [.tmp 4] := by kernel_rfl
open Classical in
theorem q17b {pol' : Pol} {d : List (List Int)} {l : List Int} {H : Heap} {lb : Nat} (hp : pol'.prim 17 = some bound17) (hx : H[0]? = some (.arr 1 (d.map encO) true 0)) (ht : H[lb]? = some (bI l)) (hd : okD d) (hl : l.length = d.length) (hk : prOk l) : ∀ k, callN Tp pol' (k + 1) 17 [.sl 0 0 d.length none d.length 1, .sl lb 0 l.length none l.length 1] H = some (.tuple [.int .i64 (bndT d l), .int .i64 0], H) := fun k => by
  have hr := rows_len hd
  have hdn := hd.1
  rw [prim_call (pol := pol') (g := 17) (F := bound17) hp (rs := [.imm .arg 1 (d.map encR), .imm .arg 1 (l.map encI)]) (by simp only [mapO, arg_rs rfl hx, arg_sl rfl ht]) (res := .tuple [.int .i64 (bndT d l), .int .i64 0]) (by
    simp only [bound17, rlF, mapO_map decR_enc, mapO_map decI_enc]
    rw [if_pos ⟨⟨hr.1, hr.2⟩, by omega⟩, if_pos ⟨hd, hl, hk⟩])]; rfl
theorem roundClimbed_law (R0 : List (List Int)) (st : Int) : ∃ E H, RT polLd7 7 B7 (args0 [.imm .arg 1 (R0.map encR), .int .i64 st]) [] .ret E H ∧ E.get 4 = .bool true := by
  obtain ⟨n, hn, hw⟩ := n_of R0 11 (by omega) 1 (by omega)
  have e27 : ∀ (a m : Int) (H : Heap), 0 < m → m ≤ 1000 → ∀ k, callN Tp polLd7 (k + 1) 27 [.int .i64 a, .int .i64 m] H = some (.int .i64 (modW a m), H) := fun a m H h1 h2 => prim_mod (by kernel_rfl) (by omega) H
  have a := lcb_a_0 (R0.map encR) st
  have b := lcb_b_0 (R0.map encR) st _ (e27 _ 11 _ (by omega) (by omega))
  rw [hw] at b
  have c := lcb_c_0 (R0.map encR) st n _ _ (c_tame (by kernel_rfl) (R := R0) (n := n) (mo := 1000) (by omega) (by omega) _)
  have hd : okD (tameL R0 n 1000) := tame_okD (by omega) (by omega)
  generalize tameL R0 n 1000 = d at c hd
  have hdn := hd.1
  have hr := rows_len hd
  have dd := lcb_d_0 (R0.map encR) st n d.length (d.map encO) _ (e27 st 100 _ (by omega) (by omega))
  have hm := modW_bounds st 100 (by omega) (by omega)
  obtain ⟨s, hs⟩ : ∃ s : Nat, modW st 100 = (s : Int) := ⟨(modW st 100).toNat, by omega⟩
  rw [hs] at dd hm
  have h1 := climT_ok hd (s := s) (by omega)
  have h2 := climT_ok hd (s := s + 1) (by omega)
  obtain ⟨m1, m2⟩ := climT_more d s
  have k1 := q31 (pol' := polLd7) (by kernel_rfl) (d := d) (H := [.arr 1 (d.map encO) true 0]) rfl hr.1 hr.2 (s := (s : Int)) (if_pos ⟨hd, by omega, by omega⟩)
  rw [Int.toNat_natCast] at k1
  have k2 := fun H (hH : H[0]? = some (.arr 1 (d.map encO) true 0)) => q31 (pol' := polLd7) (by kernel_rfl) (d := d) (H := H) hH hr.1 hr.2 (s := ((s + 1 : Nat) : Int)) (if_pos ⟨hd, by omega, by omega⟩)
  rw [Int.toNat_natCast] at k2
  generalize climT d s = u at *
  generalize climT d (s + 1) = w at *
  have e := lcb_e_0 (R0.map encR) st n d.length (d.map encO) s _ _ _ k1
  have f := lcb_f_0 (R0.map encR) st n d.length (d.map encO) s u.1.length u.2 (u.1.map encI) _ _ _ (by rw [wrap_succ (by omega)]; exact k2 [.arr 1 (d.map encO) true 0, bI u.1] rfl)
  have g := lcb_g_0 (R0.map encR) st n d.length (d.map encO) s u.1.length u.2 (u.1.map encI) w.1.length w.2 (w.1.map encI) _ (q17b (pol' := polLd7) (by kernel_rfl) (d := d) (l := u.1) (H := [.arr 1 (d.map encO) true 0, bI u.1, bI w.1]) (lb := 1) rfl rfl hd h1.1 h1.2.1)
  rw [h1.2.2] at g
  have h := lcb_h_0 (R0.map encR) st n d.length (d.map encO) s u.1.length u.2 (u.1.map encI) w.1.length w.2 (w.1.map encI) u.2 _ (q17b (pol' := polLd7) (by kernel_rfl) (d := d) (l := w.1) (H := [.arr 1 (d.map encO) true 0, bI u.1, bI w.1]) (lb := 2) rfl rfl hd h2.1 h2.2.1)
  rw [h2.2.2] at h
  by_cases c0 : u.2 < w.2
  · have i := lcb_i_0 (R0.map encR) st n d.length (d.map encO) s u.1.length u.2 (u.1.map encI) w.1.length w.2 (w.1.map encI) u.2 w.2 m1 rfl rfl c0
    exact ⟨_, _, sq (a) (sq (b) (sq (c) (sq (dd) (sq (e) (sq (f) (sq (g) (sq (h) (i) (c := sub [1, 1, 1, 1, 1, 1, 1] B7)) (c := sub [1, 1, 1, 1, 1, 1] B7)) (c := sub [1, 1, 1, 1, 1] B7)) (c := sub [1, 1, 1, 1] B7)) (c := sub [1, 1, 1] B7)) (c := sub [1, 1] B7)) (c := sub [1] B7)) (c := B7), rfl⟩
  · have m3 := m2.resolve_left c0
    have k26 := q26z (pol' := polLd7) (by kernel_rfl) (o := u.1) (H := [.arr 1 (d.map encO) true 0, bI u.1, bI u.1]) (a := 1) (b := 2) rfl (by omega) rfl rfl
    rw [m3] at k26
    have i := lcb_i_1 (R0.map encR) st n d.length (d.map encO) s w.1.length u.2 (w.1.map encI) w.1.length w.2 (w.1.map encI) u.2 w.2 m1 rfl rfl c0 k26
    rw [m3] at e f g h
    exact ⟨_, _, sq (a) (sq (b) (sq (c) (sq (dd) (sq (e) (sq (f) (sq (g) (sq (h) (i) (c := sub [1, 1, 1, 1, 1, 1, 1] B7)) (c := sub [1, 1, 1, 1, 1, 1] B7)) (c := sub [1, 1, 1, 1, 1] B7)) (c := sub [1, 1, 1, 1] B7)) (c := sub [1, 1, 1] B7)) (c := sub [1, 1] B7)) (c := sub [1] B7)) (c := B7), rfl⟩
end Go.Proofs.Ytlendaofkmhgmaa
end
section
namespace Go.HL
open Go.ChangeShapes Go.WideShapes Go.ChangeAt Go.RowKit Go.Deep
theorem okNil (w : World) (r : Nat) : okOf Ctx.nil w.heap.size false r := by
  refine ⟨fun hM => ?_, by simp⟩
  obtain ⟨b, y, h1, _, _⟩ := M_iff.1 hM
  simp [Ctx.nil] at h1
theorem cell_lt {w : World} {a : Addr} {v : Value} (h : w.cell? a = some v) : a.block < w.heap.size := by
  rcases Nat.lt_or_ge a.block w.heap.size with hl | hl
  · exact hl
  · have : w.heap[a.block]? = none := by simp [hl]
    simp [World.cell?, this] at h
end Go.HL
end
section
namespace Go.HL
open Go.ChangeShapes Go.WideShapes Go.ChangeAt Go.RowKit Go.Deep
theorem ints_cells {H : Type} {enc : TypeId × Value → H} {P : Program} {W : World} {base fuel : Nat} {sp : Nat → Bool} {held : Bool} {t q : TypeId} {cs : List Value} {x : DataW H × List MemPlace} (ht : P.underlying t = some (.slice q)) (hq : P.underlying q = some (.int .i64)) (cq : P.cellsOf q = 1)
    (hf : DataW.trod enc P W base sp held fuel t cs = some x) : ∃ (l : List Int) (v : Value), cs = [v] ∧ V W (okOf Ctx.nil W.heap.size) Ctx.nil (.imm .arg 1 (l.map encI)) v := by
  rcases open_slice ht hf with ⟨h0, _⟩ | ⟨a', len, cap, m, n, D, Pl, h0, hb, hl, hm, hmm, hx, hel⟩
  · exact ⟨[], _, h0, .imm .arg 1 [] none 0 (fun _ => .bool false) (by simp) (by simp) (by simp) (by simp) (by simp) (by simp)⟩
  · subst h0
    have hlm : len ≤ m := by rw [hmm]; split <;> omega
    have each : ∀ i, i < len → ∃ z : Int, W.cell? (a'.add i) = some (.int .i64 z) := by
      intro i hi
      obtain ⟨cs', h1, h2⟩ := hel i (by omega)
      rw [cq] at h1
      obtain ⟨_, hlen, hcell⟩ := World.cells?_some h1
      match cs', hlen with
      | [v0], _ =>
        obtain ⟨z0, e0, _, _⟩ := DataW.trod_int hq h2
        simp at e0
        subst e0
        have c0 := hcell 0 (by omega)
        rw [add_add] at c0
        exact ⟨z0, by simpa using c0⟩
    obtain ⟨f, hf⟩ := choose_lt each
    refine ⟨(List.range len).map f, _, rfl, ?_⟩
    have hlen : (((List.range len).map f).map encI).length = len := by simp
    have key := V.imm (w := W) (ok := okOf Ctx.nil W.heap.size) (c := Ctx.nil) .arg 1 (((List.range len).map f).map encI) (some a') cap (fun j => .int .i64 (f j))
      (by rw [hlen]; exact hl) (by simp) ?_ ?_ ?_ ?_
    · rw [hlen] at key; exact key
    · intro hne
      have h0 : 0 < len := by
        rcases Nat.eq_zero_or_pos len with h | h
        · subst h; simp at hne
        · exact h
      obtain ⟨b, off, spot⟩ := a'
      have hspot : spot = none := by simpa [Addr.add] using World.cell?_spot (hf 0 h0)
      subst hspot
      refine ⟨b, off, rfl, by simpa [Addr.add] using cell_lt (hf 0 h0), okNil W b, fun j hj => ?_⟩
      rw [hlen] at hj
      have c0 := hf j (by omega)
      rw [add_plain] at c0
      exact c0
    · intro v hv
      obtain ⟨p, _, rfl⟩ := List.mem_map.1 hv
      rfl
    · intro v hv
      obtain ⟨p, _, rfl⟩ := List.mem_map.1 hv
      rfl
    · intro i v j x hi hj
      have hil : i < len := by have := lt_of_get hi; rw [hlen] at this; exact this
      have : v = encI (f i) := by
        rw [List.getElem?_map, List.getElem?_map, List.getElem?_range hil] at hi
        simpa using hi.symm
      subst this
      have hjx : j < 1 := lt_of_get hj
      match j, hjx, hj with
      | 0, _, hj =>
        simp [encI, cellsOf] at hj
        subst hj
        have e1 : i * 1 + 0 = i := by omega
        rw [e1]
        exact V.int _ _
def encRH (r : List Int) : HV := .imm .arg 1 (r.map encI)
theorem rows_cells {H : Type} {enc : TypeId × Value → H} {P : Program} {W : World} {base fuel : Nat} {sp : Nat → Bool} {held : Bool} {s t q : TypeId} {cs : List Value} {x : DataW H × List MemPlace} (hs : P.underlying s = some (.slice t)) (ct : P.cellsOf t = 1) (ht : P.underlying t = some (.slice q)) (hq : P.underlying q = some (.int .i64)) (cq : P.cellsOf q = 1)
    (hf : DataW.trod enc P W base sp held fuel s cs = some x) : ∃ (R : List (List Int)) (v : Value), cs = [v] ∧ V W (okOf Ctx.nil W.heap.size) Ctx.nil (.imm .arg 1 (R.map encRH)) v := by
  rcases open_slice hs hf with ⟨h0, _⟩ | ⟨a', len, cap, m, n, D, Pl, h0, hb, hl, hm, hmm, hx, hel⟩
  · exact ⟨[], _, h0, .imm .arg 1 [] none 0 (fun _ => .bool false) (by simp) (by simp) (by simp) (by simp) (by simp) (by simp)⟩
  · subst h0
    have hlm : len ≤ m := by rw [hmm]; split <;> omega
    have each : ∀ i, i < len → ∃ p : List Int × Value, W.cell? (a'.add i) = some p.2 ∧ V W (okOf Ctx.nil W.heap.size) Ctx.nil (encRH p.1) p.2 := by
      intro i hi
      obtain ⟨cs', h1, h2⟩ := hel i (by omega)
      rw [ct, Nat.mul_one] at h1
      obtain ⟨_, hlen, hcell⟩ := World.cells?_some h1
      obtain ⟨l, v, rfl, hV⟩ := ints_cells ht hq cq h2
      have c0 := hcell 0 (by omega)
      rw [add_add] at c0
      exact ⟨(l, v), by simpa using c0, hV⟩
    obtain ⟨f, hf⟩ := choose_lt each
    refine ⟨(List.range len).map fun i => (f i).1, _, rfl, ?_⟩
    have hlen : (((List.range len).map fun i => (f i).1).map encRH).length = len := by simp
    have key := V.imm (w := W) (ok := okOf Ctx.nil W.heap.size) (c := Ctx.nil) .arg 1 (((List.range len).map fun i => (f i).1).map encRH) (some a') cap (fun j => (f j).2)
      (by rw [hlen]; exact hl) (by simp) ?_ ?_ ?_ ?_
    · rw [hlen] at key; exact key
    · intro hne
      have h0 : 0 < len := by
        rcases Nat.eq_zero_or_pos len with h | h
        · subst h; simp at hne
        · exact h
      obtain ⟨b, off, spot⟩ := a'
      have hspot : spot = none := by simpa [Addr.add] using World.cell?_spot (hf 0 h0).1
      subst hspot
      refine ⟨b, off, rfl, by simpa [Addr.add] using cell_lt (hf 0 h0).1, okNil W b, fun j hj => ?_⟩
      rw [hlen, Nat.mul_one] at hj
      have c0 := (hf j hj).1
      rw [add_plain] at c0
      exact c0
    · intro v hv
      obtain ⟨p, _, rfl⟩ := List.mem_map.1 hv
      rfl
    · intro v hv
      obtain ⟨p, _, rfl⟩ := List.mem_map.1 hv
      rfl
    · intro i v j x hi hj
      have hil : i < len := by have := lt_of_get hi; rw [hlen] at this; exact this
      have : v = encRH (f i).1 := by
        rw [List.getElem?_map, List.getElem?_map, List.getElem?_range hil] at hi
        simpa using hi.symm
      subst this
      have hjx : j < 1 := lt_of_get hj
      obtain rfl : j = 0 := by omega
      simp [encRH, cellsOf] at hj
      subst hj
      have e1 : i * 1 + 0 = i := by omega
      rw [e1]
      exact (hf i hil).2
theorem arg_rows_ok {H : Type} {enc : TypeId × Value → H} {P : Program} {W : World} {base : Nat} {s t q : TypeId} {v : Value} {d : DataW H} {ps : List MemPlace} (hs : P.underlying s = some (.slice t)) (ct : P.cellsOf t = 1) (ht : P.underlying t = some (.slice q)) (hq : P.underlying q = some (.int .i64)) (cq : P.cellsOf q = 1)
    (hval : Value.okWide P W .any base s v) (hd : DataW.Trod enc P W 0 (fun _ => true) true s v d ps) : ∃ R : List (List Int), V W (okOf Ctx.nil W.heap.size) Ctx.nil (.imm .arg 1 (R.map encRH)) v := by
  obtain ⟨a, len, cap, rfl⟩ := okWide_slice hs hval
  obtain ⟨fuel, hf⟩ := hd
  obtain ⟨R, v, hv, h⟩ := rows_cells hs ct ht hq cq hf
  simp [Value.cells] at hv
  subst hv
  exact ⟨R, h⟩
end Go.HL
end
