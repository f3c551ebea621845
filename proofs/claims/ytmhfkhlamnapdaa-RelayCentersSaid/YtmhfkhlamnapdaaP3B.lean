/- A part of the proof. -/
import Derived.Test.YtmhfkhlamnapdaaP3A
set_option linter.unusedVariables false
set_option linter.unusedSimpArgs false
section
open Go Go.HL
namespace Go.Proofs.Ytmhfkhlamnapdaa
abbrev ntE (n : Int) (lc : List HV) (m : Nat) (v24 v25 v26 : HV) : Env := env46 (.int .i64 n) (.imm .arg 2 lc) (.ptr 0 0 0 1) (.bool false) (.ptr (m + 3) 0 0 1) .undef v24 v25 v26
theorem res46 : Try.f46.results.toList = [.cell 4 72, .tmp 5] := by kernel_rfl
theorem a72 : tyAgg Try.prog 72 = true := by kernel_rfl
theorem s72 : tySize Try.prog 72 = some 2 := by kernel_rfl
theorem a33c : tyAgg Try.prog 33 = true := by kernel_rfl
theorem s33c : tySize Try.prog 33 = some 2 := by kernel_rfl
abbrev bE (a b : Int) : Blk := .arr 2 [.agg [.int .i64 a, .int .i64 b]] true 0
theorem same_E (a b : Int) : sameH [bE a b] [bE a b] = true := by simp [sameH, sameL, same]
theorem e_new {n : Nat} {adj : List (List Nat)} {H : Heap} (h : TS n adj H) (a b : Int) : ∃ H0 H1, some (newV (.agg [.int .i64 0, .int .i64 0]) H) = some (HV.ptr H.length 0 0 1, H0) ∧ storeV Try.prog H0 33 (.ptr H.length 0 0 1) (.agg [.int .i64 a, .int .i64 b]) = some H1 ∧ TS n adj H1 ∧ H1[H.length]? = some (bE a b) ∧ H1.length = H.length + 1 ∧ (∀ k, k < H.length → H1[k]? = H[k]?) := by
  have hb : (H ++ [bE 0 0])[H.length]? = some (bE 0 0) := by simp
  have hst := store_agg (P := Try.prog) (t := 33) (i := 0) (tot := 1) (new := [.int .i64 a, .int .i64 b]) hb rfl rfl s33c rfl (by simp) rfl rfl
  have hk : ∀ k, k < H.length → ((H ++ [bE 0 0]).set H.length (bE a b))[k]? = H[k]? := fun k hk => by
    rw [List.getElem?_set_ne (by omega), List.getElem?_append_left hk]
  refine ⟨_, _, rfl, hst, ?_, by rw [List.set_cons_zero, List.getElem?_set_self (by simp)], by simp, hk⟩
  have hl := h.len
  exact h.ext (fun k hk2 => hk k (by omega)) (by simp; omega) (sameH_set (sameH_app h.rf (same_E 0 0)) (same_E a b))
theorem e_load {H : Heap} {q : Nat} {a b : Int} (h : H[q]? = some (bE a b)) : loadV Try.prog H 3 (.ptr q 0 0 1) = some (.int .i64 a) ∧ loadV Try.prog H 3 (.ptr q 0 1 1) = some (.int .i64 b) :=
  ⟨load_cell (b := q) (off := 0) h rfl rfl a3b i3b rfl, load_cell (b := q) (off := 1) h rfl rfl a3b i3b rfl⟩
theorem e_idx (q : Nat) : idxV Try.prog 33 (.ptr q 0 0 1) (.int .i64 0) = some (.ptr q 0 0 1) ∧ idxV Try.prog 33 (.ptr q 0 0 1) (.int .i64 1) = some (.ptr q 0 1 1) :=
  ⟨idx_arr (n := 0) u33c' z3b (by omega) (by decide), idx_arr (n := 1) u33c' z3b (by omega) (by decide)⟩
theorem m49 (x lo hi : Int) (b : Bool) (hb : decide (lo ≤ x ∧ x ≤ hi) = b) (H : Heap) : ∀ k, callN Try.prog polM (k + 1) 49 [.int .i64 x, .int .i64 lo, .int .i64 hi] H = some (.bool b, H) := fun k => by
  rw [prim_call (pol := polM) (g := 49) (F := withinF) (by kernel_rfl) (rs := [.int .i64 x, .int .i64 lo, .int .i64 hi]) rfl (res := .bool b) (by simp only [withinF, hb])]; rfl
theorem z_store {H : Heap} (h : H[0]? = some (.arr 2 [Zt] true 0)) : ∃ H', storeV Try.prog H 72 (.ptr 0 0 0 1) Zt = some H' ∧ loadV Try.prog H' 72 (.ptr 0 0 0 1) = some Zt := by
  have hst := store_agg (P := Try.prog) (t := 72) (i := 0) (tot := 1) (new := [.imm .lit 0 [], .nilmap]) h rfl rfl s72 rfl (by simp) rfl rfl
  exact ⟨_, hst, load_agg (b := 0) (by rw [List.getElem?_set_self (lt_of_get h)]) rfl rfl a72 s72⟩
theorem bad_res {E : Env} {H : Heap} (h4 : E.get 4 = .ptr 0 0 0 1) (h5 : E.get 5 = .bool false) (h : loadV Try.prog H 72 (.ptr 0 0 0 1) = some Zt) : resultsV Try.prog Try.f46 E H = some (.tuple [Zt, .bool false]) := by
  simp only [resultsV, res46, mapO, resultV, h4, h5, h]
theorem nt_loop (n : Nat) (hn : n ≤ 1000) (l : List (Int × Int)) (hl : l.length ≤ 100) : ∀ (d j : Nat) (adj : List (List Nat)) (H : Heap), j + d = l.length → TS n adj H → AInv n (2 * j) adj →
    ∃ x E H', RunsTo Try.prog polM 46 (sub [1, 1, 1, 0, 1, 0] B46) (ntE (n : Int) (l.map encP) n (.imm .arg 2 (l.map encP)) (.int .i64 (l.length : Int)) (.int .i64 (j : Int))) H x (polM.keys 46) E H' ∧
      (((l.drop j).all (validB (n : Int)) = true ∧ x = .exit 0 ∧ E = ntE (n : Int) (l.map encP) n (.imm .arg 2 (l.map encP)) (.int .i64 (l.length : Int)) (.int .i64 (l.length : Int)) ∧ TS n (adjGo (l.drop j) adj) H' ∧ AInv n (2 * l.length) (adjGo (l.drop j) adj)) ∨
       ((l.drop j).all (validB (n : Int)) = false ∧ x = .ret ∧ resultsV Try.prog Try.f46 E H' = some (.tuple [Zt, .bool false]))) := by
  intro d
  induction d with
  | zero =>
    intro j adj H hj hT hA
    have hj : j = l.length := by omega
    subst hj
    have s1 := nt_l_4 (n : Int) (l.map encP) n H l.length (by simp)
    rw [List.length_map] at s1
    exact ⟨_, _, _, RunsTo.loop_out s1 (by simp) (by kernel_rfl) (by kernel_rfl), .inl ⟨by simp, rfl, rfl, by simpa [adjGo] using hT, by simpa [adjGo] using hA⟩⟩
  | succ d ih =>
    intro j adj H hj hT hA
    have hjl : j < l.length := by omega
    rw [List.drop_eq_getElem_cons hjl, List.all_cons]
    generalize hp : l[j] = p
    obtain ⟨a, b⟩ := p
    have g1 : idxV Try.prog 22 (.imm .arg 2 (l.map encP)) (.int .i64 (j : Int)) = some (.vptr (.agg [.int .i64 a, .int .i64 b])) := idx_imm u22 z33 (by omega) (by rw [Int.toNat_natCast, List.getElem?_map, List.getElem?_eq_getElem hjl, hp]; rfl)
    have g0 : (j : Int) < ((l.map encP).length : Int) := by simp; omega
    have hml : ((l.map encP).length : Int) = (l.length : Int) := by simp
    obtain ⟨H0, H1, g2, g3, hT1, hq1, hl1, hk1⟩ := e_new hT a b
    have hqn : n + 4 ≤ H.length := hT.len
    obtain ⟨i0, i1⟩ := e_idx H.length
    obtain ⟨la, lb⟩ := e_load hq1
    have hwn : IntKind.i64.wrap ((n : Int) - 1) = (n : Int) - 1 := by rw [wrapI64]; omega
    by_cases ca : 0 ≤ a ∧ a ≤ IntKind.i64.wrap ((n : Int) - 1)
    · by_cases cb : 0 ≤ b ∧ b ≤ IntKind.i64.wrap ((n : Int) - 1)
      · by_cases cab : a = b
        · have hvb : validB (n : Int) (a, b) = false := by rw [validB]; exact decide_eq_false (fun h => h.2.2 cab)
          obtain ⟨H2, k1, k2⟩ := z_store hT1.z
          rw [hvb, Bool.false_and]
          have s1 := nt_l_0 (n : Int) (l.map encP) n H j a b _ H0 H1 _ a H1 _ b H1 _ a _ b H2 g0 g1 g2 g3 i0 la (m49 a 0 _ true (decide_eq_true ca) H1) i1 lb (m49 b 0 _ true (decide_eq_true cb) H1) i0 la i1 lb cab k1
          rw [hml] at s1
          exact ⟨_, _, _, RunsTo.loop_out s1 (by simp) (by kernel_rfl) (by kernel_rfl), .inr ⟨rfl, rfl, bad_res rfl rfl k2⟩⟩
        · have hvb : validB (n : Int) (a, b) = true := by rw [validB]; exact decide_eq_true ⟨by omega, by omega, cab⟩
          rw [hvb, Bool.true_and]
          obtain ⟨x, rfl⟩ : ∃ x : Nat, a = (x : Int) := ⟨a.toNat, by omega⟩
          obtain ⟨y, rfl⟩ : ∃ y : Nat, b = (y : Int) := ⟨b.toNat, by omega⟩
          have hx : x < n := by omega
          have hy : y < n := by omega
          -- the first end
          obtain ⟨rowx, rx⟩ : ∃ r, adj[x]? = some r := ⟨_, List.getElem?_eq_getElem (by rw [hA.len]; exact hx)⟩
          obtain ⟨H4, H5, ap4, st5, hT5, l4, l5, k4, k5, rf4⟩ := hT1.addq rx (by have := (hA.row _ (List.mem_of_getElem? rx)).1; omega) y
          have hA5 := hA.add hx hy
          have q4 : H4[H.length]? = some (bE (x : Int) (y : Int)) := by rw [k4 _ (by omega)]; exact hq1
          have q5 : H5[H.length]? = some (bE (x : Int) (y : Int)) := by rw [k5 _ (by omega) (by omega)]; exact hq1
          -- the other end
          obtain ⟨rowy, ry⟩ : ∃ r, (adjAdd adj x y)[y]? = some r := ⟨_, List.getElem?_eq_getElem (by rw [hA5.len]; exact hy)⟩
          obtain ⟨H6, H7, ap6, st7, hT7, l6, l7, k6, k7, rf6⟩ := hT5.addq ry (by have := (hA5.row _ (List.mem_of_getElem? ry)).1; omega) x
          have q6 : H6[H.length]? = some (bE (x : Int) (y : Int)) := by rw [k6 _ (by omega)]; exact q5
          have hA7 := hA5.add hy hx
          obtain ⟨la4, lb4⟩ := e_load q4
          obtain ⟨la5, lb5⟩ := e_load q5
          obtain ⟨la6, lb6⟩ := e_load q6
          have ln4 : loadV Try.prog H4 55 (.ptr (n + 3) 0 0 1) = some (.sl 1 0 n (some n) n 1) := by
            obtain ⟨mx, h2⟩ := hT1.tr
            exact load_cell (b := n + 3) (off := 0) (by rw [k4 _ (by omega)]; exact h2) rfl rfl a55c i55c rfl
          have ln6 : loadV Try.prog H6 55 (.ptr (n + 3) 0 0 1) = some (.sl 1 0 n (some n) n 1) := by
            obtain ⟨mx, h2⟩ := hT5.tr
            exact load_cell (b := n + 3) (off := 0) (by rw [k6 _ (by omega)]; exact h2) rfl rfl a55c i55c rfl
          have ix : ∀ w, w < n → idxV Try.prog 55 (.sl 1 0 n (some n) n 1) (.int .i64 ((w : Nat) : Int)) = some (.ptr 1 (((w : Nat) : Int).toNat) 0 n) := fun w hw => idx_sl u55b z24b (by omega) (by omega)
          have lr3 := hT1.lrow rx
          have lr5 := hT5.lrow ry
          have s1 := nt_l_1 (n : Int) (l.map encP) n H j (x : Int) (y : Int) _ H0 H1 _ _ H1 _ _ H1 _ _ _ _ _ _ _ _ _ _ _ H4 _ H5 _ _ _ _ _ _ _ H6 _ H7 g0 g1 g2 g3 i0 la (m49 _ 0 _ true (decide_eq_true ca) H1) i1 lb (m49 _ 0 _ true (decide_eq_true cb) H1) i0 la i1 lb cab
            hT1.lnear i0 la hT1.lnear i0 la (ix x hx) (by rw [Int.toNat_natCast]; exact lr3) i1 lb ap4 (ix x hx) (by rw [Int.toNat_natCast]; exact st5)
            (by
              have l1 := hT1.lnear
              have r1 := hT1.rf
              have sm : same (slOf x rowx) (slOf x rowx) = true := by simp [slOf, same]
              simp only [Int.toNat_natCast, l1, la, ln4, la4, lr3, Option.map, recL, r1, rf4, sm]
              simp [same])
            hT5.lnear i1 lb5 hT5.lnear i1 lb5 (ix y hy) (by rw [Int.toNat_natCast]; exact lr5) i0 la5 ap6 (ix y hy) (by rw [Int.toNat_natCast]; exact st7)
            (by
              have l1 := hT5.lnear
              have r1 := hT5.rf
              have sm : same (slOf y rowy) (slOf y rowy) = true := by simp [slOf, same]
              simp only [Int.toNat_natCast, l1, lb5, ln6, lb6, lr5, Option.map, recL, r1, rf6, sm]
              simp [same])
          rw [hml, wrap_succ (by omega)] at s1
          have hg := fun (r k : Nat) (hk : k < n + 4) => gc_get (base := H.length) (r := r) (H := H7) (k := k) (by omega)
          have hT8 : ∀ r, TS n (adjAdd (adjAdd adj x y) y x) (gc H.length r H7) := fun r => hT7.ext (fun k hk => hg r k hk) (by unfold gc; rw [List.length_take]; omega) (sameH_take hT7.rf)
          obtain ⟨x2, E, H', r2, h2⟩ := ih (j + 1) (adjAdd (adjAdd adj x y) y x) _ (by omega) (hT8 _) (by
            have : 2 * (j + 1) = 2 * j + 1 + 1 := by omega
            rw [this]; exact hA7)
          refine ⟨x2, E, H', RunsTo.loop s1 (by kernel_rfl) rfl r2 rfl (by kernel_rfl) (by kernel_rfl), ?_⟩
          have hgo : adjGo ((((x : Int), (y : Int)) : Int × Int) :: l.drop (j + 1)) adj = adjGo (l.drop (j + 1)) (adjAdd (adjAdd adj x y) y x) := by
            simp [adjGo, adjStep]
          rw [hgo]
          exact h2
      · have hvb : validB (n : Int) (a, b) = false := by rw [validB]; exact decide_eq_false (fun h => cb (by omega))
        obtain ⟨H2, k1, k2⟩ := z_store hT1.z
        rw [hvb, Bool.false_and]
        have s1 := nt_l_2 (n : Int) (l.map encP) n H j a b _ H0 H1 _ a H1 _ b H1 H2 g0 g1 g2 g3 i0 la (m49 a 0 _ true (decide_eq_true ca) H1) i1 lb (m49 b 0 _ false (decide_eq_false cb) H1) k1
        rw [hml] at s1
        exact ⟨_, _, _, RunsTo.loop_out s1 (by simp) (by kernel_rfl) (by kernel_rfl), .inr ⟨rfl, rfl, bad_res rfl rfl k2⟩⟩
    · have hvb : validB (n : Int) (a, b) = false := by rw [validB]; exact decide_eq_false (fun h => ca (by omega))
      obtain ⟨H2, k1, k2⟩ := z_store hT1.z
      rw [hvb, Bool.false_and]
      have s1 := nt_l_3 (n : Int) (l.map encP) n H j a b _ H0 H1 _ a H1 H2 g0 g1 g2 g3 i0 la (m49 a 0 _ false (decide_eq_false ca) H1) k1
      rw [hml] at s1
      exact ⟨_, _, _, RunsTo.loop_out s1 (by simp) (by kernel_rfl) (by kernel_rfl), .inr ⟨rfl, rfl, bad_res rfl rfl k2⟩⟩
end Go.Proofs.Ytmhfkhlamnapdaa
end
section
open Go Go.HL
namespace Go.Proofs.Ytmhfkhlamnapdaa
theorem info24n : (Try.prog.info? 24).map (fun i => (i.size, i.bytes, nilZero i)) = some (1, 24, true) := by kernel_rfl
theorem sls_init (n : Nat) : (List.range n).map (fun j => HV.sl (1 + 1 + j) 0 0 none 0 1) = slsF (List.replicate n []) := by
  apply List.ext_getElem?
  intro i
  rw [slsF_get, List.getElem?_map, List.getElem?_replicate]
  by_cases h : i < n
  · rw [List.getElem?_range h, if_pos h]; rfl
  · rw [List.getElem?_eq_none (by simp; omega), if_neg h]; rfl
theorem makeRows {n : Nat} (hn : n ≤ 1000) (B0 : Blk) : makeV Try.prog true 55 (.int .i64 (n : Int)) (.int .i64 (n : Int)) [B0] = some (.sl 1 0 n (some n) n 1, [B0] ++ [.arr 1 (slsF (List.replicate n [])) true (1 + 1 + n)] ++ List.replicate n (bNs [])) := by
  have hu : Try.prog.underlying 55 = some (.slice 24) := u55b
  have hi := info24n
  cases hi2 : Try.prog.info? 24 with
  | none => rw [hi2] at hi; cases hi
  | some i =>
    rw [hi2] at hi
    simp only [Option.map_some, Option.some.injEq, Prod.mk.injEq] at hi
    obtain ⟨h1, h2, h3⟩ := hi
    have hz : tySize Try.prog 3 = some 1 := z3b
    have hu2 : Try.prog.underlying 24 = some (.slice 3) := u24b
    simp only [makeV, hu, hi2, hu2, hz, h1, h2, h3, Int.toNat_natCast, List.length_singleton, sls_init]
    rw [if_pos ⟨by omega, by omega, by rw [show roomMax = 70368744177664 from rfl]; omega⟩, if_pos ⟨trivial, trivial⟩]
    rfl
theorem ts_init {n : Nat} (hn : n ≤ 1000) : ∃ H0 H1 H2 H3, makeV Try.prog true 55 (.int .i64 (n : Int)) (.int .i64 (n : Int)) [Blk.arr 2 [Zt] true 0] = some (.sl 1 0 n (some n) n 1, H0) ∧ some (HV.map H0.length, H0 ++ [Blk.map [] [] 0]) = some (HV.map (n + 2), H1) ∧ some (newV Zt H1) = some (HV.ptr (n + 3) 0 0 1, H2) ∧ storeV Try.prog H2 72 (.ptr (n + 3) 0 0 1) (trV n) = some H3 ∧ TS n (List.replicate n []) H3 := by
  have l0 : ([Blk.arr 2 [Zt] true 0] ++ [Blk.arr 1 (slsF (List.replicate n [])) true (1 + 1 + n)] ++ List.replicate n (bNs [])).length = n + 2 := by rw [List.length_append, List.length_append, List.length_replicate]; simp only [List.length_singleton]; omega
  generalize hH0 : [Blk.arr 2 [Zt] true 0] ++ [Blk.arr 1 (slsF (List.replicate n [])) true (1 + 1 + n)] ++ List.replicate n (bNs []) = H0 at l0
  have k0 : H0[0]? = some (Blk.arr 2 [Zt] true 0) := by rw [← hH0]; rfl
  have k1 : H0[1]? = some (Blk.arr 1 (slsF (List.replicate n [])) true (1 + 1 + n)) := by rw [← hH0]; rfl
  have kr : ∀ j, j < n → H0[2 + j]? = some (bNs []) := fun j hj => by
    rw [← hH0, List.getElem?_append_right (by simp)]
    simp only [List.length_append, List.length_singleton]
    rw [List.getElem?_replicate, if_pos (by omega)]
  have rf0 : sameH H0 H0 = true := by
    rw [sameH_iff, ← hH0]
    intro B hB
    simp only [List.mem_append, List.mem_singleton, List.mem_replicate] at hB
    rcases hB with (rfl | rfl) | ⟨_, rfl⟩
    · rfl
    · exact same_sls _ _ _
    · exact same_N []
  have lH1 : (H0 ++ [Blk.map [] [] 0]).length = n + 3 := by simp [l0]
  have hb : ((H0 ++ [Blk.map [] [] 0]) ++ [Blk.arr 2 [Zt] true 0])[n + 3]? = some (Blk.arr 2 [Zt] true 0) := by rw [List.getElem?_append_right (by omega), lH1]; simp
  have hst : storeV Try.prog ((H0 ++ [Blk.map [] [] 0]) ++ [Blk.arr 2 [Zt] true 0]) 72 (.ptr (n + 3) 0 0 1) (trV n) = some (((H0 ++ [Blk.map [] [] 0]) ++ [Blk.arr 2 [Zt] true 0]).set (n + 3) (Blk.arr 2 [trV n] true (max 0 (bnd (trV n))))) := by
    have hz := s72
    simp only [storeV, hb, cellsOf, hz, List.length_singleton, List.length_cons, List.length_nil]
    rw [if_pos ⟨trivial, trivial⟩]
    rfl
  refine ⟨_, _, _, _, by rw [makeRows hn, hH0], by rw [l0], by rw [newV, lH1]; rfl, hst, ?_⟩
  have gk : ∀ k, k < n + 3 → (((H0 ++ [Blk.map [] [] 0]) ++ [Blk.arr 2 [Zt] true 0]).set (n + 3) (Blk.arr 2 [trV n] true (max 0 (bnd (trV n)))))[k]? = (H0 ++ [Blk.map [] [] 0])[k]? := fun k hk => by
    rw [List.getElem?_set_ne (by omega), List.getElem?_append_left (by omega)]
  have gk2 : ∀ k, k < n + 2 → (((H0 ++ [Blk.map [] [] 0]) ++ [Blk.arr 2 [Zt] true 0]).set (n + 3) (Blk.arr 2 [trV n] true (max 0 (bnd (trV n)))))[k]? = H0[k]? := fun k hk => by
    rw [gk k (by omega), List.getElem?_append_left (by omega)]
  refine ⟨by simp [l0], by rw [gk2 0 (by omega)]; exact k0, ⟨_, by rw [gk2 1 (by omega)]; exact k1⟩, fun j r hj => ?_, by rw [gk _ (by omega), List.getElem?_append_right (by omega), l0]; simp, ⟨_, by rw [List.getElem?_set_self (by simp [l0])]⟩, by simp, ?_⟩
  · rw [List.getElem?_replicate] at hj
    split at hj
    · rename_i h
      cases hj
      rw [gk2 _ (by omega)]; exact kr j h
    · cases hj
  · refine sameH_set (sameH_app (sameH_app rf0 rfl) rfl) ?_
    simp [sameH, sameL, same]
/-- What the tree is to a caller. -/
def rowO (r : List Nat) : HV := .imm .own 1 (r.map encN)
def treeV (adj : List (List Nat)) : HV := .agg [.own 1 (adj.map rowO), .omap [] []]
theorem toArg_nats (H : Heap) (d : Nat) : ∀ (q : List Nat), mapO (toArg H (d + 1)) (q.map encN) = some (q.map encN)
  | [] => rfl
  | a :: q => by
    have e : toArg H (d + 1) (encN a) = some (encN a) := rfl
    simp only [List.map_cons, mapO, e, toArg_nats H d q]
theorem toArg_row {n : Nat} {adj : List (List Nat)} {H : Heap} (h : TS n adj H) {j : Nat} {r : List Nat} (hj : adj[j]? = some r) (d : Nat) : toArg H (d + 2) (slOf j r) = some (encR r) := by
  have e : toArg H (d + 2) (slOf j r) = if r.length = 0 then some (.imm .arg 1 []) else match view H (2 + j) 0 r.length r.length 1 with | some l => (match mapO (toArg H (d + 1)) l with | some l => some (.imm .arg 1 l) | none => none) | none => none := rfl
  rw [e]
  split
  · rename_i h0
    rw [List.length_eq_zero_iff.1 h0]; rfl
  · have hv : view H (2 + j) 0 r.length r.length 1 = some (r.map encN) := by
      simp only [view, h.rows j r hj, List.length_map]
      rw [if_pos ⟨trivial, by omega, trivial⟩]
      simp [List.take_of_length_le]
    rw [hv]
    simp only [toArg_nats]
    rfl
theorem mapO_all {f : HV → Option HV} {g : List Nat → HV} : ∀ {l : List HV} {adj : List (List Nat)}, l.length = adj.length → (∀ (j : Nat) v r, l[j]? = some v → adj[j]? = some r → f v = some (g r)) → mapO f l = some (adj.map g)
  | [], [], _, _ => rfl
  | v :: l, r :: adj, hl, h => by
    have h0 := h 0 v r rfl rfl
    have ih := mapO_all (f := f) (g := g) (l := l) (adj := adj) (by simpa using hl) (fun j v r hv hr => h (j + 1) v r hv hr)
    simp only [mapO, h0, ih, List.map_cons]
structure TR (n : Nat) (adj : List (List Nat)) (H : Heap) : Prop where
  near : ∃ mx, H[1]? = some (.arr 1 (slsF adj) true mx)
  rows : ∀ j r, adj[j]? = some r → H[2 + j]? = some (bNs r)
  mp : H[n + 2]? = some (.map [] [] 0)
  al : adj.length = n
theorem TS.tr' {n : Nat} {adj : List (List Nat)} {H : Heap} (h : TS n adj H) : TR n adj H := ⟨h.near, h.rows, h.mp, h.al⟩
theorem TR.set0 {n : Nat} {adj : List (List Nat)} {H : Heap} (h : TR n adj H) (B : Blk) : TR n adj (H.set 0 B) := by
  obtain ⟨mx, h1⟩ := h.near
  exact ⟨⟨mx, by rw [List.getElem?_set_ne (by omega)]; exact h1⟩, fun j r hj => by rw [List.getElem?_set_ne (by omega)]; exact h.rows j r hj, by rw [List.getElem?_set_ne (by omega)]; exact h.mp, h.al⟩
theorem view_near {n : Nat} {adj : List (List Nat)} {H : Heap} (h : TR n adj H) : view H 1 0 n n 1 = some (slsF adj) := by
  obtain ⟨mx, h1⟩ := h.near
  simp only [view, h1, slsF_len, h.al]
  rw [if_pos ⟨trivial, by omega, trivial⟩, List.drop_zero, List.take_of_length_le (by rw [slsF_len, h.al]; omega)]
theorem toArg_tree {n : Nat} (h0 : 0 < n) {adj : List (List Nat)} {H : Heap} (h : TS n adj H) : toArg H 6 (trV n) = some (.agg [.imm .arg 1 (adj.map encR), .imap .arg [] []]) := by
  have e : toArg H 6 (trV n) = match mapO (toArg H 5) [.sl 1 0 n (some n) n 1, .map (n + 2)] with | some l => some (.agg l) | none => none := rfl
  have e1 : toArg H 5 (.sl 1 0 n (some n) n 1) = some (.imm .arg 1 (adj.map encR)) := by
    have e : toArg H 5 (.sl 1 0 n (some n) n 1) = if n = 0 then some (.imm .arg 1 []) else match view H 1 0 n n 1 with | some l => (match mapO (toArg H 4) l with | some l => some (.imm .arg 1 l) | none => none) | none => none := rfl
    rw [e, if_neg (by omega), view_near h.tr']
    have := mapO_all (f := toArg H 4) (g := encR) (l := slsF adj) (adj := adj) (slsF_len adj) (fun j v r hv hr => by
      rw [slsF_get, hr] at hv
      cases hv
      exact toArg_row h hr 2)
    simp only [this]
  have e2 : toArg H 5 (.map (n + 2)) = some (.imap .arg [] []) := by
    have e : toArg H 5 (.map (n + 2)) = match H[n + 2]? with | some (.map ks vs _) => (match mapO (toArg H 4) ks, mapO (toArg H 4) vs with | some ks, some vs => some (.imap .arg ks vs) | _, _ => none) | _ => none := rfl
    rw [e, h.mp]; rfl
  rw [e]
  simp only [mapO, e1, e2]
theorem toRes_tree {n : Nat} (h0 : 0 < n) {adj : List (List Nat)} {H : Heap} (h : TR n adj H) (b : Bool) : toRes H false (.tuple [trV n, .bool b]) = some (.tuple [treeV adj, .bool b]) := by
  obtain ⟨mx, h1⟩ := h.near
  have ho : ownedAll H false (.tuple [trV n, .bool b]) = [1, n + 2] := by
    simp only [ownedAll, List.flatMap_cons, List.flatMap_nil, cellsOf, owned, h1, h.mp]
    rfl
  have hr : resCell H [1, n + 2] false (.sl 1 0 n (some n) n 1) = some (.own 1 (adj.map rowO)) := by
    simp only [resCell, h1, if_true, view_near h]
    have := mapO_all (f := resElem H [1, n + 2] false) (g := rowO) (l := slsF adj) (adj := adj) (slsF_len adj) (fun j v r hv hr => by
      rw [slsF_get, hr] at hv
      cases hv
      have hjn : j < n := by have := lt_of_get hr; rw [h.al] at this; exact this
      have e : resElem H [1, n + 2] false (slOf j r) = if r.length = 0 then some (.imm .own 1 []) else if [1, n + 2].contains (2 + j) then none else match view H (2 + j) 0 r.length r.length 1 with | some l => (match mapO (frz H [1, n + 2] 3) l with | some l => some (.imm .own 1 l) | none => none) | none => none := rfl
      rw [e]
      split
      · rename_i h0
        rw [List.length_eq_zero_iff.1 h0]; rfl
      · have hc : [1, n + 2].contains (2 + j) = false := by simp; omega
        have hv : view H (2 + j) 0 r.length r.length 1 = some (r.map encN) := by
          simp only [view, h.rows j r hr, List.length_map]
          rw [if_pos ⟨trivial, by omega, trivial⟩]
          simp [List.take_of_length_le]
        rw [if_neg (by rw [hc]; simp), hv]
        have hf : mapO (frz H [1, n + 2] 3) (r.map encN) = some (r.map encN) := mapO_self (f := frz H [1, n + 2] 3) (g := encN) (fun k => frz_int 3 (k : Int)) r
        simp only [hf]
        rfl)
    simp only [this]
  have hm : resCell H [1, n + 2] false (.map (n + 2)) = some (.omap [] []) := by
    simp only [resCell, h.mp]; rfl
  have hnd : ([1, n + 2] : List Nat).Nodup := by simp
  simp only [toRes, ho, hnd, if_true]
  have e1 : resVal H [1, n + 2] false (trV n) = some (treeV adj) := by
    simp only [resVal, mapO, hr, hm]; rfl
  have e2 : resVal H [1, n + 2] false (.bool b) = some (.bool b) := rfl
  simp only [mapO, e1, e2]
end Go.Proofs.Ytmhfkhlamnapdaa
end
section
open Go Go.HL
namespace Go.Proofs.Ytmhfkhlamnapdaa
set_option maxRecDepth 100000
noncomputable def B18 : Code := Try.f18.body.getD .skip
abbrev env18 (v0 v1 v4 v5 v6 v7 v8 v9 : HV) : Env := [(0, v0), (1, v1), (4, v4), (5, v5), (6, v6), (7, v7), (8, v8), (9, v9)]
theorem tr_a_0 (n : Int) (lc : List HV)   : RunsTo Try.prog polO 18 (sub [0] B18) [(0, .int .i64 n), (1, .imm .arg 2 lc)] [] (.normal) (polO.keys 18) (env18 (.int .i64 n) (.imm .arg 2 lc) (.bool false) .undef .undef .undef .undef .undef) [] :=
  RunsTo.hint 1 60 [] fun kf hk => by
    obtain ⟨kf, rfl⟩ : ∃ n, kf = n + 1 := ⟨kf - 1, by omega⟩
    exact ⟨[], by kernel_rfl, Obls.nil⟩
theorem tr_b_0 (n : Int) (lc : List HV)  (g0 : n < 1) : RunsTo Try.prog polO 18 (sub [1, 0] B18) (env18 (.int .i64 n) (.imm .arg 2 lc) (.bool false) .undef .undef .undef .undef .undef) [] (.ret) (polO.keys 18) (env18 (.int .i64 n) (.imm .arg 2 lc) (.bool false) .undef .undef .undef .undef .undef) [] :=
  RunsTo.hint 1 60 [⟨1, 1, .bool true, []⟩] fun kf hk => by
    obtain ⟨kf, rfl⟩ : ∃ n, kf = n + 1 := ⟨kf - 1, by omega⟩
    exact ⟨[some (HV.bool (decide (n < 1)), ([] : Heap)) = some (.bool true, [])], by kernel_rfl, Obls.cons (hintB (decide_eq_true g0)) Obls.nil⟩
theorem tr_b_1 (n : Int) (lc : List HV)  (g0 : ¬ (n < 1)) (g1 : 30 < n) : RunsTo Try.prog polO 18 (sub [1, 0] B18) (env18 (.int .i64 n) (.imm .arg 2 lc) (.bool false) .undef .undef .undef .undef .undef) [] (.ret) (polO.keys 18) (env18 (.int .i64 n) (.imm .arg 2 lc) (.bool false) .undef .undef .undef .undef .undef) [] :=
  RunsTo.hint 1 60 [⟨1, 1, .bool false, []⟩, ⟨1, 4, .bool true, []⟩] fun kf hk => by
    obtain ⟨kf, rfl⟩ : ∃ n, kf = n + 1 := ⟨kf - 1, by omega⟩
    exact ⟨[some (HV.bool (decide (n < 1)), ([] : Heap)) = some (.bool false, []), some (HV.bool (decide (30 < n)), ([] : Heap)) = some (.bool true, [])], by kernel_rfl, Obls.cons (hintB (decide_eq_false g0)) (Obls.cons (hintB (decide_eq_true g1)) Obls.nil)⟩
theorem tr_b_2 (n : Int) (lc : List HV)  (g0 : ¬ (n < 1)) (g1 : ¬ (30 < n)) (g2 : (lc.length : Int) = IntKind.i64.wrap (n - 1)) : RunsTo Try.prog polO 18 (sub [1, 0] B18) (env18 (.int .i64 n) (.imm .arg 2 lc) (.bool false) .undef .undef .undef .undef .undef) [] (.normal) (polO.keys 18) (env18 (.int .i64 n) (.imm .arg 2 lc) (.bool false) .undef .undef .undef .undef .undef) [] :=
  RunsTo.hint 1 60 [⟨1, 1, .bool false, []⟩, ⟨1, 4, .bool false, []⟩, ⟨1, 11, .bool false, []⟩] fun kf hk => by
    obtain ⟨kf, rfl⟩ : ∃ n, kf = n + 1 := ⟨kf - 1, by omega⟩
    exact ⟨[some (HV.bool (decide (n < 1)), ([] : Heap)) = some (.bool false, []), some (HV.bool (decide (30 < n)), ([] : Heap)) = some (.bool false, []), some (HV.bool (!decide ((lc.length : Int) = IntKind.i64.wrap (n - 1))), ([] : Heap)) = some (.bool false, [])], by kernel_rfl, Obls.cons (hintB (decide_eq_false g0)) (Obls.cons (hintB (decide_eq_false g1)) (Obls.cons (hintB (congrArg not (decide_eq_true g2))) Obls.nil))⟩
theorem tr_b_3 (n : Int) (lc : List HV)  (g0 : ¬ (n < 1)) (g1 : ¬ (30 < n)) (g2 : ¬ ((lc.length : Int) = IntKind.i64.wrap (n - 1))) : RunsTo Try.prog polO 18 (sub [1, 0] B18) (env18 (.int .i64 n) (.imm .arg 2 lc) (.bool false) .undef .undef .undef .undef .undef) [] (.ret) (polO.keys 18) (env18 (.int .i64 n) (.imm .arg 2 lc) (.bool false) .undef .undef .undef .undef .undef) [] :=
  RunsTo.hint 1 60 [⟨1, 1, .bool false, []⟩, ⟨1, 4, .bool false, []⟩, ⟨1, 11, .bool true, []⟩] fun kf hk => by
    obtain ⟨kf, rfl⟩ : ∃ n, kf = n + 1 := ⟨kf - 1, by omega⟩
    exact ⟨[some (HV.bool (decide (n < 1)), ([] : Heap)) = some (.bool false, []), some (HV.bool (decide (30 < n)), ([] : Heap)) = some (.bool false, []), some (HV.bool (!decide ((lc.length : Int) = IntKind.i64.wrap (n - 1))), ([] : Heap)) = some (.bool true, [])], by kernel_rfl, Obls.cons (hintB (decide_eq_false g0)) (Obls.cons (hintB (decide_eq_false g1)) (Obls.cons (hintB (congrArg not (decide_eq_false g2))) Obls.nil))⟩
theorem tr_c_0 (n : Int) (lc : List HV)   : RunsTo Try.prog polO 18 (sub [1, 1, 0, 0] B18) (env18 (.int .i64 n) (.imm .arg 2 lc) (.bool false) .undef .undef .undef .undef .undef) [] (.normal) (polO.keys 18) (env18 (.int .i64 n) (.imm .arg 2 lc) (.bool false) (.int .i64 0) .undef .undef .undef .undef) [] :=
  RunsTo.hint 1 60 [] fun kf hk => by
    obtain ⟨kf, rfl⟩ : ∃ n, kf = n + 1 := ⟨kf - 1, by omega⟩
    exact ⟨[], by kernel_rfl, Obls.nil⟩
theorem tr_l_0 (n : Int) (lc : List HV) (j : Nat) (x0 : Int) (x1 : Int) (x2 : Int) (x3 : Int) (g0 : (j : Int) < (lc.length : Int)) (g1 : idxV Try.prog 22 (.imm .arg 2 lc) (.int .i64 (j : Int)) = some (.vptr (.agg [.int .i64 x0, .int .i64 x1]))) (g2 : idxV Try.prog 22 (.imm .arg 2 lc) (.int .i64 (j : Int)) = some (.vptr (.agg [.int .i64 x2, .int .i64 x3]))) (g3 : x0 < 0) : RunsTo Try.prog polO 18 (sub [1, 1, 0, 1, 0, 0] B18) (env18 (.int .i64 n) (.imm .arg 2 lc) (.bool false) (.int .i64 (j : Int)) .undef .undef .undef .undef) [] (.ret) (polO.keys 18) (env18 (.int .i64 n) (.imm .arg 2 lc) (.bool false) (.int .i64 (j : Int)) (.int .i64 x0) (.int .i64 x3) .undef .undef) [] :=
  RunsTo.hint 1 60 [⟨4, 3, .bool true, []⟩, ⟨6, 2, .vptr (.agg [.int .i64 x0, .int .i64 x1]), []⟩, ⟨6, 7, .vptr (.agg [.int .i64 x2, .int .i64 x3]), []⟩, ⟨7, 1, .bool true, []⟩] fun kf hk => by
    obtain ⟨kf, rfl⟩ : ∃ n, kf = n + 1 := ⟨kf - 1, by omega⟩
    exact ⟨[some (HV.bool (decide ((j : Int) < (lc.length : Int))), ([] : Heap)) = some (.bool true, []), (idxV Try.prog 22 (.imm .arg 2 lc) (.int .i64 (j : Int))).map (fun v => (v, ([] : Heap))) = some (.vptr (.agg [.int .i64 x0, .int .i64 x1]), []), (idxV Try.prog 22 (.imm .arg 2 lc) (.int .i64 (j : Int))).map (fun v => (v, ([] : Heap))) = some (.vptr (.agg [.int .i64 x2, .int .i64 x3]), []), some (HV.bool (decide (x0 < 0)), ([] : Heap)) = some (.bool true, [])], by kernel_rfl, Obls.cons (hintB (decide_eq_true g0)) (Obls.cons (hintOp g1) (Obls.cons (hintOp g2) (Obls.cons (hintB (decide_eq_true g3)) Obls.nil)))⟩
theorem tr_l_1 (n : Int) (lc : List HV) (j : Nat) (x0 : Int) (x1 : Int) (x2 : Int) (x3 : Int) (g0 : (j : Int) < (lc.length : Int)) (g1 : idxV Try.prog 22 (.imm .arg 2 lc) (.int .i64 (j : Int)) = some (.vptr (.agg [.int .i64 x0, .int .i64 x1]))) (g2 : idxV Try.prog 22 (.imm .arg 2 lc) (.int .i64 (j : Int)) = some (.vptr (.agg [.int .i64 x2, .int .i64 x3]))) (g3 : ¬ (x0 < 0)) (g4 : n ≤ x0) : RunsTo Try.prog polO 18 (sub [1, 1, 0, 1, 0, 0] B18) (env18 (.int .i64 n) (.imm .arg 2 lc) (.bool false) (.int .i64 (j : Int)) .undef .undef .undef .undef) [] (.ret) (polO.keys 18) (env18 (.int .i64 n) (.imm .arg 2 lc) (.bool false) (.int .i64 (j : Int)) (.int .i64 x0) (.int .i64 x3) .undef .undef) [] :=
  RunsTo.hint 1 60 [⟨4, 3, .bool true, []⟩, ⟨6, 2, .vptr (.agg [.int .i64 x0, .int .i64 x1]), []⟩, ⟨6, 7, .vptr (.agg [.int .i64 x2, .int .i64 x3]), []⟩, ⟨7, 1, .bool false, []⟩, ⟨7, 5, .bool true, []⟩] fun kf hk => by
    obtain ⟨kf, rfl⟩ : ∃ n, kf = n + 1 := ⟨kf - 1, by omega⟩
    exact ⟨[some (HV.bool (decide ((j : Int) < (lc.length : Int))), ([] : Heap)) = some (.bool true, []), (idxV Try.prog 22 (.imm .arg 2 lc) (.int .i64 (j : Int))).map (fun v => (v, ([] : Heap))) = some (.vptr (.agg [.int .i64 x0, .int .i64 x1]), []), (idxV Try.prog 22 (.imm .arg 2 lc) (.int .i64 (j : Int))).map (fun v => (v, ([] : Heap))) = some (.vptr (.agg [.int .i64 x2, .int .i64 x3]), []), some (HV.bool (decide (x0 < 0)), ([] : Heap)) = some (.bool false, []), some (HV.bool (decide (n ≤ x0)), ([] : Heap)) = some (.bool true, [])], by kernel_rfl, Obls.cons (hintB (decide_eq_true g0)) (Obls.cons (hintOp g1) (Obls.cons (hintOp g2) (Obls.cons (hintB (decide_eq_false g3)) (Obls.cons (hintB (decide_eq_true g4)) Obls.nil))))⟩
theorem tr_l_2 (n : Int) (lc : List HV) (j : Nat) (x0 : Int) (x1 : Int) (x2 : Int) (x3 : Int) (g0 : (j : Int) < (lc.length : Int)) (g1 : idxV Try.prog 22 (.imm .arg 2 lc) (.int .i64 (j : Int)) = some (.vptr (.agg [.int .i64 x0, .int .i64 x1]))) (g2 : idxV Try.prog 22 (.imm .arg 2 lc) (.int .i64 (j : Int)) = some (.vptr (.agg [.int .i64 x2, .int .i64 x3]))) (g3 : ¬ (x0 < 0)) (g4 : ¬ (n ≤ x0)) (g5 : x3 < 0) : RunsTo Try.prog polO 18 (sub [1, 1, 0, 1, 0, 0] B18) (env18 (.int .i64 n) (.imm .arg 2 lc) (.bool false) (.int .i64 (j : Int)) .undef .undef .undef .undef) [] (.ret) (polO.keys 18) (env18 (.int .i64 n) (.imm .arg 2 lc) (.bool false) (.int .i64 (j : Int)) (.int .i64 x0) (.int .i64 x3) .undef .undef) [] :=
  RunsTo.hint 1 60 [⟨4, 3, .bool true, []⟩, ⟨6, 2, .vptr (.agg [.int .i64 x0, .int .i64 x1]), []⟩, ⟨6, 7, .vptr (.agg [.int .i64 x2, .int .i64 x3]), []⟩, ⟨7, 1, .bool false, []⟩, ⟨7, 5, .bool false, []⟩, ⟨7, 9, .bool true, []⟩] fun kf hk => by
    obtain ⟨kf, rfl⟩ : ∃ n, kf = n + 1 := ⟨kf - 1, by omega⟩
    exact ⟨[some (HV.bool (decide ((j : Int) < (lc.length : Int))), ([] : Heap)) = some (.bool true, []), (idxV Try.prog 22 (.imm .arg 2 lc) (.int .i64 (j : Int))).map (fun v => (v, ([] : Heap))) = some (.vptr (.agg [.int .i64 x0, .int .i64 x1]), []), (idxV Try.prog 22 (.imm .arg 2 lc) (.int .i64 (j : Int))).map (fun v => (v, ([] : Heap))) = some (.vptr (.agg [.int .i64 x2, .int .i64 x3]), []), some (HV.bool (decide (x0 < 0)), ([] : Heap)) = some (.bool false, []), some (HV.bool (decide (n ≤ x0)), ([] : Heap)) = some (.bool false, []), some (HV.bool (decide (x3 < 0)), ([] : Heap)) = some (.bool true, [])], by kernel_rfl, Obls.cons (hintB (decide_eq_true g0)) (Obls.cons (hintOp g1) (Obls.cons (hintOp g2) (Obls.cons (hintB (decide_eq_false g3)) (Obls.cons (hintB (decide_eq_false g4)) (Obls.cons (hintB (decide_eq_true g5)) Obls.nil)))))⟩
theorem tr_l_3 (n : Int) (lc : List HV) (j : Nat) (x0 : Int) (x1 : Int) (x2 : Int) (x3 : Int) (g0 : (j : Int) < (lc.length : Int)) (g1 : idxV Try.prog 22 (.imm .arg 2 lc) (.int .i64 (j : Int)) = some (.vptr (.agg [.int .i64 x0, .int .i64 x1]))) (g2 : idxV Try.prog 22 (.imm .arg 2 lc) (.int .i64 (j : Int)) = some (.vptr (.agg [.int .i64 x2, .int .i64 x3]))) (g3 : ¬ (x0 < 0)) (g4 : ¬ (n ≤ x0)) (g5 : ¬ (x3 < 0)) (g6 : n ≤ x3) : RunsTo Try.prog polO 18 (sub [1, 1, 0, 1, 0, 0] B18) (env18 (.int .i64 n) (.imm .arg 2 lc) (.bool false) (.int .i64 (j : Int)) .undef .undef .undef .undef) [] (.ret) (polO.keys 18) (env18 (.int .i64 n) (.imm .arg 2 lc) (.bool false) (.int .i64 (j : Int)) (.int .i64 x0) (.int .i64 x3) .undef .undef) [] :=
  RunsTo.hint 1 60 [⟨4, 3, .bool true, []⟩, ⟨6, 2, .vptr (.agg [.int .i64 x0, .int .i64 x1]), []⟩, ⟨6, 7, .vptr (.agg [.int .i64 x2, .int .i64 x3]), []⟩, ⟨7, 1, .bool false, []⟩, ⟨7, 5, .bool false, []⟩, ⟨7, 9, .bool false, []⟩, ⟨7, 14, .bool true, []⟩] fun kf hk => by
    obtain ⟨kf, rfl⟩ : ∃ n, kf = n + 1 := ⟨kf - 1, by omega⟩
    exact ⟨[some (HV.bool (decide ((j : Int) < (lc.length : Int))), ([] : Heap)) = some (.bool true, []), (idxV Try.prog 22 (.imm .arg 2 lc) (.int .i64 (j : Int))).map (fun v => (v, ([] : Heap))) = some (.vptr (.agg [.int .i64 x0, .int .i64 x1]), []), (idxV Try.prog 22 (.imm .arg 2 lc) (.int .i64 (j : Int))).map (fun v => (v, ([] : Heap))) = some (.vptr (.agg [.int .i64 x2, .int .i64 x3]), []), some (HV.bool (decide (x0 < 0)), ([] : Heap)) = some (.bool false, []), some (HV.bool (decide (n ≤ x0)), ([] : Heap)) = some (.bool false, []), some (HV.bool (decide (x3 < 0)), ([] : Heap)) = some (.bool false, []), some (HV.bool (decide (n ≤ x3)), ([] : Heap)) = some (.bool true, [])], by kernel_rfl, Obls.cons (hintB (decide_eq_true g0)) (Obls.cons (hintOp g1) (Obls.cons (hintOp g2) (Obls.cons (hintB (decide_eq_false g3)) (Obls.cons (hintB (decide_eq_false g4)) (Obls.cons (hintB (decide_eq_false g5)) (Obls.cons (hintB (decide_eq_true g6)) Obls.nil))))))⟩
theorem tr_l_4 (n : Int) (lc : List HV) (j : Nat) (x0 : Int) (x1 : Int) (x2 : Int) (x3 : Int) (g0 : (j : Int) < (lc.length : Int)) (g1 : idxV Try.prog 22 (.imm .arg 2 lc) (.int .i64 (j : Int)) = some (.vptr (.agg [.int .i64 x0, .int .i64 x1]))) (g2 : idxV Try.prog 22 (.imm .arg 2 lc) (.int .i64 (j : Int)) = some (.vptr (.agg [.int .i64 x2, .int .i64 x3]))) (g3 : ¬ (x0 < 0)) (g4 : ¬ (n ≤ x0)) (g5 : ¬ (x3 < 0)) (g6 : ¬ (n ≤ x3)) (g7 : x0 = x3) : RunsTo Try.prog polO 18 (sub [1, 1, 0, 1, 0, 0] B18) (env18 (.int .i64 n) (.imm .arg 2 lc) (.bool false) (.int .i64 (j : Int)) .undef .undef .undef .undef) [] (.ret) (polO.keys 18) (env18 (.int .i64 n) (.imm .arg 2 lc) (.bool false) (.int .i64 (j : Int)) (.int .i64 x0) (.int .i64 x3) .undef .undef) [] :=
  RunsTo.hint 1 60 [⟨4, 3, .bool true, []⟩, ⟨6, 2, .vptr (.agg [.int .i64 x0, .int .i64 x1]), []⟩, ⟨6, 7, .vptr (.agg [.int .i64 x2, .int .i64 x3]), []⟩, ⟨7, 1, .bool false, []⟩, ⟨7, 5, .bool false, []⟩, ⟨7, 9, .bool false, []⟩, ⟨7, 14, .bool false, []⟩, ⟨7, 19, .bool true, []⟩] fun kf hk => by
    obtain ⟨kf, rfl⟩ : ∃ n, kf = n + 1 := ⟨kf - 1, by omega⟩
    exact ⟨[some (HV.bool (decide ((j : Int) < (lc.length : Int))), ([] : Heap)) = some (.bool true, []), (idxV Try.prog 22 (.imm .arg 2 lc) (.int .i64 (j : Int))).map (fun v => (v, ([] : Heap))) = some (.vptr (.agg [.int .i64 x0, .int .i64 x1]), []), (idxV Try.prog 22 (.imm .arg 2 lc) (.int .i64 (j : Int))).map (fun v => (v, ([] : Heap))) = some (.vptr (.agg [.int .i64 x2, .int .i64 x3]), []), some (HV.bool (decide (x0 < 0)), ([] : Heap)) = some (.bool false, []), some (HV.bool (decide (n ≤ x0)), ([] : Heap)) = some (.bool false, []), some (HV.bool (decide (x3 < 0)), ([] : Heap)) = some (.bool false, []), some (HV.bool (decide (n ≤ x3)), ([] : Heap)) = some (.bool false, []), some (HV.bool (decide (x0 = x3)), ([] : Heap)) = some (.bool true, [])], by kernel_rfl, Obls.cons (hintB (decide_eq_true g0)) (Obls.cons (hintOp g1) (Obls.cons (hintOp g2) (Obls.cons (hintB (decide_eq_false g3)) (Obls.cons (hintB (decide_eq_false g4)) (Obls.cons (hintB (decide_eq_false g5)) (Obls.cons (hintB (decide_eq_false g6)) (Obls.cons (hintB (decide_eq_true g7)) Obls.nil)))))))⟩
theorem tr_l_5 (n : Int) (lc : List HV) (j : Nat) (x0 : Int) (x1 : Int) (x2 : Int) (x3 : Int) (g0 : (j : Int) < (lc.length : Int)) (g1 : idxV Try.prog 22 (.imm .arg 2 lc) (.int .i64 (j : Int)) = some (.vptr (.agg [.int .i64 x0, .int .i64 x1]))) (g2 : idxV Try.prog 22 (.imm .arg 2 lc) (.int .i64 (j : Int)) = some (.vptr (.agg [.int .i64 x2, .int .i64 x3]))) (g3 : ¬ (x0 < 0)) (g4 : ¬ (n ≤ x0)) (g5 : ¬ (x3 < 0)) (g6 : ¬ (n ≤ x3)) (g7 : ¬ (x0 = x3)) : RunsTo Try.prog polO 18 (sub [1, 1, 0, 1, 0, 0] B18) (env18 (.int .i64 n) (.imm .arg 2 lc) (.bool false) (.int .i64 (j : Int)) .undef .undef .undef .undef) [] (.normal) (polO.keys 18) (env18 (.int .i64 n) (.imm .arg 2 lc) (.bool false) (.int .i64 (IntKind.i64.wrap ((j : Int) + 1))) (.int .i64 x0) (.int .i64 x3) .undef .undef) [] :=
  RunsTo.hint 1 60 [⟨4, 3, .bool true, []⟩, ⟨6, 2, .vptr (.agg [.int .i64 x0, .int .i64 x1]), []⟩, ⟨6, 7, .vptr (.agg [.int .i64 x2, .int .i64 x3]), []⟩, ⟨7, 1, .bool false, []⟩, ⟨7, 5, .bool false, []⟩, ⟨7, 9, .bool false, []⟩, ⟨7, 14, .bool false, []⟩, ⟨7, 19, .bool false, []⟩] fun kf hk => by
    obtain ⟨kf, rfl⟩ : ∃ n, kf = n + 1 := ⟨kf - 1, by omega⟩
    exact ⟨[some (HV.bool (decide ((j : Int) < (lc.length : Int))), ([] : Heap)) = some (.bool true, []), (idxV Try.prog 22 (.imm .arg 2 lc) (.int .i64 (j : Int))).map (fun v => (v, ([] : Heap))) = some (.vptr (.agg [.int .i64 x0, .int .i64 x1]), []), (idxV Try.prog 22 (.imm .arg 2 lc) (.int .i64 (j : Int))).map (fun v => (v, ([] : Heap))) = some (.vptr (.agg [.int .i64 x2, .int .i64 x3]), []), some (HV.bool (decide (x0 < 0)), ([] : Heap)) = some (.bool false, []), some (HV.bool (decide (n ≤ x0)), ([] : Heap)) = some (.bool false, []), some (HV.bool (decide (x3 < 0)), ([] : Heap)) = some (.bool false, []), some (HV.bool (decide (n ≤ x3)), ([] : Heap)) = some (.bool false, []), some (HV.bool (decide (x0 = x3)), ([] : Heap)) = some (.bool false, [])], by kernel_rfl, Obls.cons (hintB (decide_eq_true g0)) (Obls.cons (hintOp g1) (Obls.cons (hintOp g2) (Obls.cons (hintB (decide_eq_false g3)) (Obls.cons (hintB (decide_eq_false g4)) (Obls.cons (hintB (decide_eq_false g5)) (Obls.cons (hintB (decide_eq_false g6)) (Obls.cons (hintB (decide_eq_false g7)) Obls.nil)))))))⟩
theorem tr_l_6 (n : Int) (lc : List HV) (j : Nat)  (g0 : ¬ ((j : Int) < (lc.length : Int))) : RunsTo Try.prog polO 18 (sub [1, 1, 0, 1, 0, 0] B18) (env18 (.int .i64 n) (.imm .arg 2 lc) (.bool false) (.int .i64 (j : Int)) .undef .undef .undef .undef) [] (.exit 0) (polO.keys 18) (env18 (.int .i64 n) (.imm .arg 2 lc) (.bool false) (.int .i64 (j : Int)) .undef .undef .undef .undef) [] :=
  RunsTo.hint 1 60 [⟨4, 3, .bool false, []⟩] fun kf hk => by
    obtain ⟨kf, rfl⟩ : ∃ n, kf = n + 1 := ⟨kf - 1, by omega⟩
    exact ⟨[some (HV.bool (decide ((j : Int) < (lc.length : Int))), ([] : Heap)) = some (.bool false, [])], by kernel_rfl, Obls.cons (hintB (decide_eq_false g0)) Obls.nil⟩
theorem tr_d_0 (n : Int) (lc : List HV) (j : Nat) (m : Nat) (els : List HV) (g0 : ∀ kf, callN Try.prog polO (kf + 1) 41 [.int .i64 n, .imm .arg 2 lc, .int .i64 0] [] = some (.sl 0 0 m none m 1, [.arr 1 els true 0])) : RunsTo Try.prog polO 18 (sub [1, 1, 1, 0] B18) (env18 (.int .i64 n) (.imm .arg 2 lc) (.bool false) (.int .i64 (j : Int)) .undef .undef .undef .undef) [] (.normal) (polO.keys 18) (env18 (.int .i64 n) (.imm .arg 2 lc) (.bool false) (.int .i64 (j : Int)) .undef .undef (.sl 0 0 m none m 1) .undef) [.arr 1 els true 0] :=
  RunsTo.hint 1 60 [⟨9, 2, .sl 0 0 m none m 1, [.arr 1 els true 0]⟩] fun kf hk => by
    obtain ⟨kf, rfl⟩ : ∃ n, kf = n + 1 := ⟨kf - 1, by omega⟩
    exact ⟨[callN Try.prog polO (kf + 1) 41 [.int .i64 n, .imm .arg 2 lc, .int .i64 0] [] = some (.sl 0 0 m none m 1, [.arr 1 els true 0])], by kernel_rfl, Obls.cons (g0 kf) Obls.nil⟩
theorem tr_e_0 (n : Int) (lc : List HV) (m : Nat) (els : List HV) (j : Nat)   : RunsTo Try.prog polO 18 (sub [1, 1, 1, 1, 0, 0] B18) (env18 (.int .i64 n) (.imm .arg 2 lc) (.bool false) (.int .i64 (j : Int)) .undef .undef (.sl 0 0 m none m 1) .undef) [.arr 1 els true 0] (.normal) (polO.keys 18) (env18 (.int .i64 n) (.imm .arg 2 lc) (.bool false) (.int .i64 (j : Int)) .undef .undef (.sl 0 0 m none m 1) (.int .i64 0)) [.arr 1 els true 0] :=
  RunsTo.hint 1 60 [] fun kf hk => by
    obtain ⟨kf, rfl⟩ : ∃ n, kf = n + 1 := ⟨kf - 1, by omega⟩
    exact ⟨[], by kernel_rfl, Obls.nil⟩
theorem tr_k_0 (n : Int) (lc : List HV) (m : Nat) (els : List HV) (j : Nat) (x0 : Int) (g0 : (j : Int) < n) (g1 : idxV Try.prog 24 (.sl 0 0 m none m 1) (.int .i64 (j : Int)) = some (.ptr 0 j 0 m)) (g2 : loadV Try.prog [.arr 1 els true 0] 3 (.ptr 0 j 0 m) = some (.int .i64 x0)) (g3 : x0 < 0) : RunsTo Try.prog polO 18 (sub [1, 1, 1, 1, 0, 1, 0, 0] B18) (env18 (.int .i64 n) (.imm .arg 2 lc) (.bool false) .undef .undef .undef (.sl 0 0 m none m 1) (.int .i64 (j : Int))) [.arr 1 els true 0] (.ret) (polO.keys 18) (env18 (.int .i64 n) (.imm .arg 2 lc) (.bool false) .undef .undef .undef (.sl 0 0 m none m 1) (.int .i64 (j : Int))) [.arr 1 els true 0] :=
  RunsTo.hint 1 60 [⟨11, 2, .bool true, [.arr 1 els true 0]⟩, ⟨13, 2, .ptr 0 j 0 m, [.arr 1 els true 0]⟩, ⟨13, 3, .int .i64 x0, [.arr 1 els true 0]⟩, ⟨13, 4, .bool true, [.arr 1 els true 0]⟩] fun kf hk => by
    obtain ⟨kf, rfl⟩ : ∃ n, kf = n + 1 := ⟨kf - 1, by omega⟩
    exact ⟨[some (HV.bool (decide ((j : Int) < n)), ([.arr 1 els true 0] : Heap)) = some (.bool true, [.arr 1 els true 0]), (idxV Try.prog 24 (.sl 0 0 m none m 1) (.int .i64 (j : Int))).map (fun v => (v, ([.arr 1 els true 0] : Heap))) = some (.ptr 0 j 0 m, [.arr 1 els true 0]), (loadV Try.prog [.arr 1 els true 0] 3 (.ptr 0 j 0 m)).map (fun v => (v, ([.arr 1 els true 0] : Heap))) = some (.int .i64 x0, [.arr 1 els true 0]), some (HV.bool (decide (x0 < 0)), ([.arr 1 els true 0] : Heap)) = some (.bool true, [.arr 1 els true 0])], by kernel_rfl, Obls.cons (hintB (decide_eq_true g0)) (Obls.cons (hintOp g1) (Obls.cons (hintOp g2) (Obls.cons (hintB (decide_eq_true g3)) Obls.nil)))⟩
theorem tr_k_1 (n : Int) (lc : List HV) (m : Nat) (els : List HV) (j : Nat) (x0 : Int) (g0 : (j : Int) < n) (g1 : idxV Try.prog 24 (.sl 0 0 m none m 1) (.int .i64 (j : Int)) = some (.ptr 0 j 0 m)) (g2 : loadV Try.prog [.arr 1 els true 0] 3 (.ptr 0 j 0 m) = some (.int .i64 x0)) (g3 : ¬ (x0 < 0)) : RunsTo Try.prog polO 18 (sub [1, 1, 1, 1, 0, 1, 0, 0] B18) (env18 (.int .i64 n) (.imm .arg 2 lc) (.bool false) .undef .undef .undef (.sl 0 0 m none m 1) (.int .i64 (j : Int))) [.arr 1 els true 0] (.normal) (polO.keys 18) (env18 (.int .i64 n) (.imm .arg 2 lc) (.bool false) .undef .undef .undef (.sl 0 0 m none m 1) (.int .i64 (IntKind.i64.wrap ((j : Int) + 1)))) [.arr 1 els true 0] :=
  RunsTo.hint 1 60 [⟨11, 2, .bool true, [.arr 1 els true 0]⟩, ⟨13, 2, .ptr 0 j 0 m, [.arr 1 els true 0]⟩, ⟨13, 3, .int .i64 x0, [.arr 1 els true 0]⟩, ⟨13, 4, .bool false, [.arr 1 els true 0]⟩] fun kf hk => by
    obtain ⟨kf, rfl⟩ : ∃ n, kf = n + 1 := ⟨kf - 1, by omega⟩
    exact ⟨[some (HV.bool (decide ((j : Int) < n)), ([.arr 1 els true 0] : Heap)) = some (.bool true, [.arr 1 els true 0]), (idxV Try.prog 24 (.sl 0 0 m none m 1) (.int .i64 (j : Int))).map (fun v => (v, ([.arr 1 els true 0] : Heap))) = some (.ptr 0 j 0 m, [.arr 1 els true 0]), (loadV Try.prog [.arr 1 els true 0] 3 (.ptr 0 j 0 m)).map (fun v => (v, ([.arr 1 els true 0] : Heap))) = some (.int .i64 x0, [.arr 1 els true 0]), some (HV.bool (decide (x0 < 0)), ([.arr 1 els true 0] : Heap)) = some (.bool false, [.arr 1 els true 0])], by kernel_rfl, Obls.cons (hintB (decide_eq_true g0)) (Obls.cons (hintOp g1) (Obls.cons (hintOp g2) (Obls.cons (hintB (decide_eq_false g3)) Obls.nil)))⟩
theorem tr_k_2 (n : Int) (lc : List HV) (m : Nat) (els : List HV) (j : Nat)  (g0 : ¬ ((j : Int) < n)) : RunsTo Try.prog polO 18 (sub [1, 1, 1, 1, 0, 1, 0, 0] B18) (env18 (.int .i64 n) (.imm .arg 2 lc) (.bool false) .undef .undef .undef (.sl 0 0 m none m 1) (.int .i64 (j : Int))) [.arr 1 els true 0] (.exit 2) (polO.keys 18) (env18 (.int .i64 n) (.imm .arg 2 lc) (.bool false) .undef .undef .undef (.sl 0 0 m none m 1) (.int .i64 (j : Int))) [.arr 1 els true 0] :=
  RunsTo.hint 1 60 [⟨11, 2, .bool false, [.arr 1 els true 0]⟩] fun kf hk => by
    obtain ⟨kf, rfl⟩ : ∃ n, kf = n + 1 := ⟨kf - 1, by omega⟩
    exact ⟨[some (HV.bool (decide ((j : Int) < n)), ([.arr 1 els true 0] : Heap)) = some (.bool false, [.arr 1 els true 0])], by kernel_rfl, Obls.cons (hintB (decide_eq_false g0)) Obls.nil⟩
theorem tr_z_0 (n : Int) (lc : List HV) (m : Nat) (els : List HV) (j : Nat)   : RunsTo Try.prog polO 18 (sub [1, 1, 1, 1, 1] B18) (env18 (.int .i64 n) (.imm .arg 2 lc) (.bool false) .undef .undef .undef (.sl 0 0 m none m 1) (.int .i64 (j : Int))) [.arr 1 els true 0] (.ret) (polO.keys 18) (env18 (.int .i64 n) (.imm .arg 2 lc) (.bool true) .undef .undef .undef (.sl 0 0 m none m 1) (.int .i64 (j : Int))) [.arr 1 els true 0] :=
  RunsTo.hint 1 60 [] fun kf hk => by
    obtain ⟨kf, rfl⟩ : ∃ n, kf = n + 1 := ⟨kf - 1, by omega⟩
    exact ⟨[], by kernel_rfl, Obls.nil⟩
end Go.Proofs.Ytmhfkhlamnapdaa
end
section
open Go Go.HL
namespace Go.Proofs.Ytmhfkhlamnapdaa
abbrev trE (n : Int) (lc : List HV) (v5 v8 v9 : HV) : Env := env18 (.int .i64 n) (.imm .arg 2 lc) (.bool false) v5 .undef .undef v8 v9
theorem tree_valid (n : Int) (l : List (Int × Int)) (hl : l.length ≤ 1000) : ∀ (d j : Nat), j + d = l.length →
    ∃ x E, RunsTo Try.prog polO 18 (sub [1, 1, 0, 1, 0] B18) (trE n (l.map encP) (.int .i64 (j : Int)) .undef .undef) [] x (polO.keys 18) E [] ∧
      (((l.drop j).all (validB n) = true ∧ x = .exit 0 ∧ E = trE n (l.map encP) (.int .i64 (l.length : Int)) .undef .undef) ∨ ((l.drop j).all (validB n) = false ∧ x = .ret ∧ E.get 4 = .bool false)) := by
  intro d
  induction d with
  | zero =>
    intro j hj
    have hj : j = l.length := by omega
    subst hj
    exact ⟨_, _, RunsTo.loop_out (tr_l_6 n (l.map encP) l.length (by simp)) (by simp) (by kernel_rfl) (by kernel_rfl), .inl ⟨by simp, rfl, rfl⟩⟩
  | succ d ih =>
    intro j hj
    have hjl : j < l.length := by omega
    rw [List.drop_eq_getElem_cons hjl, List.all_cons]
    generalize hp : l[j] = p
    obtain ⟨a, b⟩ := p
    have g1 : idxV Try.prog 22 (.imm .arg 2 (l.map encP)) (.int .i64 (j : Int)) = some (.vptr (.agg [.int .i64 a, .int .i64 b])) := idx_imm u22 z33 (by omega) (by rw [Int.toNat_natCast, List.getElem?_map, List.getElem?_eq_getElem hjl, hp]; rfl)
    have g0 : (j : Int) < ((l.map encP).length : Int) := by simp; omega
    by_cases hv : (0 ≤ a ∧ a < n) ∧ (0 ≤ b ∧ b < n) ∧ a ≠ b
    · have hvb : validB n (a, b) = true := by rw [validB]; exact decide_eq_true hv
      obtain ⟨x, E, h1, h2⟩ := ih (j + 1) (by omega)
      have s1 := tr_l_5 n (l.map encP) j a b a b g0 g1 g1 (by omega) (by omega) (by omega) (by omega) hv.2.2
      rw [wrap_succ (by omega)] at s1
      rw [hvb, Bool.true_and]
      exact ⟨x, E, RunsTo.loop s1 (by kernel_rfl) rfl h1 rfl (by kernel_rfl) (by kernel_rfl), h2⟩
    · have hvb : validB n (a, b) = false := by rw [validB]; exact decide_eq_false hv
      rw [hvb, Bool.false_and]
      by_cases c1 : a < 0
      · exact ⟨_, _, RunsTo.loop_out (tr_l_0 n (l.map encP) j a b a b g0 g1 g1 c1) (by simp) (by kernel_rfl) (by kernel_rfl), .inr ⟨rfl, rfl, rfl⟩⟩
      · by_cases c2 : n ≤ a
        · exact ⟨_, _, RunsTo.loop_out (tr_l_1 n (l.map encP) j a b a b g0 g1 g1 c1 c2) (by simp) (by kernel_rfl) (by kernel_rfl), .inr ⟨rfl, rfl, rfl⟩⟩
        · by_cases c3 : b < 0
          · exact ⟨_, _, RunsTo.loop_out (tr_l_2 n (l.map encP) j a b a b g0 g1 g1 c1 c2 c3) (by simp) (by kernel_rfl) (by kernel_rfl), .inr ⟨rfl, rfl, rfl⟩⟩
          · by_cases c4 : n ≤ b
            · exact ⟨_, _, RunsTo.loop_out (tr_l_3 n (l.map encP) j a b a b g0 g1 g1 c1 c2 c3 c4) (by simp) (by kernel_rfl) (by kernel_rfl), .inr ⟨rfl, rfl, rfl⟩⟩
            · by_cases c5 : a = b
              · exact ⟨_, _, RunsTo.loop_out (tr_l_4 n (l.map encP) j a b a b g0 g1 g1 c1 c2 c3 c4 c5) (by simp) (by kernel_rfl) (by kernel_rfl), .inr ⟨rfl, rfl, rfl⟩⟩
              · exact absurd ⟨⟨by omega, by omega⟩, ⟨by omega, by omega⟩, c5⟩ hv
theorem tree_reach (n : Int) (lc : List HV) (m : Nat) (hm : (m : Int) = n) (hn : m ≤ 1000) (o : List Int) (ho : o.length = m) : ∀ (d j : Nat), j + d = m →
    ∃ x E, RunsTo Try.prog polO 18 (sub [1, 1, 1, 1, 0, 1, 0] B18) (trE n lc .undef (.sl 0 0 m none m 1) (.int .i64 (j : Int))) [bI o] x (polO.keys 18) E [bI o] ∧
      (((o.drop j).all (fun v => decide (0 ≤ v)) = true ∧ x = .exit 2 ∧ E = trE n lc .undef (.sl 0 0 m none m 1) (.int .i64 (m : Int))) ∨ ((o.drop j).all (fun v => decide (0 ≤ v)) = false ∧ x = .ret ∧ E.get 4 = .bool false)) := by
  intro d
  induction d with
  | zero =>
    intro j hj
    have hj : j = m := by omega
    subst hj
    exact ⟨_, _, RunsTo.loop_out (tr_k_2 n lc j (o.map encI) j (by omega)) (by simp) (by kernel_rfl) (by kernel_rfl), .inl ⟨by rw [List.drop_eq_nil_of_le (by omega)]; rfl, rfl, rfl⟩⟩
  | succ d ih =>
    intro j hj
    have hjl : j < o.length := by omega
    have hd : o.drop j = o[j] :: o.drop (j + 1) := List.drop_eq_getElem_cons hjl
    rw [hd, List.all_cons]
    have g1 : idxV Try.prog 24 (.sl 0 0 m none m 1) (.int .i64 (j : Int)) = some (.ptr 0 j 0 m) := by
      have := idx_sl (P := Try.prog) (t := 24) (b := 0) (tot := m) (cap := none) (ik := .i64) (n := (j : Int)) u24b z3b (by omega) (len := m) (by omega)
      simpa using this
    have g2 : loadV Try.prog [bI o] 3 (.ptr 0 j 0 m) = some (.int .i64 o[j]) := by
      have := load_out (H := [bI o]) (k := 0) rfl hjl
      rw [ho] at this
      rw [this]; simp [List.getD, List.getElem?_eq_getElem hjl]
    by_cases c : o[j] < 0
    · rw [decide_eq_false (by omega), Bool.false_and]
      exact ⟨_, _, RunsTo.loop_out (tr_k_0 n lc m (o.map encI) j _ (by omega) g1 g2 c) (by simp) (by kernel_rfl) (by kernel_rfl), .inr ⟨rfl, rfl, rfl⟩⟩
    · rw [decide_eq_true (by omega), Bool.true_and]
      obtain ⟨x, E, h1, h2⟩ := ih (j + 1) (by omega)
      have s1 := tr_k_1 n lc m (o.map encI) j _ (by omega) g1 g2 c
      rw [wrap_succ (by omega)] at s1
      exact ⟨x, E, RunsTo.loop s1 (by kernel_rfl) (gc_same (Nat.le_refl _)) h1 rfl (by kernel_rfl) (by kernel_rfl), h2⟩
def reached (o : List Int) : Bool := o.all fun v => decide (0 ≤ v)
def rTree (n : Int) (l : List (Int × Int)) : Bool := decide ((1 ≤ n ∧ n ≤ 30) ∧ (l.length : Int) = n - 1) && (l.all (validB n) && reached (rfarF n.toNat l 0))
def tree18 : List HV → Option HV
  | [.int .i64 n, .imm .arg 2 lc] => match mapO decP lc with | some l => some (.bool (rTree n l)) | none => none
  | _ => none
theorem res18 : Try.f18.results.toList = [.tmp 4] := by kernel_rfl
theorem bIn_len (c : Int) : ∀ (l : List Nat) (s : List Int × List Nat), (bIn c l s).1.length = s.1.length
  | [], _ => rfl
  | y :: l, s => by
    rw [bIn, bIn_len c l]
    split <;> simp
theorem bGo_len (nb : Nat → List Nat) : ∀ (d i : Nat) (s : List Int × List Nat), (bGo nb d i s).1.length = s.1.length
  | 0, _, _ => rfl
  | d + 1, i, s => by
    rw [bGo]
    split
    · rw [bGo_len nb d, bIn_len]
    · rfl
theorem bfs_len (nb : Nat → List Nat) (n x : Nat) : (bfs nb n x).length = n := by
  rw [bfs, bGo_len]; simp [bInit]
theorem tree_ok : PrimOk Try.prog 18 tree18 := by
  refine primOk_pure (pol := polO) (fn := Try.f18) (cd := B18) follows_mixed soundO (by kernel_rfl) (by kernel_rfl) (fnok polO.prim _ _ (by kernel_rfl)) (by kernel_rfl) ?_
  intro args res h
  unfold tree18 at h
  split at h
  · rename_i n lc
    split at h
    · rename_i l hlc
      cases h
      rw [mapO_inv decP_inv hlc]
      have a1 := tr_a_0 n (l.map encP)
      have bad : ∀ E H, RunsTo Try.prog polO 18 (sub [1] B18) (trE n (l.map encP) .undef .undef .undef) [] .ret (polO.keys 18) E H → E.get 4 = .bool (rTree n l) → ∃ x E H' v, RunsTo Try.prog polO 18 B18 (args0 [.int .i64 n, .imm .arg 2 (l.map encP)]) [] x (polO.keys 18) E H' ∧ (∀ i, x ≠ .exit i) ∧ resultsV Try.prog Try.f18 E H' = some v ∧ toRes H' (polO.deep 18) v = some (.bool (rTree n l)) := by
        intro E H t hE
        exact ⟨_, _, _, .bool (rTree n l), RunsTo.seq a1 t (c := B18) (by kernel_rfl) (by kernel_rfl), by simp, by simp only [resultsV, res18, mapO, resultV, hE], rfl⟩
      have out1 : ∀ E, RunsTo Try.prog polO 18 (sub [1, 0] B18) (trE n (l.map encP) .undef .undef .undef) [] .ret (polO.keys 18) E [] → E.get 4 = .bool false → ¬ ((1 ≤ n ∧ n ≤ 30) ∧ (l.length : Int) = n - 1) → _ := fun E t hE hc => bad E [] (RunsTo.seq_out t (by simp) (c := sub [1] B18) (b := sub [1, 1] B18) (by kernel_rfl)) (by rw [hE, rTree, decide_eq_false hc, Bool.false_and])
      by_cases c1 : n < 1
      · exact out1 _ (tr_b_0 n (l.map encP) c1) rfl (by omega)
      · by_cases c2 : 30 < n
        · exact out1 _ (tr_b_1 n (l.map encP) c1 c2) rfl (by omega)
        · have hw : IntKind.i64.wrap (n - 1) = n - 1 := by rw [wrapI64]; omega
          have hml : ((l.map encP).length : Int) = (l.length : Int) := by simp
          by_cases c3 : (l.length : Int) = n - 1
          · have hg : (1 ≤ n ∧ n ≤ 30) ∧ (l.length : Int) = n - 1 := by omega
            have hT : rTree n l = (l.all (validB n) && reached (rfarF n.toNat l 0)) := by rw [rTree, decide_eq_true hg, Bool.true_and]
            obtain ⟨m, rfl⟩ : ∃ m : Nat, n = (m : Int) := ⟨n.toNat, by omega⟩
            rw [Int.toNat_natCast] at hT
            have b1 := tr_b_2 (m : Int) (l.map encP) c1 c2 (by rw [hml, hw]; exact c3)
            have d1 := tr_c_0 (m : Int) (l.map encP)
            have up : ∀ E H, RunsTo Try.prog polO 18 (sub [1, 1] B18) (trE (m : Int) (l.map encP) .undef .undef .undef) [] .ret (polO.keys 18) E H → RunsTo Try.prog polO 18 (sub [1] B18) (trE (m : Int) (l.map encP) .undef .undef .undef) [] .ret (polO.keys 18) E H := fun E H t => RunsTo.seq b1 t (c := sub [1] B18) (by kernel_rfl) (by kernel_rfl)
            obtain ⟨x, E, r, h⟩ := tree_valid (m : Int) l (by omega) l.length 0 (by omega)
            rw [List.drop_zero] at h
            rcases h with ⟨e, rfl, rfl⟩ | ⟨e, rfl, hE⟩
            · have t1 := RunsTo.seq d1 (RunsTo.block_exit (c := sub [1, 1, 0, 1] B18) r (by kernel_rfl)) (c := sub [1, 1, 0] B18) (by kernel_rfl) (by kernel_rfl)
              have hv := List.all_eq_true.1 e
              have hvi : l.all (inBb (m : Int)) = true := List.all_eq_true.2 fun p hp => by
                have := hv p hp
                rw [validB, decide_eq_true_eq] at this
                rw [inBb, decide_eq_true_eq]; exact ⟨this.1, this.2.1⟩
              have f1 := tr_d_0 (m : Int) (l.map encP) l.length m ((rfarF m l 0).map encI) (fun k => by
                rw [prim_call (pol := polO) (g := 41) (F := rfar41) (by kernel_rfl) (rs := [.int .i64 (m : Int), .imm .arg 2 (l.map encP), .int .i64 0]) (by simp only [mapO, arg_pairs']; rfl) (res := .own 1 ((rfarF m l 0).map encI)) (by
                  simp only [rfar41, mapO_map decP_enc]
                  rw [if_pos ⟨⟨⟨by omega, by omega⟩, hvi⟩, by omega, by omega⟩]; rfl)]
                have hno : ((rfarF m l 0).map encI).any isOwn = false := by
                  rw [List.any_eq_false]
                  intro v hv
                  obtain ⟨k, _, rfl⟩ := List.mem_map.1 hv
                  simp [encI, isOwn]
                have hlen : (rfarF m l 0).length = m := bfs_len _ _ _
                simp only [recv, recvVal, recvCell, hno, List.length_map, hlen]
                rfl)
              have e1 := tr_e_0 (m : Int) (l.map encP) m ((rfarF m l 0).map encI) l.length
              obtain ⟨x2, E2, r2, h2⟩ := tree_reach (m : Int) (l.map encP) m rfl (by omega) (rfarF m l 0) (bfs_len _ _ _) m 0 (by omega)
              have r2' := RunsTo.loop_in (e0 := trE (m : Int) (l.map encP) (.int .i64 (l.length : Int)) (.sl 0 0 m none m 1) (.int .i64 0)) r2 (b := sub [1, 1, 1, 1, 0, 1, 0, 0] B18) (by kernel_rfl) (by kernel_rfl) (by kernel_rfl)
              rw [List.drop_zero] at h2
              rcases h2 with ⟨k1, rfl, rfl⟩ | ⟨k1, rfl, k2⟩
              · have z1 := tr_z_0 (m : Int) (l.map encP) m ((rfarF m l 0).map encI) m
                have t2 := RunsTo.seq e1 (RunsTo.block_exit (c := sub [1, 1, 1, 1, 0, 1] B18) r2' (by kernel_rfl)) (c := sub [1, 1, 1, 1, 0] B18) (by kernel_rfl) (by kernel_rfl)
                have t3 := RunsTo.seq t2 z1 (c := sub [1, 1, 1, 1] B18) (by kernel_rfl) (by kernel_rfl)
                have t4 := RunsTo.seq f1 t3 (c := sub [1, 1, 1] B18) (by kernel_rfl) (by kernel_rfl)
                have t5 := RunsTo.seq t1 t4 (c := sub [1, 1] B18) (by kernel_rfl) (by kernel_rfl)
                exact bad _ _ (up _ _ t5) (by rw [hT, e, reached, k1]; rfl)
              · have t2 := RunsTo.seq e1 (RunsTo.block_ret (i := 2) (c := sub [1, 1, 1, 1, 0, 1] B18) r2' (by kernel_rfl)) (c := sub [1, 1, 1, 1, 0] B18) (by kernel_rfl) (by kernel_rfl)
                have t3 := RunsTo.seq_out t2 (by simp) (c := sub [1, 1, 1, 1] B18) (b := sub [1, 1, 1, 1, 1] B18) (by kernel_rfl)
                have t4 := RunsTo.seq f1 t3 (c := sub [1, 1, 1] B18) (by kernel_rfl) (by kernel_rfl)
                have t5 := RunsTo.seq t1 t4 (c := sub [1, 1] B18) (by kernel_rfl) (by kernel_rfl)
                exact bad _ _ (up _ _ t5) (by rw [hT, e, reached, k1, k2]; rfl)
            · have t1 := RunsTo.seq d1 (RunsTo.block_ret (i := 0) (c := sub [1, 1, 0, 1] B18) r (by kernel_rfl)) (c := sub [1, 1, 0] B18) (by kernel_rfl) (by kernel_rfl)
              have t2 := RunsTo.seq_out t1 (by simp) (c := sub [1, 1] B18) (b := sub [1, 1, 1] B18) (by kernel_rfl)
              exact bad _ _ (up _ _ t2) (by rw [hT, e, hE]; rfl)
          · exact out1 _ (tr_b_3 n (l.map encP) c1 c2 (by rw [hml, hw]; exact c3)) rfl (fun h => c3 h.2)
    · cases h
  · cases h
end Go.Proofs.Ytmhfkhlamnapdaa
end
section
open Go Go.HL
namespace Go.Proofs.Ytmhfkhlamnapdaa
theorem good_res {E : Env} {H : Heap} {b : Bool} {v : HV} (h4 : E.get 4 = .ptr 0 0 0 1) (h5 : E.get 5 = .bool b) (h : loadV Try.prog H 72 (.ptr 0 0 0 1) = some v) : resultsV Try.prog Try.f46 E H = some (.tuple [v, .bool b]) := by
  simp only [resultsV, res46, mapO, resultV, h4, h5, h]
def farOk (adj : List (List Nat)) : Bool := decide ((-1 : Int) ∉ farF adj 0)
/-- What newTree answers. -/
def newTreeF (n : Int) (l : List (Int × Int)) : HV :=
  if ((1 ≤ n ∧ n ≤ 30) ∧ (l.length : Int) = n - 1) ∧ l.all (validB n) = true then .tuple [treeV (adjOf n.toNat l), .bool (farOk (adjOf n.toNat l))] else .tuple [.agg [.own 0 [], .nilmap], .bool false]
def newTree46 : List HV → Option HV
  | [.int .i64 n, .imm .arg 2 lc] => match mapO decP lc with | some l => some (newTreeF n l) | none => none
  | _ => none
theorem ainv_ok {n k : Nat} (hk : k ≤ 1000) {adj : List (List Nat)} (h : AInv n k adj) : rowsOk adj = true := rowsOk_iff.2 fun r hr => by
  have := h.row r hr
  rw [h.len]
  exact ⟨by omega, this.2⟩
theorem m50 {n k : Nat} (h0 : 0 < n) (hn : n ≤ 1000) (hk : k ≤ 1000) {adj : List (List Nat)} {H : Heap} (hT : TS n adj H) (hA : AInv n k adj) : ∀ kf, callN Try.prog polM (kf + 1) 50 [trV n, .int .i64 0] H = some (.sl H.length 0 n none n 1, H ++ [bI (farF adj 0)]) := fun kf => by
  rw [prim_call (pol := polM) (g := 50) (F := far50) (by kernel_rfl) (rs := [.agg [.imm .arg 1 (adj.map encR), .imap .arg [] []], .int .i64 0]) (by simp only [mapO, toArg_tree h0 hT]; rfl) (res := .own 1 ((farF adj 0).map encI)) (by
    simp only [far50, mapO_map decR_enc]
    rw [if_pos ⟨⟨by rw [hA.len]; exact hn, ainv_ok hk hA⟩, by omega, by rw [hA.len]; omega⟩]; rfl)]
  have hno : ((farF adj 0).map encI).any isOwn = false := by
    rw [List.any_eq_false]
    intro v hv
    obtain ⟨k, _, rfl⟩ := List.mem_map.1 hv
    simp [encI, isOwn]
  have hlen : (farF adj 0).length = n := by rw [farF, bfs_len]; exact hA.len
  simp only [recv, recvVal, recvCell, hno, List.length_map, hlen]
  rfl
theorem m52 {n : Nat} (hn : n ≤ 1000) (o : List Int) (ho : o.length = n) (H : Heap) (q : Nat) (hq : H[q]? = some (bI o)) : ∀ kf, callN Try.prog polM (kf + 1) 52 [.sl q 0 n none n 1, .int .i64 (-1)] H = some (.bool (decide ((-1 : Int) ∈ o)), H) := fun kf => by
  have e : toArg H 6 (.sl q 0 n none n 1) = some (.imm .arg 1 (o.map encI)) := by
    have e : toArg H 6 (.sl q 0 n none n 1) = if n = 0 then some (.imm .arg 1 []) else match view H q 0 n n 1 with | some l => (match mapO (toArg H 5) l with | some l => some (.imm .arg 1 l) | none => none) | none => none := rfl
    rw [e]
    split
    · rename_i h0
      rw [h0] at ho
      rw [List.length_eq_zero_iff.1 ho]; rfl
    · have hv : view H q 0 n n 1 = some (o.map encI) := by
        simp only [view, hq, List.length_map, ho]
        rw [if_pos ⟨trivial, by omega, trivial⟩, List.drop_zero, List.take_of_length_le (by rw [List.length_map]; omega)]
      have hm : mapO (toArg H 5) (o.map encI) = some (o.map encI) := mapO_self (f := toArg H 5) (g := encI) (fun _ => rfl) o
      rw [hv]
      simp only [hm]
  rw [prim_call (pol := polM) (g := 52) (F := contains52) (by kernel_rfl) (rs := [.imm .arg 1 (o.map encI), .int .i64 (-1)]) (by simp only [mapO, e]; rfl) (res := .bool (decide ((-1 : Int) ∈ o))) (by simp only [contains52, mapO_map decI_enc]; rw [if_pos (by omega)])]; rfl
theorem newTree_ok : PrimOk Try.prog 46 newTree46 := by
  refine primOk_pure (pol := polM) (fn := Try.f46) (cd := B46) follows_mixed soundM (by kernel_rfl) (by kernel_rfl) (fnok polM.prim _ _ (by kernel_rfl)) (by kernel_rfl) ?_
  intro args res h
  unfold newTree46 at h
  split at h
  · rename_i n lc
    split at h
    · rename_i l hlc
      cases h
      rw [mapO_inv decP_inv hlc]
      have a1 := nt_a_0 n (l.map encP)
      have hml : ((l.map encP).length : Int) = (l.length : Int) := by simp
      have bad : ∀ E H, RunsTo Try.prog polM 46 (sub [1] B46) (env46 (.int .i64 n) (.imm .arg 2 (l.map encP)) (.ptr 0 0 0 1) (.bool false) .undef .undef .undef .undef .undef) [.arr 2 [Zt] true 0] .ret (polM.keys 46) E H → resultsV Try.prog Try.f46 E H = some (.tuple [Zt, .bool false]) →
          ¬ (((1 ≤ n ∧ n ≤ 30) ∧ (l.length : Int) = n - 1) ∧ l.all (validB n) = true) → ∃ x E H' v, RunsTo Try.prog polM 46 B46 (args0 [.int .i64 n, .imm .arg 2 (l.map encP)]) [] x (polM.keys 46) E H' ∧ (∀ i, x ≠ .exit i) ∧ resultsV Try.prog Try.f46 E H' = some v ∧ toRes H' (polM.deep 46) v = some (newTreeF n l) := by
        intro E H t hr hc
        refine ⟨_, _, _, _, RunsTo.seq a1 t (c := B46) (by kernel_rfl) (by kernel_rfl), by simp, hr, ?_⟩
        rw [newTreeF, if_neg hc]; rfl
      have lz : loadV Try.prog [.arr 2 [Zt] true 0] 72 (.ptr 0 0 0 1) = some Zt := load_agg (b := 0) rfl rfl rfl a72 s72
      by_cases c1 : 1 ≤ n ∧ n ≤ 30
      · by_cases c2 : (l.length : Int) = n - 1
        · obtain ⟨m, rfl⟩ : ∃ m : Nat, n = (m : Int) := ⟨n.toNat, by omega⟩
          have hw : IntKind.i64.wrap ((m : Int) - 1) = (m : Int) - 1 := by rw [wrapI64]; omega
          have b1 := nt_b_0 (m : Int) (l.map encP) (m49 _ _ _ true (decide_eq_true c1) _) (by rw [hml, hw]; exact c2)
          obtain ⟨H0, H1, H2, H3, g0, g1, g2, g3, hT⟩ := ts_init (n := m) (by omega)
          have d1 := nt_c_0 (m : Int) (l.map encP) m [.arr 2 [Zt] true 0] H0 H1 H2 H3 g0 g1 g2 g3
          have e1 := nt_d_0 (m : Int) (l.map encP) m H3
          rw [hml] at e1
          obtain ⟨x, E, H', r1, h1⟩ := nt_loop m (by omega) l (by omega) l.length 0 (List.replicate m []) H3 (by omega) hT (AInv.init m)
          rw [List.drop_zero] at h1
          rcases h1 with ⟨hv, rfl, rfl, hT2, hA2⟩ | ⟨hv, rfl, hres⟩
          · have t1 := RunsTo.seq e1 (RunsTo.block_exit (c := sub [1, 1, 1, 0, 1] B46) r1 (by kernel_rfl)) (c := sub [1, 1, 1, 0] B46) (by kernel_rfl) (by kernel_rfl)
            have hfl : (farF (adjGo l (List.replicate m [])) 0).length = m := by rw [farF, bfs_len]; exact hA2.len
            have c50 := m50 (by omega) (by omega) (by omega) hT2 hA2
            generalize hadj : adjGo l (List.replicate m []) = adj at hT2 hA2 hfl c50
            have hq : (H' ++ [bI (farF adj 0)])[H'.length]? = some (bI (farF adj 0)) := by simp
            have c52 := m52 (n := m) (by omega) (farF adj 0) hfl (H' ++ [bI (farF adj 0)]) H'.length hq
            have hlt : m + 4 ≤ H'.length := hT2.len
            have hT3 : TS m adj (H' ++ [bI (farF adj 0)]) := hT2.ext (fun k hk => by rw [List.getElem?_append_left (by omega)]) (by simp; omega) (sameH_app hT2.rf (same_arr fun v hv => by
              obtain ⟨k, _, rfl⟩ := List.mem_map.1 hv
              simp [encI, same]))
            have lt2 : ∀ {H : Heap}, TS m adj H → loadV Try.prog H 72 (.ptr (m + 3) 0 0 1) = some (trV m) := fun hT => by
              obtain ⟨mx, h2⟩ := hT.tr
              exact load_agg (b := m + 3) h2 rfl rfl a72 s72
            have hst : storeV Try.prog (H' ++ [bI (farF adj 0)]) 72 (.ptr 0 0 0 1) (trV m) = some ((H' ++ [bI (farF adj 0)]).set 0 (.arr 2 [trV m] true (max 0 (bnd (trV m))))) := by
              have hz := s72
              simp only [storeV, hT3.z, cellsOf, hz, List.length_singleton, List.length_cons, List.length_nil]
              rw [if_pos ⟨trivial, trivial⟩]
              rfl
            have l1 := lt2 hT2
            have l2 := lt2 hT3
            have sm : same (trV m) (trV m) = true := by simp [same, sameL]
            have gS : (recL ((loadV Try.prog H' 72 (.ptr (m + 3) 0 0 1)).map (fun v => (v, (H' : Heap)))) ((loadV Try.prog (H' ++ [bI (farF adj 0)]) 72 (.ptr (m + 3) 0 0 1)).map (fun v => (v, ((H' ++ [bI (farF adj 0)]) : Heap)))) H' (H' ++ [bI (farF adj 0)]) && (recL ((loadV Try.prog H' 72 (.ptr (m + 3) 0 0 1)).map (fun v => (v, (H' : Heap)))) ((loadV Try.prog (H' ++ [bI (farF adj 0)]) 72 (.ptr (m + 3) 0 0 1)).map (fun v => (v, ((H' ++ [bI (farF adj 0)]) : Heap)))) H' (H' ++ [bI (farF adj 0)]) && true)) = true := by
              have r1 := hT2.rf
              have r2 := hT3.rf
              simp only [l1, l2, Option.map, recL, sm, r1, r2, Bool.and_self]
            have up : ∀ E H, RunsTo Try.prog polM 46 (sub [1, 1, 1, 1] B46) (ntE (m : Int) (l.map encP) m (.imm .arg 2 (l.map encP)) (.int .i64 (l.length : Int)) (.int .i64 (l.length : Int))) H' .ret (polM.keys 46) E H → RunsTo Try.prog polM 46 B46 (args0 [.int .i64 (m : Int), .imm .arg 2 (l.map encP)]) [] .ret (polM.keys 46) E H := by
              intro E H t
              have t2 := RunsTo.seq t1 t (c := sub [1, 1, 1] B46) (by kernel_rfl) (by kernel_rfl)
              have t3 := RunsTo.seq d1 t2 (c := sub [1, 1] B46) (by kernel_rfl) (by kernel_rfl)
              have t4 := RunsTo.seq b1 t3 (c := sub [1] B46) (by kernel_rfl) (by kernel_rfl)
              exact RunsTo.seq a1 t4 (c := B46) (by kernel_rfl) (by kernel_rfl)
            have hF : newTreeF (m : Int) l = .tuple [treeV adj, .bool (farOk adj)] := by
              rw [newTreeF, if_pos ⟨⟨c1, c2⟩, hv⟩, Int.toNat_natCast, adjOf, hadj]
            have lz2 : loadV Try.prog ((H' ++ [bI (farF adj 0)]).set 0 (.arr 2 [trV m] true (max 0 (bnd (trV m))))) 72 (.ptr 0 0 0 1) = some (trV m) :=
              load_agg (b := 0) (by rw [List.getElem?_set_self (by simp)]) rfl rfl a72 s72
            have hTR := toRes_tree (by omega) (hT3.tr'.set0 (.arr 2 [trV m] true (max 0 (bnd (trV m)))))
            by_cases hin : (-1 : Int) ∈ farF adj 0
            · have z1 := nt_z_0 (m : Int) (l.map encP) m H' l.length _ _ _ _ l1 l1 c50 (by rw [decide_eq_true hin] at c52; exact c52) hst gS
              rw [hml] at z1
              refine ⟨_, _, _, _, up _ _ z1, by simp, good_res rfl rfl lz2, ?_⟩
              rw [hF, farOk, decide_eq_false (fun h => h hin)]
              exact hTR false
            · have z1 := nt_z_1 (m : Int) (l.map encP) m H' l.length _ _ _ _ l1 l1 c50 (by rw [decide_eq_false hin] at c52; exact c52) hst gS
              rw [hml] at z1
              refine ⟨_, _, _, _, up _ _ z1, by simp, good_res rfl rfl lz2, ?_⟩
              rw [hF, farOk, decide_eq_true hin]
              exact hTR true
          · have t1 := RunsTo.seq e1 (RunsTo.block_ret (i := 0) (c := sub [1, 1, 1, 0, 1] B46) r1 (by kernel_rfl)) (c := sub [1, 1, 1, 0] B46) (by kernel_rfl) (by kernel_rfl)
            have t2 := RunsTo.seq_out t1 (by simp) (c := sub [1, 1, 1] B46) (b := sub [1, 1, 1, 1] B46) (by kernel_rfl)
            have t3 := RunsTo.seq d1 t2 (c := sub [1, 1] B46) (by kernel_rfl) (by kernel_rfl)
            have t4 := RunsTo.seq b1 t3 (c := sub [1] B46) (by kernel_rfl) (by kernel_rfl)
            exact bad _ _ t4 hres (fun h => by rw [hv] at h; exact absurd h.2 (by simp))
        · have hw : IntKind.i64.wrap (n - 1) = n - 1 := by rw [wrapI64]; omega
          have b1 := nt_b_1 n (l.map encP) (m49 _ _ _ true (decide_eq_true c1) _) (by rw [hml, hw]; exact c2)
          exact bad _ _ (RunsTo.seq_out b1 (by simp) (c := sub [1] B46) (b := sub [1, 1] B46) (by kernel_rfl)) (bad_res rfl rfl lz) (fun h => c2 h.1.2)
      · have b1 := nt_b_2 n (l.map encP) (m49 _ _ _ false (decide_eq_false c1) _)
        exact bad _ _ (RunsTo.seq_out b1 (by simp) (c := sub [1] B46) (b := sub [1, 1] B46) (by kernel_rfl)) (bad_res rfl rfl lz) (fun h => c1 h.1.1)
    · cases h
  · cases h
end Go.Proofs.Ytmhfkhlamnapdaa
end
section
open Go Go.HL
namespace Go.Proofs.Ytmhfkhlamnapdaa
def ins (x : Int) (s : List Int) : List Int := if x ∈ s then s else s ++ [x]
abbrev mapB (ks : List Int) (mx : Nat) : Blk := .map (ks.map encI) (ks.map fun _ => .bool true) mx
end Go.Proofs.Ytmhfkhlamnapdaa
end
section
open Go Go.HL
namespace Go.Proofs.Ytmhfkhlamnapdaa
def rowI (r : List Nat) : List Int := r.map fun k : Nat => (k : Int)
theorem rowI_enc (r : List Nat) : r.map encN = (rowI r).map encI := by simp [rowI, encN]
structure CS (n : Nat) (adj : List (List Nat)) (kn : List Int) (H : Heap) : Prop where
  near : H[0]? = some (.arr 1 (adj.map rowO) true 0)
  tree : H[2]? = some (.arr 2 [.agg [.sl 0 0 n none n 1, .map 1]] true 2)
  known : ∃ mx, H[3]? = some (mapB kn mx)
theorem CS.ext {n : Nat} {adj : List (List Nat)} {kn : List Int} {H H' : Heap} (h : CS n adj kn H) (hk : ∀ k, k < 4 → H'[k]? = H[k]?) : CS n adj kn H' := by
  obtain ⟨mx, h1⟩ := h.known
  exact ⟨by rw [hk 0 (by omega)]; exact h.near, by rw [hk 2 (by omega)]; exact h.tree, ⟨mx, by rw [hk 3 (by omega)]; exact h1⟩⟩
theorem CS.four {n : Nat} {adj : List (List Nat)} {kn : List Int} {H : Heap} (h : CS n adj kn H) : 4 ≤ H.length := by
  obtain ⟨mx, h1⟩ := h.known
  have := lt_of_get h1; omega
end Go.Proofs.Ytmhfkhlamnapdaa
end
section
open Go Go.HL
namespace Go.Proofs.Ytmhfkhlamnapdaa
theorem adjGo_inv {n : Nat} : ∀ (l : List (Int × Int)) (k : Nat) (adj : List (List Nat)), (∀ p ∈ l, validB (n : Int) p = true) → AInv n k adj → AInv n (k + 2 * l.length) (adjGo l adj)
  | [], k, adj, _, h => by simpa [adjGo] using h
  | p :: l, k, adj, hv, h => by
    have h1 := hv p (by simp)
    rw [validB, decide_eq_true_eq] at h1
    have hA := (h.add (a := p.1.toNat) (b := p.2.toNat) (by omega) (by omega)).add (a := p.2.toNat) (b := p.1.toNat) (by omega) (by omega)
    have := adjGo_inv l (k + 1 + 1) (adjStep adj p) (fun q hq => hv q (by simp [hq])) hA
    have e : k + 1 + 1 + 2 * l.length = k + 2 * (p :: l).length := by simp; omega
    rw [e] at this
    exact this
theorem AInv.mono {n k k' : Nat} {adj : List (List Nat)} (h : AInv n k adj) (hk : k ≤ k') : AInv n k' adj := ⟨h.len, fun r hr => ⟨by have := (h.row r hr).1; omega, (h.row r hr).2⟩⟩
theorem adjOf_inv {n : Nat} {l : List (Int × Int)} (hv : ∀ p ∈ l, validB (n : Int) p = true) : AInv n (2 * l.length) (adjOf n l) := by
  have := adjGo_inv l 0 _ hv (AInv.init n)
  rw [Nat.zero_add] at this
  exact this
def treeOk (n : Int) (l : List (Int × Int)) : Bool := decide (((1 ≤ n ∧ n ≤ 30) ∧ (l.length : Int) = n - 1) ∧ l.all (validB n) = true) && farOk (adjOf n.toNat l)
theorem rowO_any (adj : List (List Nat)) : (adj.map rowO).any isOwn = false := by
  rw [List.any_eq_false]
  intro v hv
  obtain ⟨k, _, rfl⟩ := List.mem_map.1 hv
  simp [rowO, isOwn]
end Go.Proofs.Ytmhfkhlamnapdaa
end
section
open Go Go.HL
namespace Go.Proofs.Ytmhfkhlamnapdaa
set_option maxRecDepth 100000
def nan70 : List HV → Option HV | [.int .i64 _] => some (.bool false) | _ => none
def polNa : Pol := { pol with prim := fun g => if g == 70 then some nan70 else none }
noncomputable def B70 : Code := Try.f70.body.getD .skip
abbrev env70 (v0 v2 : HV) : Env := [(0, v0), (2, v2)]
theorem nan_0 (x : Int)  (g0 : x = x) : RunsTo Try.prog pol 70 (sub [] B70) [(0, .int .i64 x)] [] (.ret) (pol.keys 70) (env70 (.int .i64 x) (.bool false)) [] :=
  RunsTo.hint 1 60 [⟨1, 2, .bool false, []⟩] fun kf hk => by
    obtain ⟨kf, rfl⟩ : ∃ n, kf = n + 1 := ⟨kf - 1, by omega⟩
    exact ⟨[some (HV.bool (!decide (x = x)), ([] : Heap)) = some (.bool false, [])], by kernel_rfl, Obls.cons (hintB (congrArg not (decide_eq_true g0))) Obls.nil⟩
noncomputable def B68 : Code := Try.f68.body.getD .skip
abbrev env68 (v0 v1 v4 v5 v6 : HV) : Env := [(0, v0), (1, v1), (4, v4), (5, v5), (6, v6)]
theorem cmp_0 (x y : Int)  (g0 : ∀ kf, callN Try.prog polNa (kf + 1) 70 [.int .i64 x] [] = some (.bool false, [])) (g1 : ∀ kf, callN Try.prog polNa (kf + 1) 70 [.int .i64 y] [] = some (.bool false, [])) (g2 : x < y) : RunsTo Try.prog polNa 68 (sub [] B68) [(0, .int .i64 x), (1, .int .i64 y)] [] (.ret) (polNa.keys 68) (env68 (.int .i64 x) (.int .i64 y) (.int .i64 (-1)) (.bool false) (.bool false)) [] :=
  RunsTo.hint 1 60 [⟨1, 1, .bool false, []⟩, ⟨2, 1, .bool false, []⟩, ⟨9, 2, .bool true, []⟩] fun kf hk => by
    obtain ⟨kf, rfl⟩ : ∃ n, kf = n + 1 := ⟨kf - 1, by omega⟩
    exact ⟨[callN Try.prog polNa (kf + 1) 70 [.int .i64 x] [] = some (.bool false, []), callN Try.prog polNa (kf + 1) 70 [.int .i64 y] [] = some (.bool false, []), some (HV.bool (decide (x < y)), ([] : Heap)) = some (.bool true, [])], by kernel_rfl, Obls.cons (g0 kf) (Obls.cons (g1 kf) (Obls.cons (hintB (decide_eq_true g2)) Obls.nil))⟩
theorem cmp_1 (x y : Int)  (g0 : ∀ kf, callN Try.prog polNa (kf + 1) 70 [.int .i64 x] [] = some (.bool false, [])) (g1 : ∀ kf, callN Try.prog polNa (kf + 1) 70 [.int .i64 y] [] = some (.bool false, [])) (g2 : ¬ (x < y)) (g3 : y < x) : RunsTo Try.prog polNa 68 (sub [] B68) [(0, .int .i64 x), (1, .int .i64 y)] [] (.ret) (polNa.keys 68) (env68 (.int .i64 x) (.int .i64 y) (.int .i64 1) (.bool false) (.bool false)) [] :=
  RunsTo.hint 1 60 [⟨1, 1, .bool false, []⟩, ⟨2, 1, .bool false, []⟩, ⟨9, 2, .bool false, []⟩, ⟨11, 2, .bool true, []⟩] fun kf hk => by
    obtain ⟨kf, rfl⟩ : ∃ n, kf = n + 1 := ⟨kf - 1, by omega⟩
    exact ⟨[callN Try.prog polNa (kf + 1) 70 [.int .i64 x] [] = some (.bool false, []), callN Try.prog polNa (kf + 1) 70 [.int .i64 y] [] = some (.bool false, []), some (HV.bool (decide (x < y)), ([] : Heap)) = some (.bool false, []), some (HV.bool (decide (y < x)), ([] : Heap)) = some (.bool true, [])], by kernel_rfl, Obls.cons (g0 kf) (Obls.cons (g1 kf) (Obls.cons (hintB (decide_eq_false g2)) (Obls.cons (hintB (decide_eq_true g3)) Obls.nil)))⟩
theorem cmp_2 (x y : Int)  (g0 : ∀ kf, callN Try.prog polNa (kf + 1) 70 [.int .i64 x] [] = some (.bool false, [])) (g1 : ∀ kf, callN Try.prog polNa (kf + 1) 70 [.int .i64 y] [] = some (.bool false, [])) (g2 : ¬ (x < y)) (g3 : ¬ (y < x)) : RunsTo Try.prog polNa 68 (sub [] B68) [(0, .int .i64 x), (1, .int .i64 y)] [] (.ret) (polNa.keys 68) (env68 (.int .i64 x) (.int .i64 y) (.int .i64 0) (.bool false) (.bool false)) [] :=
  RunsTo.hint 1 60 [⟨1, 1, .bool false, []⟩, ⟨2, 1, .bool false, []⟩, ⟨9, 2, .bool false, []⟩, ⟨11, 2, .bool false, []⟩] fun kf hk => by
    obtain ⟨kf, rfl⟩ : ∃ n, kf = n + 1 := ⟨kf - 1, by omega⟩
    exact ⟨[callN Try.prog polNa (kf + 1) 70 [.int .i64 x] [] = some (.bool false, []), callN Try.prog polNa (kf + 1) 70 [.int .i64 y] [] = some (.bool false, []), some (HV.bool (decide (x < y)), ([] : Heap)) = some (.bool false, []), some (HV.bool (decide (y < x)), ([] : Heap)) = some (.bool false, [])], by kernel_rfl, Obls.cons (g0 kf) (Obls.cons (g1 kf) (Obls.cons (hintB (decide_eq_false g2)) (Obls.cons (hintB (decide_eq_false g3)) Obls.nil)))⟩
noncomputable def B61 : Code := Try.f61.body.getD .skip
abbrev env61 (v0 v2 : HV) : Env := [(0, v0), (2, v2)]
theorem cl_1 (l : List HV)  (g0 : nilTest Try.prog .eql 24 (.imm .arg 1 l) = some (.bool false)) (g1 : appV [] 1 8 (.imm .lit 1 []) l = some (.sl 0 0 l.length none l.length 1, [.arr 1 l true 0])) : RunsTo Try.prog pol 61 (sub [] B61) [(0, .imm .arg 1 l)] [] (.ret) (pol.keys 61) (env61 (.imm .arg 1 l) (.sl 0 0 l.length none l.length 1)) [.arr 1 l true 0] :=
  RunsTo.hint 1 60 [⟨1, 1, .bool false, []⟩, ⟨3, 2, .sl 0 0 l.length none l.length 1, [.arr 1 l true 0]⟩] fun kf hk => by
    obtain ⟨kf, rfl⟩ : ∃ n, kf = n + 1 := ⟨kf - 1, by omega⟩
    exact ⟨[(nilTest Try.prog .eql 24 (.imm .arg 1 l)).map (fun v => (v, ([] : Heap))) = some (.bool false, []), appV [] 1 8 (.imm .lit 1 []) l = some (.sl 0 0 l.length none l.length 1, [.arr 1 l true 0])], by kernel_rfl, Obls.cons (hintOp g0) (Obls.cons (g1) Obls.nil)⟩
end Go.Proofs.Ytmhfkhlamnapdaa
end
section
open Go Go.HL
namespace Go.Proofs.Ytmhfkhlamnapdaa
theorem res70 : Try.f70.results.toList = [.tmp 2] := by kernel_rfl
theorem res68 : Try.f68.results.toList = [.tmp 4] := by kernel_rfl
theorem res61 : Try.f61.results.toList = [.tmp 2] := by kernel_rfl
theorem nan_ok : PrimOk Try.prog 70 nan70 := by
  refine primOk_pure (pol := pol) (fn := Try.f70) (cd := B70) follows_mixed sound (by kernel_rfl) (by kernel_rfl) (fnok pol.prim _ _ (by kernel_rfl)) (by kernel_rfl) ?_
  intro args res h
  unfold nan70 at h
  split at h
  · rename_i x
    cases h
    exact ⟨_, _, _, _, nan_0 x rfl, by simp, by simp only [resultsV, res70]; rfl, rfl⟩
  · cases h
theorem soundNa (n : Nat) : CallSound Try.prog (callN Try.prog polNa n) := sound_prim _ (fun g f h => by
  split at h
  · rename_i hg
    cases h
    rw [eq_of_beq hg]
    exact nan_ok
  · cases h) n
def cmpI (x y : Int) : Int := if x < y then -1 else if y < x then 1 else 0
def compare68 : List HV → Option HV | [.int .i64 x, .int .i64 y] => some (.int .i64 (cmpI x y)) | _ => none
theorem compare_ok : PrimOk Try.prog 68 compare68 := by
  refine primOk_pure (pol := polNa) (fn := Try.f68) (cd := B68) follows_mixed soundNa (by kernel_rfl) (by kernel_rfl) (fnok polNa.prim _ _ (by kernel_rfl)) (by kernel_rfl) ?_
  intro args res h
  unfold compare68 at h
  split at h
  · rename_i x y
    cases h
    have c : ∀ x k, callN Try.prog polNa (k + 1) 70 [.int .i64 x] [] = some (.bool false, []) := fun x k => by
      rw [prim_call (pol := polNa) (g := 70) (F := nan70) (by kernel_rfl) (rs := [.int .i64 x]) rfl (res := .bool false) rfl]; rfl
    unfold cmpI
    by_cases h1 : x < y
    · rw [if_pos h1]
      exact ⟨_, _, _, _, cmp_0 x y (c x) (c y) h1, by simp, by simp only [resultsV, res68]; rfl, rfl⟩
    · rw [if_neg h1]
      by_cases h2 : y < x
      · rw [if_pos h2]
        exact ⟨_, _, _, _, cmp_1 x y (c x) (c y) h1 h2, by simp, by simp only [resultsV, res68]; rfl, rfl⟩
      · rw [if_neg h2]
        exact ⟨_, _, _, _, cmp_2 x y (c x) (c y) h1 h2, by simp, by simp only [resultsV, res68]; rfl, rfl⟩
  · cases h
def clone61 : List HV → Option HV
  | [.imm .arg 1 la] => (match mapO decI la with | some l => if l.length ≤ 1000 then some (.own 1 (l.map encI)) else none | none => none)
  | _ => none
theorem clone_run (v : Int) (l : List Int) (hl : (v :: l).length ≤ 1000) : ∃ k, callN Try.prog pol k 61 [.imm .arg 1 ((v :: l).map encI)] [] = some (.sl 0 0 (v :: l).length none (v :: l).length 1, [bI (v :: l)]) := by
  have hb : ∀ (l : List Int), bndL (l.map encI) = 0 := by
    intro l
    induction l with
    | nil => rfl
    | cons a l ih => simp only [List.map_cons, bndL, ih, encI, bnd]; rfl
  have hap : appV [] 1 8 (.imm .lit 1 []) ((v :: l).map encI) = some (.sl 0 0 ((v :: l).map encI).length none ((v :: l).map encI).length 1, [.arr 1 ((v :: l).map encI) true 0]) := by
    have hne : (v :: l).map encI ≠ [] := by simp
    simp only [appV, if_neg hne]
    rw [if_pos ⟨.inr trivial, by simp only [List.length_nil, List.length_map, roomMax]; omega⟩, hb]
    simp
  have hnt : nilTest Try.prog .eql 24 (.imm .arg 1 ((v :: l).map encI)) = some (.bool false) := by
    have hu : Try.prog.underlying 24 = some (.slice 3) := u24b
    simp only [nilTest, hu, knownNil, List.map_cons, nilOp]
  obtain ⟨m, h⟩ := cl_1 ((v :: l).map encI) hnt hap
  obtain ⟨e1, g1, g2⟩ := h m m (Nat.le_refl m) (Nat.le_refl m)
  refine ⟨m + 1, ?_⟩
  have hrc := resCell_sl (H := [bI (v :: l)]) (no := [0]) (b := 0) (k := 1) (m := (v :: l).length) (cap := none) (els := (v :: l).map encI) rfl (by simp) (mapO_self (fun r => frz_int 4 r) _)
  have hown : ownedAll [bI (v :: l)] false (.sl 0 0 (v :: l).length none (v :: l).length 1) = [0] := rfl
  have hpr : pureRun Try.prog pol (evC Try.prog pol (callN Try.prog pol m) m) 61 Try.f61 B61 [.imm .arg 1 ((v :: l).map encI)] = some (.own 1 ((v :: l).map encI)) := by
    unfold pureRun
    have hg1 : evC Try.prog pol (callN Try.prog pol m) m 61 B61 (args0 [.imm .arg 1 ((v :: l).map encI)]) [] = some (.ret, e1, [bI (v :: l)]) := g1
    rw [hg1]
    have hres : resultsV Try.prog Try.f61 e1 [bI (v :: l)] = some (.sl 0 0 (v :: l).length none (v :: l).length 1) := by
      have := resultsV_restr (P := Try.prog) (fn := Try.f61) (K := pol.keys 61) (e := e1) (H := [bI (v :: l)]) (by kernel_rfl)
      rw [← this, g2]
      simp only [resultsV, res61, mapO, resultV]
      simp [Env.get]
    simp only [hres]
    show toRes _ false _ = _
    simp only [toRes, hown, List.nodup_cons, List.not_mem_nil, not_false_eq_true, List.nodup_nil, and_self, if_true, resVal, hrc]
  have hp : pol.prim 61 = none := by kernel_rfl
  have hs : pol.shared 61 = false := by kernel_rfl
  have hf : Try.prog.funcs[61]? = some Try.f61 := by kernel_rfl
  have hbd : Try.f61.body = some B61 := by kernel_rfl
  have ha : toArg [] 6 (.imm .arg 1 ((v :: l).map encI)) = some (.imm .arg 1 ((v :: l).map encI)) := by
    show argP (.imm .arg 1 ((v :: l).map encI)) = _
    simp only [argP, argP_ints']
  have hno : ((v :: l).map encI).any isOwn = false := by
    rw [List.any_eq_false]
    intro v hv
    obtain ⟨k, _, rfl⟩ := List.mem_map.1 hv
    simp [encI, isOwn]
  simp only [callN, doCall, hp, hf, hbd, hs, Bool.false_eq_true, if_false, mapO, ha]
  have hpc : pureCall Try.prog pol (evC Try.prog pol (callN Try.prog pol m) m) 61 Try.f61 B61 [.imm .arg 1 ((v :: l).map encI)] = some (.own 1 ((v :: l).map encI)) := by
    unfold pureCall
    rw [if_pos (by kernel_rfl)]
    simp only [List.map_cons] at hpr ⊢
    exact hpr
  rw [hpc]
  simp only [recv, recvVal, recvCell, hno, List.length_map]
  rfl
theorem clone_ok : PrimOk Try.prog 61 clone61 := by
  refine primOk_of (pol := pol) sound (by kernel_rfl) fun args res h => ?_
  unfold clone61 at h
  split at h
  · rename_i la
    split at h
    · rename_i l hla
      split at h
      · rename_i hl
        cases h
        rw [mapO_inv decI_inv hla]
        cases l with
        | nil => exact ⟨30, .sl 0 0 0 none 0 1, [.arr 1 [] true 0], false, by kernel_rfl, rfl⟩
        | cons v l =>
          obtain ⟨k, hk⟩ := clone_run v l hl
          refine ⟨k, _, _, false, hk, ?_⟩
          have hrc := resCell_sl (H := [bI (v :: l)]) (no := [0]) (b := 0) (k := 1) (m := (v :: l).length) (cap := none) (els := (v :: l).map encI) rfl (by simp) (mapO_self (fun r => frz_int 4 r) _)
          have hown : ownedAll [bI (v :: l)] false (.sl 0 0 (v :: l).length none (v :: l).length 1) = [0] := rfl
          simp only [toRes, hown, List.nodup_cons, List.not_mem_nil, not_false_eq_true, List.nodup_nil, and_self, if_true, resVal, hrc]
      · cases h
    · cases h
  · cases h
end Go.Proofs.Ytmhfkhlamnapdaa
end
section
open Go Go.HL
namespace Go.Proofs.Ytmhfkhlamnapdaa
/-- The policy under which the tree's times are told: the functions on shared memory run under it. -/
def primS (g : FuncId) : Option (List HV → Option HV) :=
  if g == 49 then some withinF else if g == 46 then some newTree46 else if g == 50 then some far50 else if g == 52 then some contains52 else if g == 61 then some clone61 else if g == 68 then some compare68 else none
def polS : Pol := { pol with prim := primS }
theorem primS_ok (g : FuncId) (f : List HV → Option HV) (h : primS g = some f) : PrimOk Try.prog g f := by
  unfold primS at h
  split at h
  · rename_i hg; cases h; rw [eq_of_beq hg]; exact within_ok
  split at h
  · rename_i hg; cases h; rw [eq_of_beq hg]; exact newTree_ok
  split at h
  · rename_i hg; cases h; rw [eq_of_beq hg]; exact far_ok
  split at h
  · rename_i hg; cases h; rw [eq_of_beq hg]; exact contains_ok
  split at h
  · rename_i hg; cases h; rw [eq_of_beq hg]; exact clone_ok
  split at h
  · rename_i hg; cases h; rw [eq_of_beq hg]; exact compare_ok
  · cases h
theorem soundS (n : Nat) : CallSound Try.prog (callN Try.prog polS n) := sound_prim primS primS_ok n
abbrev Cl (g : FuncId) (args : List HV) (H : Heap) (r : HV) (H' : Heap) : Prop := CallsTo (P := Try.prog) (pol := polS) g args H r H'
/-- A call of a function on shared memory. -/
theorem CallsTo.shared {P : Program} {pol : Pol} {g : FuncId} {fn : Func} {cd : Code} {args : List HV} {x : X} {E : Env} {H H' : Heap} {v : HV} (hp : pol.prim g = none) (hf : P.funcs[g]? = some fn) (hb : fn.body = some cd) (hs : pol.shared g = true)
    (hrun : RunsTo P pol g cd (args0 args) H x (pol.keys g) E H') (hres : (fn.results.toList.all fun r => match r with | .tmp t => (pol.keys g).contains t | .cell t _ => (pol.keys g).contains t) = true) (hx : ∀ i, x ≠ .exit i) (hv : resultsV P fn E H' = some v) :
    CallsTo (P := P) (pol := pol) g args H v (gc H.length (bnd v) H') := by
  obtain ⟨m, h⟩ := hrun
  refine ⟨m + 1, fun k hk => ?_⟩
  obtain ⟨k, rfl⟩ : ∃ n', k = n' + 1 := ⟨k - 1, by omega⟩
  obtain ⟨e1, g1, g2⟩ := h k k (by omega) (by omega)
  subst g2
  rw [resultsV_restr hres] at hv
  simp only [callN, doCall, hp, hf, hb, hs, if_true, sharedCall, g1]
  cases x with
  | exit i => exact absurd rfl (hx i)
  | normal => simp only [hv]
  | ret => simp only [hv]
theorem Cl.from {g : FuncId} {args : List HV} {H H' : Heap} {r : HV} (h : Cl g args H r H') : ∃ N, ∀ kf, N ≤ kf → callN Try.prog polS (kf + 1) g args H = some (r, H') := by
  obtain ⟨m, h⟩ := h
  exact ⟨m, fun kf hk => h (kf + 1) (by omega)⟩
/-- All but the map's block is as it was. -/
structure Fr (H H' : Heap) : Prop where
  len : H'.length = H.length
  same : ∀ k, k ≠ 1 → H'[k]? = H[k]?
theorem Fr.refl (H : Heap) : Fr H H := ⟨rfl, fun _ _ => rfl⟩
theorem Fr.trans {H H' H'' : Heap} (h : Fr H H') (h' : Fr H' H'') : Fr H H'' := ⟨h'.len.trans h.len, fun k hk => (h'.same k hk).trans (h.same k hk)⟩
/-- All but the map's block and the list's is as it was. -/
structure Fd (db : Nat) (H H' : Heap) : Prop where
  len : H'.length = H.length
  same : ∀ k, k ≠ 1 → k ≠ db → H'[k]? = H[k]?
theorem Fd.refl (db : Nat) (H : Heap) : Fd db H H := ⟨rfl, fun _ _ _ => rfl⟩
theorem Fd.trans {db : Nat} {H H' H'' : Heap} (h : Fd db H H') (h' : Fd db H' H'') : Fd db H H'' := ⟨h'.len.trans h.len, fun k hk hd => (h'.same k hk hd).trans (h.same k hk hd)⟩
theorem Fr.fd {db : Nat} {H H' : Heap} (h : Fr H H') : Fd db H H' := ⟨h.len, fun k hk _ => h.same k hk⟩
/-- What compares: on memory of which K holds; greater numbers come first; the list's block does not matter to K. -/
structure Cmp (db : Nat) (cp : HV) (f : Int → Int) (dom : Int → Prop) (K : Heap → Prop) : Prop where
  one : db ≠ 1
  call : ∀ H x y, K H → dom x → dom y → ∃ c H', Cl 67 [.int .i64 x, .int .i64 y, cp] H (.int .i64 c) H' ∧ (c < 0 ↔ f y < f x) ∧ K H' ∧ Fr H H'
  put : ∀ H (l l' : List Int), K H → H[db]? = some (bI l) → l'.length = l.length → K (H.set db (bI l'))
/-- The list in its block. -/
structure Ls (db : Nat) (K : Heap → Prop) (dom : Int → Prop) (l : List Int) (H : Heap) : Prop where
  blk : H[db]? = some (bI l)
  ok : K H
  all : ∀ v ∈ l, dom v
theorem Ls.fr {db : Nat} {K : Heap → Prop} {dom : Int → Prop} {l : List Int} {H H' : Heap} (h : Ls db K dom l H) (h1 : db ≠ 1) (hK : K H') (hf : Fr H H') : Ls db K dom l H' := ⟨by rw [hf.same db h1]; exact h.blk, hK, h.all⟩
def swp (l : List Int) (i j : Nat) : List Int := (l.set i (l.getD j 0)).set j (l.getD i 0)
theorem swp_len (l : List Int) (i j : Nat) : (swp l i j).length = l.length := by simp [swp]
theorem swp_perm {l : List Int} {i j : Nat} (hi : i < l.length) (hj : j < l.length) : (swp l i j).Perm l := by
  have h := Array.swap_perm (xs := l.toArray) (i := i) (j := j) (by simpa using hi) (by simpa using hj)
  have h2 := h.toList
  rw [Array.toList_swap] at h2
  simpa [swp, List.getD, List.getElem?_eq_getElem hi, List.getElem?_eq_getElem hj] using h2
theorem swp_get {l : List Int} {i j : Nat} (hi : i < l.length) (hj : j < l.length) (k : Nat) : (swp l i j).getD k 0 = if k = j then l.getD i 0 else if k = i then l.getD j 0 else l.getD k 0 := by
  unfold swp
  rw [getD_set _ _ _ _ (by simpa using hj), getD_set _ _ _ _ hi]
  by_cases e : j = k
  · subst e; simp
  · have e' : ¬ k = j := fun h => e h.symm
    rw [if_neg e, if_neg e']
    by_cases e2 : i = k
    · subst e2; simp
    · rw [if_neg e2, if_neg (fun h => e2 h.symm)]
theorem Ls.swp_ {db : Nat} {K : Heap → Prop} {dom : Int → Prop} {l : List Int} {H : Heap} {cp : HV} {f : Int → Int} (h : Ls db K dom l H) (hc : Cmp db cp f dom K) {i j : Nat} (hi : i < l.length) (hj : j < l.length) :
    storeV Try.prog H 3 (.ptr db i 0 l.length) (.int .i64 (l.getD j 0)) = some (H.set db (bI (l.set i (l.getD j 0)))) ∧
    storeV Try.prog (H.set db (bI (l.set i (l.getD j 0)))) 3 (.ptr db j 0 l.length) (.int .i64 (l.getD i 0)) = some (H.set db (bI (swp l i j))) ∧ Ls db K dom (swp l i j) (H.set db (bI (swp l i j))) ∧ Fd db H (H.set db (bI (swp l i j))) := by
  have hlt : db < H.length := lt_of_get h.blk
  have h1 := store_out h.blk hi (l.getD j 0)
  have hb : (H.set db (bI (l.set i (l.getD j 0))))[db]? = some (bI (l.set i (l.getD j 0))) := List.getElem?_set_self hlt
  have h2 := store_out hb (y := j) (by simpa using hj) (l.getD i 0)
  rw [List.length_set, List.set_set] at h2
  refine ⟨h1, h2, ⟨List.getElem?_set_self hlt, hc.put H l _ h.ok h.blk (swp_len l i j), fun v hv => h.all v ?_⟩, by simp, fun k _ hd => by rw [List.getElem?_set_ne (fun e => hd e.symm)]⟩
  exact (swp_perm hi hj).mem_iff.1 hv
theorem Ls.load {db : Nat} {K : Heap → Prop} {dom : Int → Prop} {l : List Int} {H : Heap} (h : Ls db K dom l H) {i : Nat} (hi : i < l.length) : loadV Try.prog H 3 (.ptr db i 0 l.length) = some (.int .i64 (l.getD i 0)) := load_out h.blk hi
theorem Ls.dom_ {db : Nat} {K : Heap → Prop} {dom : Int → Prop} {l : List Int} {H : Heap} (h : Ls db K dom l H) {i : Nat} (hi : i < l.length) : dom (l.getD i 0) := by
  have : l.getD i 0 = l[i] := by simp [List.getD, List.getElem?_eq_getElem hi]
  rw [this]; exact h.all _ (List.getElem_mem hi)
theorem gc_eq {H H' : Heap} (r : Nat) (h : H'.length = H.length) : gc H.length r H' = H' := gc_same (by omega)
end Go.Proofs.Ytmhfkhlamnapdaa
end
section
open Go Go.HL
namespace Go.Proofs.Ytmhfkhlamnapdaa
set_option maxRecDepth 100000
noncomputable def B48 : Code := Try.f48.body.getD .skip
abbrev env48 (v0 v2 v3 v4 : HV) : Env := [(0, v0), (2, v2), (3, v3), (4, v4)]
theorem mi_a_0 (la : List HV)   : RunsTo Try.prog polS 48 (sub [0] B48) [(0, .imm .arg 1 la)] [] (.normal) (polS.keys 48) (env48 (.imm .arg 1 la) (.int .i64 0) .undef .undef) [] :=
  RunsTo.hint 1 60 [] fun kf hk => by
    obtain ⟨kf, rfl⟩ : ∃ n, kf = n + 1 := ⟨kf - 1, by omega⟩
    exact ⟨[], by kernel_rfl, Obls.nil⟩
theorem mi_b_1 (la : List HV)  (g0 : ¬ ((la.length : Int) < 1)) : RunsTo Try.prog polS 48 (sub [1, 0, 0] B48) (env48 (.imm .arg 1 la) (.int .i64 0) .undef .undef) [] (.normal) [0, 2, 3, 4, 7] [(0, .imm .arg 1 la), (2, .int .i64 0), (3, .undef), (4, .undef), (7, .bool false)] [] :=
  RunsTo.hint 1 60 [⟨1, 2, .bool false, []⟩] fun kf hk => by
    obtain ⟨kf, rfl⟩ : ∃ n, kf = n + 1 := ⟨kf - 1, by omega⟩
    exact ⟨[some (HV.bool (decide ((la.length : Int) < 1)), ([] : Heap)) = some (.bool false, [])], by kernel_rfl, Obls.cons (hintB (decide_eq_false g0)) Obls.nil⟩
theorem mi_c_0 (la : List HV) (x0 : Int) (g0 : idxV Try.prog 24 (.imm .arg 1 la) (.int .i64 0) = some (.vptr (.int .i64 x0))) : RunsTo Try.prog polS 48 (sub [1, 1, 0] B48) (env48 (.imm .arg 1 la) (.int .i64 0) .undef .undef) [] (.normal) (polS.keys 48) (env48 (.imm .arg 1 la) (.int .i64 0) (.int .i64 x0) .undef) [] :=
  RunsTo.hint 1 60 [⟨3, 1, .vptr (.int .i64 x0), []⟩] fun kf hk => by
    obtain ⟨kf, rfl⟩ : ∃ n, kf = n + 1 := ⟨kf - 1, by omega⟩
    exact ⟨[(idxV Try.prog 24 (.imm .arg 1 la) (.int .i64 0)).map (fun v => (v, ([] : Heap))) = some (.vptr (.int .i64 x0), [])], by kernel_rfl, Obls.cons (hintOp g0) Obls.nil⟩
theorem mi_d_0 (la : List HV) (m : Int)   : RunsTo Try.prog polS 48 (sub [1, 1, 1, 0, 0] B48) (env48 (.imm .arg 1 la) (.int .i64 0) (.int .i64 m) .undef) [] (.normal) (polS.keys 48) (env48 (.imm .arg 1 la) (.int .i64 0) (.int .i64 m) (.int .i64 1)) [] :=
  RunsTo.hint 1 60 [] fun kf hk => by
    obtain ⟨kf, rfl⟩ : ∃ n, kf = n + 1 := ⟨kf - 1, by omega⟩
    exact ⟨[], by kernel_rfl, Obls.nil⟩
theorem mi_l_0 (la : List HV) (m : Int) (i : Nat) (x0 : Int) (g0 : (i : Int) < (la.length : Int)) (g1 : idxV Try.prog 24 (.imm .arg 1 la) (.int .i64 (i : Int)) = some (.vptr (.int .i64 x0))) : RunsTo Try.prog polS 48 (sub [1, 1, 1, 0, 1, 0, 0] B48) (env48 (.imm .arg 1 la) (.int .i64 0) (.int .i64 m) (.int .i64 (i : Int))) [] (.normal) (polS.keys 48) (env48 (.imm .arg 1 la) (.int .i64 0) (.int .i64 (min m x0)) (.int .i64 (IntKind.i64.wrap ((i : Int) + 1)))) [] :=
  RunsTo.hint 1 60 [⟨5, 3, .bool true, []⟩, ⟨7, 3, .vptr (.int .i64 x0), []⟩] fun kf hk => by
    obtain ⟨kf, rfl⟩ : ∃ n, kf = n + 1 := ⟨kf - 1, by omega⟩
    exact ⟨[some (HV.bool (decide ((i : Int) < (la.length : Int))), ([] : Heap)) = some (.bool true, []), (idxV Try.prog 24 (.imm .arg 1 la) (.int .i64 (i : Int))).map (fun v => (v, ([] : Heap))) = some (.vptr (.int .i64 x0), [])], by kernel_rfl, Obls.cons (hintB (decide_eq_true g0)) (Obls.cons (hintOp g1) Obls.nil)⟩
theorem mi_l_1 (la : List HV) (m : Int) (i : Nat)  (g0 : ¬ ((i : Int) < (la.length : Int))) : RunsTo Try.prog polS 48 (sub [1, 1, 1, 0, 1, 0, 0] B48) (env48 (.imm .arg 1 la) (.int .i64 0) (.int .i64 m) (.int .i64 (i : Int))) [] (.exit 0) (polS.keys 48) (env48 (.imm .arg 1 la) (.int .i64 0) (.int .i64 m) (.int .i64 (i : Int))) [] :=
  RunsTo.hint 1 60 [⟨5, 3, .bool false, []⟩] fun kf hk => by
    obtain ⟨kf, rfl⟩ : ∃ n, kf = n + 1 := ⟨kf - 1, by omega⟩
    exact ⟨[some (HV.bool (decide ((i : Int) < (la.length : Int))), ([] : Heap)) = some (.bool false, [])], by kernel_rfl, Obls.cons (hintB (decide_eq_false g0)) Obls.nil⟩
theorem mi_z_0 (la : List HV) (m : Int) (i : Nat)   : RunsTo Try.prog polS 48 (sub [1, 1, 1, 1] B48) (env48 (.imm .arg 1 la) (.int .i64 0) (.int .i64 m) (.int .i64 (i : Int))) [] (.ret) (polS.keys 48) (env48 (.imm .arg 1 la) (.int .i64 m) (.int .i64 m) (.int .i64 (i : Int))) [] :=
  RunsTo.hint 1 60 [] fun kf hk => by
    obtain ⟨kf, rfl⟩ : ∃ n, kf = n + 1 := ⟨kf - 1, by omega⟩
    exact ⟨[], by kernel_rfl, Obls.nil⟩
end Go.Proofs.Ytmhfkhlamnapdaa
end
section
open Go Go.HL
namespace Go.Proofs.Ytmhfkhlamnapdaa
set_option maxRecDepth 100000
noncomputable def B69 : Code := Try.f69.body.getD .skip
abbrev env69 (v0 v1 v2 v6 v7 v8 v9 : HV) : Env := [(0, v0), (1, v1), (2, v2), (6, v6), (7, v7), (8, v8), (9, v9)]
theorem st_a_0 (N : Nat) (db n : Nat) (m : Int) (cp : HV) (H : Heap)   : RunsTo Try.prog polS 69 (sub [0] B69) [(0, .sl db 0 n none n 1), (1, .int .i64 m), (2, .func 67 [] [cp])] H (.normal) (polS.keys 69) (env69 (.sl db 0 n none n 1) (.int .i64 m) (.func 67 [] [cp]) (.int .i64 20) .undef .undef .undef) H :=
  RunsTo.hint (N + 1) 60 [] fun kf hk => by
    obtain ⟨kf, rfl⟩ : ∃ n, kf = n + 1 := ⟨kf - 1, by omega⟩
    exact ⟨[], by kernel_rfl, Obls.nil⟩
theorem st_b_0 (N : Nat) (db n : Nat) (m : Int) (cp : HV) (H : Heap) (w : Int)   : RunsTo Try.prog polS 69 (sub [1, 0] B69) (env69 (.sl db 0 n none n 1) (.int .i64 m) (.func 67 [] [cp]) (.int .i64 w) .undef .undef .undef) H (.normal) (polS.keys 69) (env69 (.sl db 0 n none n 1) (.int .i64 m) (.func 67 [] [cp]) (.int .i64 w) (.int .i64 0) (.int .i64 w) .undef) H :=
  RunsTo.hint (N + 1) 60 [] fun kf hk => by
    obtain ⟨kf, rfl⟩ : ∃ n, kf = n + 1 := ⟨kf - 1, by omega⟩
    exact ⟨[], by kernel_rfl, Obls.nil⟩
theorem st_c_0 (N : Nat) (db n : Nat) (m : Int) (cp : HV) (H : Heap) (w a b : Int) (H0 : Heap) (g0 : b ≤ m) (g1 : ∀ kf, N ≤ kf → callN Try.prog polS (kf + 1) 71 [.sl db 0 n none n 1, .int .i64 a, .int .i64 b, .func 67 [] [cp]] H = some (.tuple [], H0)) : RunsTo Try.prog polS 69 (sub [1, 1, 0, 0, 0] B69) (env69 (.sl db 0 n none n 1) (.int .i64 m) (.func 67 [] [cp]) (.int .i64 w) (.int .i64 a) (.int .i64 b) .undef) H (.normal) (polS.keys 69) (env69 (.sl db 0 n none n 1) (.int .i64 m) (.func 67 [] [cp]) (.int .i64 w) (.int .i64 b) (.int .i64 (IntKind.i64.wrap (b + w))) .undef) H0 :=
  RunsTo.hint (N + 1) 60 [⟨2, 2, .bool true, H⟩, ⟨3, 4, .tuple [], H0⟩] fun kf hk => by
    obtain ⟨kf, rfl⟩ : ∃ n, kf = n + 1 := ⟨kf - 1, by omega⟩
    exact ⟨[some (HV.bool (decide (b ≤ m)), (H : Heap)) = some (.bool true, H), callN Try.prog polS (kf + 1) 71 [.sl db 0 n none n 1, .int .i64 a, .int .i64 b, .func 67 [] [cp]] H = some (.tuple [], H0)], by kernel_rfl, Obls.cons (hintB (decide_eq_true g0)) (Obls.cons (g1 kf (by omega)) Obls.nil)⟩
theorem st_c_1 (N : Nat) (db n : Nat) (m : Int) (cp : HV) (H : Heap) (w a b : Int)  (g0 : ¬ (b ≤ m)) : RunsTo Try.prog polS 69 (sub [1, 1, 0, 0, 0] B69) (env69 (.sl db 0 n none n 1) (.int .i64 m) (.func 67 [] [cp]) (.int .i64 w) (.int .i64 a) (.int .i64 b) .undef) H (.exit 0) (polS.keys 69) (env69 (.sl db 0 n none n 1) (.int .i64 m) (.func 67 [] [cp]) (.int .i64 w) (.int .i64 a) (.int .i64 b) .undef) H :=
  RunsTo.hint (N + 1) 60 [⟨2, 2, .bool false, H⟩] fun kf hk => by
    obtain ⟨kf, rfl⟩ : ∃ n, kf = n + 1 := ⟨kf - 1, by omega⟩
    exact ⟨[some (HV.bool (decide (b ≤ m)), (H : Heap)) = some (.bool false, H)], by kernel_rfl, Obls.cons (hintB (decide_eq_false g0)) Obls.nil⟩
theorem st_d_0 (N : Nat) (db n : Nat) (m : Int) (cp : HV) (H : Heap) (w a b : Int) (H0 : Heap) (g0 : ∀ kf, N ≤ kf → callN Try.prog polS (kf + 1) 71 [.sl db 0 n none n 1, .int .i64 a, .int .i64 m, .func 67 [] [cp]] H = some (.tuple [], H0)) : RunsTo Try.prog polS 69 (sub [1, 1, 1, 0] B69) (env69 (.sl db 0 n none n 1) (.int .i64 m) (.func 67 [] [cp]) (.int .i64 w) (.int .i64 a) (.int .i64 b) .undef) H (.normal) (polS.keys 69) (env69 (.sl db 0 n none n 1) (.int .i64 m) (.func 67 [] [cp]) (.int .i64 w) (.int .i64 a) (.int .i64 b) .undef) H0 :=
  RunsTo.hint (N + 1) 60 [⟨6, 4, .tuple [], H0⟩] fun kf hk => by
    obtain ⟨kf, rfl⟩ : ∃ n, kf = n + 1 := ⟨kf - 1, by omega⟩
    exact ⟨[callN Try.prog polS (kf + 1) 71 [.sl db 0 n none n 1, .int .i64 a, .int .i64 m, .func 67 [] [cp]] H = some (.tuple [], H0)], by kernel_rfl, Obls.cons (g0 kf (by omega)) Obls.nil⟩
theorem st_e_0 (N : Nat) (db n : Nat) (m : Int) (cp : HV) (H : Heap) (w : Int) (v7 v8 : HV)  (g0 : w < m) : RunsTo Try.prog polS 69 (sub [1, 1, 1, 1, 0, 0, 0] B69) (env69 (.sl db 0 n none n 1) (.int .i64 m) (.func 67 [] [cp]) (.int .i64 w) v7 v8 .undef) H (.normal) (polS.keys 69) (env69 (.sl db 0 n none n 1) (.int .i64 m) (.func 67 [] [cp]) (.int .i64 w) v7 v8 .undef) H :=
  RunsTo.hint (N + 1) 60 [⟨7, 2, .bool true, H⟩] fun kf hk => by
    obtain ⟨kf, rfl⟩ : ∃ n, kf = n + 1 := ⟨kf - 1, by omega⟩
    exact ⟨[some (HV.bool (decide (w < m)), (H : Heap)) = some (.bool true, H)], by kernel_rfl, Obls.cons (hintB (decide_eq_true g0)) Obls.nil⟩
theorem st_e_1 (N : Nat) (db n : Nat) (m : Int) (cp : HV) (H : Heap) (w : Int) (v7 v8 : HV)  (g0 : ¬ (w < m)) : RunsTo Try.prog polS 69 (sub [1, 1, 1, 1, 0, 0, 0] B69) (env69 (.sl db 0 n none n 1) (.int .i64 m) (.func 67 [] [cp]) (.int .i64 w) v7 v8 .undef) H (.exit 2) (polS.keys 69) (env69 (.sl db 0 n none n 1) (.int .i64 m) (.func 67 [] [cp]) (.int .i64 w) v7 v8 .undef) H :=
  RunsTo.hint (N + 1) 60 [⟨7, 2, .bool false, H⟩] fun kf hk => by
    obtain ⟨kf, rfl⟩ : ∃ n, kf = n + 1 := ⟨kf - 1, by omega⟩
    exact ⟨[some (HV.bool (decide (w < m)), (H : Heap)) = some (.bool false, H)], by kernel_rfl, Obls.cons (hintB (decide_eq_false g0)) Obls.nil⟩
theorem st_f_0 (N : Nat) (db n : Nat) (m : Int) (cp : HV) (H : Heap) (w : Int) (v7 v8 : HV)   : RunsTo Try.prog polS 69 (sub [1, 1, 1, 1, 0, 0, 1, 0, 0] B69) (env69 (.sl db 0 n none n 1) (.int .i64 m) (.func 67 [] [cp]) (.int .i64 w) v7 v8 .undef) H (.normal) (polS.keys 69) (env69 (.sl db 0 n none n 1) (.int .i64 m) (.func 67 [] [cp]) (.int .i64 w) (.int .i64 0) (.int .i64 (IntKind.i64.wrap (2 * w))) .undef) H :=
  RunsTo.hint (N + 1) 60 [] fun kf hk => by
    obtain ⟨kf, rfl⟩ : ∃ n, kf = n + 1 := ⟨kf - 1, by omega⟩
    exact ⟨[], by kernel_rfl, Obls.nil⟩
theorem st_g_1 (N : Nat) (db n : Nat) (m : Int) (cp : HV) (H : Heap) (w a b : Int)  (g0 : ¬ (b ≤ m)) : RunsTo Try.prog polS 69 (sub [1, 1, 1, 1, 0, 0, 1, 0, 1, 0, 0, 0] B69) (env69 (.sl db 0 n none n 1) (.int .i64 m) (.func 67 [] [cp]) (.int .i64 w) (.int .i64 a) (.int .i64 b) .undef) H (.exit 4) (polS.keys 69) (env69 (.sl db 0 n none n 1) (.int .i64 m) (.func 67 [] [cp]) (.int .i64 w) (.int .i64 a) (.int .i64 b) .undef) H :=
  RunsTo.hint (N + 1) 60 [⟨9, 2, .bool false, H⟩] fun kf hk => by
    obtain ⟨kf, rfl⟩ : ∃ n, kf = n + 1 := ⟨kf - 1, by omega⟩
    exact ⟨[some (HV.bool (decide (b ≤ m)), (H : Heap)) = some (.bool false, H)], by kernel_rfl, Obls.cons (hintB (decide_eq_false g0)) Obls.nil⟩
theorem st_h_0 (N : Nat) (db n : Nat) (m : Int) (cp : HV) (H : Heap) (w a b : Int) (H0 : Heap) (g0 : IntKind.i64.wrap (a + w) < m) (g1 : ∀ kf, N ≤ kf → callN Try.prog polS (kf + 1) 72 [.sl db 0 n none n 1, .int .i64 a, .int .i64 (IntKind.i64.wrap (a + w)), .int .i64 m, .func 67 [] [cp]] H = some (.tuple [], H0)) : RunsTo Try.prog polS 69 (sub [1, 1, 1, 1, 0, 0, 1, 0, 1, 1] B69) (env69 (.sl db 0 n none n 1) (.int .i64 m) (.func 67 [] [cp]) (.int .i64 w) (.int .i64 a) (.int .i64 b) .undef) H (.normal) (polS.keys 69) (env69 (.sl db 0 n none n 1) (.int .i64 m) (.func 67 [] [cp]) (.int .i64 (IntKind.i64.wrap (w * 2))) (.int .i64 a) (.int .i64 b) (.int .i64 (IntKind.i64.wrap (a + w)))) H0 :=
  RunsTo.hint (N + 1) 60 [⟨14, 2, .bool true, H⟩, ⟨15, 5, .tuple [], H0⟩] fun kf hk => by
    obtain ⟨kf, rfl⟩ : ∃ n, kf = n + 1 := ⟨kf - 1, by omega⟩
    exact ⟨[some (HV.bool (decide (IntKind.i64.wrap (a + w) < m)), (H : Heap)) = some (.bool true, H), callN Try.prog polS (kf + 1) 72 [.sl db 0 n none n 1, .int .i64 a, .int .i64 (IntKind.i64.wrap (a + w)), .int .i64 m, .func 67 [] [cp]] H = some (.tuple [], H0)], by kernel_rfl, Obls.cons (hintB (decide_eq_true g0)) (Obls.cons (g1 kf (by omega)) Obls.nil)⟩
end Go.Proofs.Ytmhfkhlamnapdaa
end
section
open Go Go.HL
namespace Go.Proofs.Ytmhfkhlamnapdaa
set_option maxRecDepth 100000
noncomputable def B66 : Code := Try.f66.body.getD .skip
abbrev env66 (v0 v1 : HV) : Env := [(0, v0), (1, v1)]
theorem so_a_0 (N : Nat) (db n : Nat) (cp : HV) (H : Heap) (H0 : Heap) (g0 : ∀ kf, N ≤ kf → callN Try.prog polS (kf + 1) 69 [.sl db 0 n none n 1, .int .i64 (n : Int), .func 67 [] [cp]] H = some (.tuple [], H0)) : RunsTo Try.prog polS 66 (sub [] B66) (env66 (.sl db 0 n none n 1) (.func 67 [] [cp])) H (.normal) (polS.keys 66) (env66 (.sl db 0 n none n 1) (.func 67 [] [cp])) H0 :=
  RunsTo.hint (N + 1) 60 [⟨0, 4, .tuple [], H0⟩] fun kf hk => by
    obtain ⟨kf, rfl⟩ : ∃ n, kf = n + 1 := ⟨kf - 1, by omega⟩
    exact ⟨[callN Try.prog polS (kf + 1) 69 [.sl db 0 n none n 1, .int .i64 (n : Int), .func 67 [] [cp]] H = some (.tuple [], H0)], by kernel_rfl, Obls.cons (g0 kf (by omega)) Obls.nil⟩
end Go.Proofs.Ytmhfkhlamnapdaa
end
section
open Go Go.HL
namespace Go.Proofs.Ytmhfkhlamnapdaa
set_option maxRecDepth 100000
noncomputable def B72 : Code := Try.f72.body.getD .skip
abbrev env72 (v0 v1 v2 v3 v4 v10 v11 v12 v13 v14 v15 v16 v17 v18 v19 v20 v21 v22 v23 v24 : HV) : Env := [(0, v0), (1, v1), (2, v2), (3, v3), (4, v4), (10, v10), (11, v11), (12, v12), (13, v13), (14, v14), (15, v15), (16, v16), (17, v17), (18, v18), (19, v19), (20, v20), (21, v21), (22, v22), (23, v23), (24, v24)]
theorem sy_a_0 (N : Nat) (db n : Nat) (a m b : Int) (cp : HV) (H : Heap)  (g0 : IntKind.i64.wrap (m - a) = 1) : RunsTo Try.prog polS 72 (sub [0, 0] B72) [(0, .sl db 0 n none n 1), (1, .int .i64 a), (2, .int .i64 m), (3, .int .i64 b), (4, .func 67 [] [cp])] H (.normal) [0, 1, 2, 3, 4, 10, 11, 12, 13, 14, 15, 16, 17, 18, 19, 20, 21, 22, 23, 24, 28] [(0, .sl db 0 n none n 1), (1, .int .i64 a), (2, .int .i64 m), (3, .int .i64 b), (4, .func 67 [] [cp]), (10, .undef), (11, .undef), (12, .undef), (13, .undef), (14, .undef), (15, .undef), (16, .undef), (17, .undef), (18, .undef), (19, .undef), (20, .undef), (21, .undef), (22, .undef), (23, .undef), (24, .undef), (28, .bool true)] H :=
  RunsTo.hint (N + 1) 60 [⟨0, 3, .bool true, H⟩] fun kf hk => by
    obtain ⟨kf, rfl⟩ : ∃ n, kf = n + 1 := ⟨kf - 1, by omega⟩
    exact ⟨[some (HV.bool (decide (IntKind.i64.wrap (m - a) = 1)), (H : Heap)) = some (.bool true, H)], by kernel_rfl, Obls.cons (hintB (decide_eq_true g0)) Obls.nil⟩
theorem sy_a_1 (N : Nat) (db n : Nat) (a m b : Int) (cp : HV) (H : Heap)  (g0 : ¬ (IntKind.i64.wrap (m - a) = 1)) : RunsTo Try.prog polS 72 (sub [0, 0] B72) [(0, .sl db 0 n none n 1), (1, .int .i64 a), (2, .int .i64 m), (3, .int .i64 b), (4, .func 67 [] [cp])] H (.normal) [0, 1, 2, 3, 4, 10, 11, 12, 13, 14, 15, 16, 17, 18, 19, 20, 21, 22, 23, 24, 28] [(0, .sl db 0 n none n 1), (1, .int .i64 a), (2, .int .i64 m), (3, .int .i64 b), (4, .func 67 [] [cp]), (10, .undef), (11, .undef), (12, .undef), (13, .undef), (14, .undef), (15, .undef), (16, .undef), (17, .undef), (18, .undef), (19, .undef), (20, .undef), (21, .undef), (22, .undef), (23, .undef), (24, .undef), (28, .bool false)] H :=
  RunsTo.hint (N + 1) 60 [⟨0, 3, .bool false, H⟩] fun kf hk => by
    obtain ⟨kf, rfl⟩ : ∃ n, kf = n + 1 := ⟨kf - 1, by omega⟩
    exact ⟨[some (HV.bool (decide (IntKind.i64.wrap (m - a) = 1)), (H : Heap)) = some (.bool false, H)], by kernel_rfl, Obls.cons (hintB (decide_eq_false g0)) Obls.nil⟩
theorem sy_b_0 (N : Nat) (db n : Nat) (a m b : Int) (cp : HV) (H : Heap)   : RunsTo Try.prog polS 72 (sub [0, 1, 0, 0] B72) (env72 (.sl db 0 n none n 1) (.int .i64 a) (.int .i64 m) (.int .i64 b) (.func 67 [] [cp]) .undef .undef .undef .undef .undef .undef .undef .undef .undef .undef .undef .undef .undef .undef .undef) H (.normal) (polS.keys 72) (env72 (.sl db 0 n none n 1) (.int .i64 a) (.int .i64 m) (.int .i64 b) (.func 67 [] [cp]) (.int .i64 m) .undef .undef .undef .undef .undef .undef .undef .undef .undef .undef .undef .undef .undef .undef) H :=
  RunsTo.hint (N + 1) 60 [] fun kf hk => by
    obtain ⟨kf, rfl⟩ : ∃ n, kf = n + 1 := ⟨kf - 1, by omega⟩
    exact ⟨[], by kernel_rfl, Obls.nil⟩
theorem sy_c_0 (N : Nat) (db n : Nat) (a m b : Int) (cp : HV) (H : Heap) (i : Int)   : RunsTo Try.prog polS 72 (sub [0, 1, 0, 1, 0] B72) (env72 (.sl db 0 n none n 1) (.int .i64 a) (.int .i64 m) (.int .i64 b) (.func 67 [] [cp]) (.int .i64 i) .undef .undef .undef .undef .undef .undef .undef .undef .undef .undef .undef .undef .undef .undef) H (.normal) (polS.keys 72) (env72 (.sl db 0 n none n 1) (.int .i64 a) (.int .i64 m) (.int .i64 b) (.func 67 [] [cp]) (.int .i64 i) (.int .i64 b) .undef .undef .undef .undef .undef .undef .undef .undef .undef .undef .undef .undef .undef) H :=
  RunsTo.hint (N + 1) 60 [] fun kf hk => by
    obtain ⟨kf, rfl⟩ : ∃ n, kf = n + 1 := ⟨kf - 1, by omega⟩
    exact ⟨[], by kernel_rfl, Obls.nil⟩
theorem sy_d_0 (N : Nat) (db n : Nat) (a m b : Int) (cp : HV) (H : Heap) (i j : Int) (h0 : Int) (x0 : Int) (x1 : Int) (c0 : Int) (H0 : Heap) (g0 : i < j) (g1 : binV Try.prog .shr 76 (.int .u64 (IntKind.u64.wrap (IntKind.i64.wrap (i + j)))) (.int .u64 1) = some (.int .u64 h0)) (g2 : idxV Try.prog 24 (.sl db 0 n none n 1) (.int .i64 (IntKind.i64.wrap h0)) = some (.ptr db ((IntKind.i64.wrap h0).toNat) 0 n)) (g3 : loadV Try.prog H 3 (.ptr db ((IntKind.i64.wrap h0).toNat) 0 n) = some (.int .i64 x0)) (g4 : idxV Try.prog 24 (.sl db 0 n none n 1) (.int .i64 a) = some (.ptr db ((a).toNat) 0 n)) (g5 : loadV Try.prog H 3 (.ptr db ((a).toNat) 0 n) = some (.int .i64 x1)) (g6 : ∀ kf, N ≤ kf → callN Try.prog polS (kf + 1) 67 [.int .i64 x0, .int .i64 x1, cp] H = some (.int .i64 c0, H0)) (g7 : c0 < 0) : RunsTo Try.prog polS 72 (sub [0, 1, 0, 1, 1, 0, 0, 0] B72) (env72 (.sl db 0 n none n 1) (.int .i64 a) (.int .i64 m) (.int .i64 b) (.func 67 [] [cp]) (.int .i64 i) (.int .i64 j) .undef .undef .undef .undef .undef .undef .undef .undef .undef .undef .undef .undef .undef) H (.normal) (polS.keys 72) (env72 (.sl db 0 n none n 1) (.int .i64 a) (.int .i64 m) (.int .i64 b) (.func 67 [] [cp]) (.int .i64 (IntKind.i64.wrap (IntKind.i64.wrap h0 + 1))) (.int .i64 j) (.int .i64 (IntKind.i64.wrap h0)) .undef .undef .undef .undef .undef .undef .undef .undef .undef .undef .undef .undef) H0 :=
  RunsTo.hint (N + 1) 60 [⟨3, 2, .bool true, H⟩, ⟨4, 4, .int .u64 h0, H⟩, ⟨5, 3, .ptr db ((IntKind.i64.wrap h0).toNat) 0 n, H⟩, ⟨5, 4, .int .i64 x0, H⟩, ⟨5, 7, .ptr db ((a).toNat) 0 n, H⟩, ⟨5, 8, .int .i64 x1, H⟩, ⟨5, 9, .int .i64 c0, H0⟩, ⟨5, 10, .bool true, H0⟩] fun kf hk => by
    obtain ⟨kf, rfl⟩ : ∃ n, kf = n + 1 := ⟨kf - 1, by omega⟩
    exact ⟨[some (HV.bool (decide (i < j)), (H : Heap)) = some (.bool true, H), (binV Try.prog .shr 76 (.int .u64 (IntKind.u64.wrap (IntKind.i64.wrap (i + j)))) (.int .u64 1)).map (fun v => (v, (H : Heap))) = some (.int .u64 h0, H), (idxV Try.prog 24 (.sl db 0 n none n 1) (.int .i64 (IntKind.i64.wrap h0))).map (fun v => (v, (H : Heap))) = some (.ptr db ((IntKind.i64.wrap h0).toNat) 0 n, H), (loadV Try.prog H 3 (.ptr db ((IntKind.i64.wrap h0).toNat) 0 n)).map (fun v => (v, (H : Heap))) = some (.int .i64 x0, H), (idxV Try.prog 24 (.sl db 0 n none n 1) (.int .i64 a)).map (fun v => (v, (H : Heap))) = some (.ptr db ((a).toNat) 0 n, H), (loadV Try.prog H 3 (.ptr db ((a).toNat) 0 n)).map (fun v => (v, (H : Heap))) = some (.int .i64 x1, H), callN Try.prog polS (kf + 1) 67 [.int .i64 x0, .int .i64 x1, cp] H = some (.int .i64 c0, H0), some (HV.bool (decide (c0 < 0)), (H0 : Heap)) = some (.bool true, H0)], by kernel_rfl, Obls.cons (hintB (decide_eq_true g0)) (Obls.cons (hintOp g1) (Obls.cons (hintOp g2) (Obls.cons (hintOp g3) (Obls.cons (hintOp g4) (Obls.cons (hintOp g5) (Obls.cons (g6 kf (by omega)) (Obls.cons (hintB (decide_eq_true g7)) Obls.nil)))))))⟩
theorem sy_d_1 (N : Nat) (db n : Nat) (a m b : Int) (cp : HV) (H : Heap) (i j : Int) (h0 : Int) (x0 : Int) (x1 : Int) (c0 : Int) (H0 : Heap) (g0 : i < j) (g1 : binV Try.prog .shr 76 (.int .u64 (IntKind.u64.wrap (IntKind.i64.wrap (i + j)))) (.int .u64 1) = some (.int .u64 h0)) (g2 : idxV Try.prog 24 (.sl db 0 n none n 1) (.int .i64 (IntKind.i64.wrap h0)) = some (.ptr db ((IntKind.i64.wrap h0).toNat) 0 n)) (g3 : loadV Try.prog H 3 (.ptr db ((IntKind.i64.wrap h0).toNat) 0 n) = some (.int .i64 x0)) (g4 : idxV Try.prog 24 (.sl db 0 n none n 1) (.int .i64 a) = some (.ptr db ((a).toNat) 0 n)) (g5 : loadV Try.prog H 3 (.ptr db ((a).toNat) 0 n) = some (.int .i64 x1)) (g6 : ∀ kf, N ≤ kf → callN Try.prog polS (kf + 1) 67 [.int .i64 x0, .int .i64 x1, cp] H = some (.int .i64 c0, H0)) (g7 : ¬ (c0 < 0)) : RunsTo Try.prog polS 72 (sub [0, 1, 0, 1, 1, 0, 0, 0] B72) (env72 (.sl db 0 n none n 1) (.int .i64 a) (.int .i64 m) (.int .i64 b) (.func 67 [] [cp]) (.int .i64 i) (.int .i64 j) .undef .undef .undef .undef .undef .undef .undef .undef .undef .undef .undef .undef .undef) H (.normal) (polS.keys 72) (env72 (.sl db 0 n none n 1) (.int .i64 a) (.int .i64 m) (.int .i64 b) (.func 67 [] [cp]) (.int .i64 i) (.int .i64 (IntKind.i64.wrap h0)) (.int .i64 (IntKind.i64.wrap h0)) .undef .undef .undef .undef .undef .undef .undef .undef .undef .undef .undef .undef) H0 :=
  RunsTo.hint (N + 1) 60 [⟨3, 2, .bool true, H⟩, ⟨4, 4, .int .u64 h0, H⟩, ⟨5, 3, .ptr db ((IntKind.i64.wrap h0).toNat) 0 n, H⟩, ⟨5, 4, .int .i64 x0, H⟩, ⟨5, 7, .ptr db ((a).toNat) 0 n, H⟩, ⟨5, 8, .int .i64 x1, H⟩, ⟨5, 9, .int .i64 c0, H0⟩, ⟨5, 10, .bool false, H0⟩] fun kf hk => by
    obtain ⟨kf, rfl⟩ : ∃ n, kf = n + 1 := ⟨kf - 1, by omega⟩
    exact ⟨[some (HV.bool (decide (i < j)), (H : Heap)) = some (.bool true, H), (binV Try.prog .shr 76 (.int .u64 (IntKind.u64.wrap (IntKind.i64.wrap (i + j)))) (.int .u64 1)).map (fun v => (v, (H : Heap))) = some (.int .u64 h0, H), (idxV Try.prog 24 (.sl db 0 n none n 1) (.int .i64 (IntKind.i64.wrap h0))).map (fun v => (v, (H : Heap))) = some (.ptr db ((IntKind.i64.wrap h0).toNat) 0 n, H), (loadV Try.prog H 3 (.ptr db ((IntKind.i64.wrap h0).toNat) 0 n)).map (fun v => (v, (H : Heap))) = some (.int .i64 x0, H), (idxV Try.prog 24 (.sl db 0 n none n 1) (.int .i64 a)).map (fun v => (v, (H : Heap))) = some (.ptr db ((a).toNat) 0 n, H), (loadV Try.prog H 3 (.ptr db ((a).toNat) 0 n)).map (fun v => (v, (H : Heap))) = some (.int .i64 x1, H), callN Try.prog polS (kf + 1) 67 [.int .i64 x0, .int .i64 x1, cp] H = some (.int .i64 c0, H0), some (HV.bool (decide (c0 < 0)), (H0 : Heap)) = some (.bool false, H0)], by kernel_rfl, Obls.cons (hintB (decide_eq_true g0)) (Obls.cons (hintOp g1) (Obls.cons (hintOp g2) (Obls.cons (hintOp g3) (Obls.cons (hintOp g4) (Obls.cons (hintOp g5) (Obls.cons (g6 kf (by omega)) (Obls.cons (hintB (decide_eq_false g7)) Obls.nil)))))))⟩
theorem sy_d_2 (N : Nat) (db n : Nat) (a m b : Int) (cp : HV) (H : Heap) (i j : Int)  (g0 : ¬ (i < j)) : RunsTo Try.prog polS 72 (sub [0, 1, 0, 1, 1, 0, 0, 0] B72) (env72 (.sl db 0 n none n 1) (.int .i64 a) (.int .i64 m) (.int .i64 b) (.func 67 [] [cp]) (.int .i64 i) (.int .i64 j) .undef .undef .undef .undef .undef .undef .undef .undef .undef .undef .undef .undef .undef) H (.exit 0) (polS.keys 72) (env72 (.sl db 0 n none n 1) (.int .i64 a) (.int .i64 m) (.int .i64 b) (.func 67 [] [cp]) (.int .i64 i) (.int .i64 j) .undef .undef .undef .undef .undef .undef .undef .undef .undef .undef .undef .undef .undef) H :=
  RunsTo.hint (N + 1) 60 [⟨3, 2, .bool false, H⟩] fun kf hk => by
    obtain ⟨kf, rfl⟩ : ∃ n, kf = n + 1 := ⟨kf - 1, by omega⟩
    exact ⟨[some (HV.bool (decide (i < j)), (H : Heap)) = some (.bool false, H)], by kernel_rfl, Obls.cons (hintB (decide_eq_false g0)) Obls.nil⟩
theorem sy_e_0 (N : Nat) (db n : Nat) (a m b : Int) (cp : HV) (H : Heap) (i j : Int) (v12 : HV)   : RunsTo Try.prog polS 72 (sub [0, 1, 0, 1, 1, 1, 0, 0] B72) (env72 (.sl db 0 n none n 1) (.int .i64 a) (.int .i64 m) (.int .i64 b) (.func 67 [] [cp]) (.int .i64 i) (.int .i64 j) v12 .undef .undef .undef .undef .undef .undef .undef .undef .undef .undef .undef .undef) H (.normal) (polS.keys 72) (env72 (.sl db 0 n none n 1) (.int .i64 a) (.int .i64 m) (.int .i64 b) (.func 67 [] [cp]) (.int .i64 i) (.int .i64 j) v12 (.int .i64 a) .undef .undef .undef .undef .undef .undef .undef .undef .undef .undef .undef) H :=
  RunsTo.hint (N + 1) 60 [] fun kf hk => by
    obtain ⟨kf, rfl⟩ : ∃ n, kf = n + 1 := ⟨kf - 1, by omega⟩
    exact ⟨[], by kernel_rfl, Obls.nil⟩
theorem sy_f_0 (N : Nat) (db n : Nat) (a m b : Int) (cp : HV) (H : Heap) (i k : Int) (x0 : Int) (x1 : Int) (H0 : Heap) (H1 : Heap) (g0 : k < IntKind.i64.wrap (i - 1)) (g1 : idxV Try.prog 24 (.sl db 0 n none n 1) (.int .i64 (IntKind.i64.wrap (k + 1))) = some (.ptr db ((IntKind.i64.wrap (k + 1)).toNat) 0 n)) (g2 : loadV Try.prog H 3 (.ptr db ((IntKind.i64.wrap (k + 1)).toNat) 0 n) = some (.int .i64 x0)) (g3 : idxV Try.prog 24 (.sl db 0 n none n 1) (.int .i64 k) = some (.ptr db ((k).toNat) 0 n)) (g4 : loadV Try.prog H 3 (.ptr db ((k).toNat) 0 n) = some (.int .i64 x1)) (g5 : idxV Try.prog 24 (.sl db 0 n none n 1) (.int .i64 k) = some (.ptr db ((k).toNat) 0 n)) (g6 : storeV Try.prog H 3 (.ptr db ((k).toNat) 0 n) (.int .i64 x0) = some H0) (g7 : idxV Try.prog 24 (.sl db 0 n none n 1) (.int .i64 (IntKind.i64.wrap (k + 1))) = some (.ptr db ((IntKind.i64.wrap (k + 1)).toNat) 0 n)) (g8 : storeV Try.prog H0 3 (.ptr db ((IntKind.i64.wrap (k + 1)).toNat) 0 n) (.int .i64 x1) = some H1) : RunsTo Try.prog polS 72 (sub [0, 1, 0, 1, 1, 1, 0, 1, 0, 0] B72) (env72 (.sl db 0 n none n 1) (.int .i64 a) (.int .i64 m) (.int .i64 b) (.func 67 [] [cp]) (.int .i64 i) .undef .undef (.int .i64 k) .undef .undef .undef .undef .undef .undef .undef .undef .undef .undef .undef) H (.normal) (polS.keys 72) (env72 (.sl db 0 n none n 1) (.int .i64 a) (.int .i64 m) (.int .i64 b) (.func 67 [] [cp]) (.int .i64 i) .undef .undef (.int .i64 (IntKind.i64.wrap (k + 1))) .undef .undef .undef .undef .undef .undef .undef .undef .undef .undef .undef) H1 :=
  RunsTo.hint (N + 1) 60 [⟨9, 3, .bool true, H⟩, ⟨11, 8, .ptr db ((IntKind.i64.wrap (k + 1)).toNat) 0 n, H⟩, ⟨11, 9, .int .i64 x0, H⟩, ⟨11, 12, .ptr db ((k).toNat) 0 n, H⟩, ⟨11, 13, .int .i64 x1, H⟩, ⟨11, 14, .ptr db ((k).toNat) 0 n, H⟩, ⟨11, 15, .tuple [], H0⟩, ⟨11, 16, .ptr db ((IntKind.i64.wrap (k + 1)).toNat) 0 n, H0⟩, ⟨11, 17, .tuple [], H1⟩] fun kf hk => by
    obtain ⟨kf, rfl⟩ : ∃ n, kf = n + 1 := ⟨kf - 1, by omega⟩
    exact ⟨[some (HV.bool (decide (k < IntKind.i64.wrap (i - 1))), (H : Heap)) = some (.bool true, H), (idxV Try.prog 24 (.sl db 0 n none n 1) (.int .i64 (IntKind.i64.wrap (k + 1)))).map (fun v => (v, (H : Heap))) = some (.ptr db ((IntKind.i64.wrap (k + 1)).toNat) 0 n, H), (loadV Try.prog H 3 (.ptr db ((IntKind.i64.wrap (k + 1)).toNat) 0 n)).map (fun v => (v, (H : Heap))) = some (.int .i64 x0, H), (idxV Try.prog 24 (.sl db 0 n none n 1) (.int .i64 k)).map (fun v => (v, (H : Heap))) = some (.ptr db ((k).toNat) 0 n, H), (loadV Try.prog H 3 (.ptr db ((k).toNat) 0 n)).map (fun v => (v, (H : Heap))) = some (.int .i64 x1, H), (idxV Try.prog 24 (.sl db 0 n none n 1) (.int .i64 k)).map (fun v => (v, (H : Heap))) = some (.ptr db ((k).toNat) 0 n, H), (storeV Try.prog H 3 (.ptr db ((k).toNat) 0 n) (.int .i64 x0)).map (fun H => (HV.tuple [], H)) = some (.tuple [], H0), (idxV Try.prog 24 (.sl db 0 n none n 1) (.int .i64 (IntKind.i64.wrap (k + 1)))).map (fun v => (v, (H0 : Heap))) = some (.ptr db ((IntKind.i64.wrap (k + 1)).toNat) 0 n, H0), (storeV Try.prog H0 3 (.ptr db ((IntKind.i64.wrap (k + 1)).toNat) 0 n) (.int .i64 x1)).map (fun H => (HV.tuple [], H)) = some (.tuple [], H1)], by kernel_rfl, Obls.cons (hintB (decide_eq_true g0)) (Obls.cons (hintOp g1) (Obls.cons (hintOp g2) (Obls.cons (hintOp g3) (Obls.cons (hintOp g4) (Obls.cons (hintOp g5) (Obls.cons (hintSt g6) (Obls.cons (hintOp g7) (Obls.cons (hintSt g8) Obls.nil))))))))⟩
theorem sy_f_1 (N : Nat) (db n : Nat) (a m b : Int) (cp : HV) (H : Heap) (i k : Int)  (g0 : ¬ (k < IntKind.i64.wrap (i - 1))) : RunsTo Try.prog polS 72 (sub [0, 1, 0, 1, 1, 1, 0, 1, 0, 0] B72) (env72 (.sl db 0 n none n 1) (.int .i64 a) (.int .i64 m) (.int .i64 b) (.func 67 [] [cp]) (.int .i64 i) .undef .undef (.int .i64 k) .undef .undef .undef .undef .undef .undef .undef .undef .undef .undef .undef) H (.exit 2) (polS.keys 72) (env72 (.sl db 0 n none n 1) (.int .i64 a) (.int .i64 m) (.int .i64 b) (.func 67 [] [cp]) (.int .i64 i) .undef .undef (.int .i64 k) .undef .undef .undef .undef .undef .undef .undef .undef .undef .undef .undef) H :=
  RunsTo.hint (N + 1) 60 [⟨9, 3, .bool false, H⟩] fun kf hk => by
    obtain ⟨kf, rfl⟩ : ∃ n, kf = n + 1 := ⟨kf - 1, by omega⟩
    exact ⟨[some (HV.bool (decide (k < IntKind.i64.wrap (i - 1))), (H : Heap)) = some (.bool false, H)], by kernel_rfl, Obls.cons (hintB (decide_eq_false g0)) Obls.nil⟩
theorem sy_g_0 (N : Nat) (db n : Nat) (a m b : Int) (cp : HV) (H : Heap) (i k : Int)   : RunsTo Try.prog polS 72 (sub [0, 1, 0, 1, 1, 1, 1] B72) (env72 (.sl db 0 n none n 1) (.int .i64 a) (.int .i64 m) (.int .i64 b) (.func 67 [] [cp]) (.int .i64 i) .undef .undef (.int .i64 k) .undef .undef .undef .undef .undef .undef .undef .undef .undef .undef .undef) H (.ret) (polS.keys 72) (env72 (.sl db 0 n none n 1) (.int .i64 a) (.int .i64 m) (.int .i64 b) (.func 67 [] [cp]) (.int .i64 i) .undef .undef (.int .i64 k) .undef .undef .undef .undef .undef .undef .undef .undef .undef .undef .undef) H :=
  RunsTo.hint (N + 1) 60 [] fun kf hk => by
    obtain ⟨kf, rfl⟩ : ∃ n, kf = n + 1 := ⟨kf - 1, by omega⟩
    exact ⟨[], by kernel_rfl, Obls.nil⟩
theorem sy_h_0 (N : Nat) (db n : Nat) (a m b : Int) (cp : HV) (H : Heap)  (g0 : IntKind.i64.wrap (b - m) = 1) : RunsTo Try.prog polS 72 (sub [1, 0, 0] B72) (env72 (.sl db 0 n none n 1) (.int .i64 a) (.int .i64 m) (.int .i64 b) (.func 67 [] [cp]) .undef .undef .undef .undef .undef .undef .undef .undef .undef .undef .undef .undef .undef .undef .undef) H (.normal) [0, 1, 2, 3, 4, 10, 11, 12, 13, 14, 15, 16, 17, 18, 19, 20, 21, 22, 23, 24, 80] [(0, .sl db 0 n none n 1), (1, .int .i64 a), (2, .int .i64 m), (3, .int .i64 b), (4, .func 67 [] [cp]), (10, .undef), (11, .undef), (12, .undef), (13, .undef), (14, .undef), (15, .undef), (16, .undef), (17, .undef), (18, .undef), (19, .undef), (20, .undef), (21, .undef), (22, .undef), (23, .undef), (24, .undef), (80, .bool true)] H :=
  RunsTo.hint (N + 1) 60 [⟨12, 3, .bool true, H⟩] fun kf hk => by
    obtain ⟨kf, rfl⟩ : ∃ n, kf = n + 1 := ⟨kf - 1, by omega⟩
    exact ⟨[some (HV.bool (decide (IntKind.i64.wrap (b - m) = 1)), (H : Heap)) = some (.bool true, H)], by kernel_rfl, Obls.cons (hintB (decide_eq_true g0)) Obls.nil⟩
theorem sy_h_1 (N : Nat) (db n : Nat) (a m b : Int) (cp : HV) (H : Heap)  (g0 : ¬ (IntKind.i64.wrap (b - m) = 1)) : RunsTo Try.prog polS 72 (sub [1, 0, 0] B72) (env72 (.sl db 0 n none n 1) (.int .i64 a) (.int .i64 m) (.int .i64 b) (.func 67 [] [cp]) .undef .undef .undef .undef .undef .undef .undef .undef .undef .undef .undef .undef .undef .undef .undef) H (.normal) [0, 1, 2, 3, 4, 10, 11, 12, 13, 14, 15, 16, 17, 18, 19, 20, 21, 22, 23, 24, 80] [(0, .sl db 0 n none n 1), (1, .int .i64 a), (2, .int .i64 m), (3, .int .i64 b), (4, .func 67 [] [cp]), (10, .undef), (11, .undef), (12, .undef), (13, .undef), (14, .undef), (15, .undef), (16, .undef), (17, .undef), (18, .undef), (19, .undef), (20, .undef), (21, .undef), (22, .undef), (23, .undef), (24, .undef), (80, .bool false)] H :=
  RunsTo.hint (N + 1) 60 [⟨12, 3, .bool false, H⟩] fun kf hk => by
    obtain ⟨kf, rfl⟩ : ∃ n, kf = n + 1 := ⟨kf - 1, by omega⟩
    exact ⟨[some (HV.bool (decide (IntKind.i64.wrap (b - m) = 1)), (H : Heap)) = some (.bool false, H)], by kernel_rfl, Obls.cons (hintB (decide_eq_false g0)) Obls.nil⟩
theorem sy_i_0 (N : Nat) (db n : Nat) (a m b : Int) (cp : HV) (H : Heap)   : RunsTo Try.prog polS 72 (sub [1, 0, 1, 0, 0] B72) (env72 (.sl db 0 n none n 1) (.int .i64 a) (.int .i64 m) (.int .i64 b) (.func 67 [] [cp]) .undef .undef .undef .undef .undef .undef .undef .undef .undef .undef .undef .undef .undef .undef .undef) H (.normal) (polS.keys 72) (env72 (.sl db 0 n none n 1) (.int .i64 a) (.int .i64 m) (.int .i64 b) (.func 67 [] [cp]) .undef .undef .undef .undef (.int .i64 a) .undef .undef .undef .undef .undef .undef .undef .undef .undef .undef) H :=
  RunsTo.hint (N + 1) 60 [] fun kf hk => by
    obtain ⟨kf, rfl⟩ : ∃ n, kf = n + 1 := ⟨kf - 1, by omega⟩
    exact ⟨[], by kernel_rfl, Obls.nil⟩
theorem sy_j_0 (N : Nat) (db n : Nat) (a m b : Int) (cp : HV) (H : Heap) (i : Int)   : RunsTo Try.prog polS 72 (sub [1, 0, 1, 0, 1, 0] B72) (env72 (.sl db 0 n none n 1) (.int .i64 a) (.int .i64 m) (.int .i64 b) (.func 67 [] [cp]) .undef .undef .undef .undef (.int .i64 i) .undef .undef .undef .undef .undef .undef .undef .undef .undef .undef) H (.normal) (polS.keys 72) (env72 (.sl db 0 n none n 1) (.int .i64 a) (.int .i64 m) (.int .i64 b) (.func 67 [] [cp]) .undef .undef .undef .undef (.int .i64 i) (.int .i64 m) .undef .undef .undef .undef .undef .undef .undef .undef .undef) H :=
  RunsTo.hint (N + 1) 60 [] fun kf hk => by
    obtain ⟨kf, rfl⟩ : ∃ n, kf = n + 1 := ⟨kf - 1, by omega⟩
    exact ⟨[], by kernel_rfl, Obls.nil⟩
theorem sy_k_0 (N : Nat) (db n : Nat) (a m b : Int) (cp : HV) (H : Heap) (i j : Int) (h0 : Int) (x0 : Int) (x1 : Int) (c0 : Int) (H0 : Heap) (g0 : i < j) (g1 : binV Try.prog .shr 76 (.int .u64 (IntKind.u64.wrap (IntKind.i64.wrap (i + j)))) (.int .u64 1) = some (.int .u64 h0)) (g2 : idxV Try.prog 24 (.sl db 0 n none n 1) (.int .i64 m) = some (.ptr db ((m).toNat) 0 n)) (g3 : loadV Try.prog H 3 (.ptr db ((m).toNat) 0 n) = some (.int .i64 x0)) (g4 : idxV Try.prog 24 (.sl db 0 n none n 1) (.int .i64 (IntKind.i64.wrap h0)) = some (.ptr db ((IntKind.i64.wrap h0).toNat) 0 n)) (g5 : loadV Try.prog H 3 (.ptr db ((IntKind.i64.wrap h0).toNat) 0 n) = some (.int .i64 x1)) (g6 : ∀ kf, N ≤ kf → callN Try.prog polS (kf + 1) 67 [.int .i64 x0, .int .i64 x1, cp] H = some (.int .i64 c0, H0)) (g7 : c0 < 0) : RunsTo Try.prog polS 72 (sub [1, 0, 1, 0, 1, 1, 0, 0, 0] B72) (env72 (.sl db 0 n none n 1) (.int .i64 a) (.int .i64 m) (.int .i64 b) (.func 67 [] [cp]) .undef .undef .undef .undef (.int .i64 i) (.int .i64 j) .undef .undef .undef .undef .undef .undef .undef .undef .undef) H (.normal) (polS.keys 72) (env72 (.sl db 0 n none n 1) (.int .i64 a) (.int .i64 m) (.int .i64 b) (.func 67 [] [cp]) .undef .undef .undef .undef (.int .i64 i) (.int .i64 (IntKind.i64.wrap h0)) (.int .i64 (IntKind.i64.wrap h0)) .undef .undef .undef .undef .undef .undef .undef .undef) H0 :=
  RunsTo.hint (N + 1) 60 [⟨15, 2, .bool true, H⟩, ⟨16, 4, .int .u64 h0, H⟩, ⟨17, 3, .ptr db ((m).toNat) 0 n, H⟩, ⟨17, 4, .int .i64 x0, H⟩, ⟨17, 7, .ptr db ((IntKind.i64.wrap h0).toNat) 0 n, H⟩, ⟨17, 8, .int .i64 x1, H⟩, ⟨17, 9, .int .i64 c0, H0⟩, ⟨17, 10, .bool true, H0⟩] fun kf hk => by
    obtain ⟨kf, rfl⟩ : ∃ n, kf = n + 1 := ⟨kf - 1, by omega⟩
    exact ⟨[some (HV.bool (decide (i < j)), (H : Heap)) = some (.bool true, H), (binV Try.prog .shr 76 (.int .u64 (IntKind.u64.wrap (IntKind.i64.wrap (i + j)))) (.int .u64 1)).map (fun v => (v, (H : Heap))) = some (.int .u64 h0, H), (idxV Try.prog 24 (.sl db 0 n none n 1) (.int .i64 m)).map (fun v => (v, (H : Heap))) = some (.ptr db ((m).toNat) 0 n, H), (loadV Try.prog H 3 (.ptr db ((m).toNat) 0 n)).map (fun v => (v, (H : Heap))) = some (.int .i64 x0, H), (idxV Try.prog 24 (.sl db 0 n none n 1) (.int .i64 (IntKind.i64.wrap h0))).map (fun v => (v, (H : Heap))) = some (.ptr db ((IntKind.i64.wrap h0).toNat) 0 n, H), (loadV Try.prog H 3 (.ptr db ((IntKind.i64.wrap h0).toNat) 0 n)).map (fun v => (v, (H : Heap))) = some (.int .i64 x1, H), callN Try.prog polS (kf + 1) 67 [.int .i64 x0, .int .i64 x1, cp] H = some (.int .i64 c0, H0), some (HV.bool (decide (c0 < 0)), (H0 : Heap)) = some (.bool true, H0)], by kernel_rfl, Obls.cons (hintB (decide_eq_true g0)) (Obls.cons (hintOp g1) (Obls.cons (hintOp g2) (Obls.cons (hintOp g3) (Obls.cons (hintOp g4) (Obls.cons (hintOp g5) (Obls.cons (g6 kf (by omega)) (Obls.cons (hintB (decide_eq_true g7)) Obls.nil)))))))⟩
theorem sy_k_1 (N : Nat) (db n : Nat) (a m b : Int) (cp : HV) (H : Heap) (i j : Int) (h0 : Int) (x0 : Int) (x1 : Int) (c0 : Int) (H0 : Heap) (g0 : i < j) (g1 : binV Try.prog .shr 76 (.int .u64 (IntKind.u64.wrap (IntKind.i64.wrap (i + j)))) (.int .u64 1) = some (.int .u64 h0)) (g2 : idxV Try.prog 24 (.sl db 0 n none n 1) (.int .i64 m) = some (.ptr db ((m).toNat) 0 n)) (g3 : loadV Try.prog H 3 (.ptr db ((m).toNat) 0 n) = some (.int .i64 x0)) (g4 : idxV Try.prog 24 (.sl db 0 n none n 1) (.int .i64 (IntKind.i64.wrap h0)) = some (.ptr db ((IntKind.i64.wrap h0).toNat) 0 n)) (g5 : loadV Try.prog H 3 (.ptr db ((IntKind.i64.wrap h0).toNat) 0 n) = some (.int .i64 x1)) (g6 : ∀ kf, N ≤ kf → callN Try.prog polS (kf + 1) 67 [.int .i64 x0, .int .i64 x1, cp] H = some (.int .i64 c0, H0)) (g7 : ¬ (c0 < 0)) : RunsTo Try.prog polS 72 (sub [1, 0, 1, 0, 1, 1, 0, 0, 0] B72) (env72 (.sl db 0 n none n 1) (.int .i64 a) (.int .i64 m) (.int .i64 b) (.func 67 [] [cp]) .undef .undef .undef .undef (.int .i64 i) (.int .i64 j) .undef .undef .undef .undef .undef .undef .undef .undef .undef) H (.normal) (polS.keys 72) (env72 (.sl db 0 n none n 1) (.int .i64 a) (.int .i64 m) (.int .i64 b) (.func 67 [] [cp]) .undef .undef .undef .undef (.int .i64 (IntKind.i64.wrap (IntKind.i64.wrap h0 + 1))) (.int .i64 j) (.int .i64 (IntKind.i64.wrap h0)) .undef .undef .undef .undef .undef .undef .undef .undef) H0 :=
  RunsTo.hint (N + 1) 60 [⟨15, 2, .bool true, H⟩, ⟨16, 4, .int .u64 h0, H⟩, ⟨17, 3, .ptr db ((m).toNat) 0 n, H⟩, ⟨17, 4, .int .i64 x0, H⟩, ⟨17, 7, .ptr db ((IntKind.i64.wrap h0).toNat) 0 n, H⟩, ⟨17, 8, .int .i64 x1, H⟩, ⟨17, 9, .int .i64 c0, H0⟩, ⟨17, 10, .bool false, H0⟩] fun kf hk => by
    obtain ⟨kf, rfl⟩ : ∃ n, kf = n + 1 := ⟨kf - 1, by omega⟩
    exact ⟨[some (HV.bool (decide (i < j)), (H : Heap)) = some (.bool true, H), (binV Try.prog .shr 76 (.int .u64 (IntKind.u64.wrap (IntKind.i64.wrap (i + j)))) (.int .u64 1)).map (fun v => (v, (H : Heap))) = some (.int .u64 h0, H), (idxV Try.prog 24 (.sl db 0 n none n 1) (.int .i64 m)).map (fun v => (v, (H : Heap))) = some (.ptr db ((m).toNat) 0 n, H), (loadV Try.prog H 3 (.ptr db ((m).toNat) 0 n)).map (fun v => (v, (H : Heap))) = some (.int .i64 x0, H), (idxV Try.prog 24 (.sl db 0 n none n 1) (.int .i64 (IntKind.i64.wrap h0))).map (fun v => (v, (H : Heap))) = some (.ptr db ((IntKind.i64.wrap h0).toNat) 0 n, H), (loadV Try.prog H 3 (.ptr db ((IntKind.i64.wrap h0).toNat) 0 n)).map (fun v => (v, (H : Heap))) = some (.int .i64 x1, H), callN Try.prog polS (kf + 1) 67 [.int .i64 x0, .int .i64 x1, cp] H = some (.int .i64 c0, H0), some (HV.bool (decide (c0 < 0)), (H0 : Heap)) = some (.bool false, H0)], by kernel_rfl, Obls.cons (hintB (decide_eq_true g0)) (Obls.cons (hintOp g1) (Obls.cons (hintOp g2) (Obls.cons (hintOp g3) (Obls.cons (hintOp g4) (Obls.cons (hintOp g5) (Obls.cons (g6 kf (by omega)) (Obls.cons (hintB (decide_eq_false g7)) Obls.nil)))))))⟩
theorem sy_k_2 (N : Nat) (db n : Nat) (a m b : Int) (cp : HV) (H : Heap) (i j : Int)  (g0 : ¬ (i < j)) : RunsTo Try.prog polS 72 (sub [1, 0, 1, 0, 1, 1, 0, 0, 0] B72) (env72 (.sl db 0 n none n 1) (.int .i64 a) (.int .i64 m) (.int .i64 b) (.func 67 [] [cp]) .undef .undef .undef .undef (.int .i64 i) (.int .i64 j) .undef .undef .undef .undef .undef .undef .undef .undef .undef) H (.exit 4) (polS.keys 72) (env72 (.sl db 0 n none n 1) (.int .i64 a) (.int .i64 m) (.int .i64 b) (.func 67 [] [cp]) .undef .undef .undef .undef (.int .i64 i) (.int .i64 j) .undef .undef .undef .undef .undef .undef .undef .undef .undef) H :=
  RunsTo.hint (N + 1) 60 [⟨15, 2, .bool false, H⟩] fun kf hk => by
    obtain ⟨kf, rfl⟩ : ∃ n, kf = n + 1 := ⟨kf - 1, by omega⟩
    exact ⟨[some (HV.bool (decide (i < j)), (H : Heap)) = some (.bool false, H)], by kernel_rfl, Obls.cons (hintB (decide_eq_false g0)) Obls.nil⟩
theorem sy_l_0 (N : Nat) (db n : Nat) (a m b : Int) (cp : HV) (H : Heap) (i j : Int) (v16 : HV)   : RunsTo Try.prog polS 72 (sub [1, 0, 1, 0, 1, 1, 1, 0, 0] B72) (env72 (.sl db 0 n none n 1) (.int .i64 a) (.int .i64 m) (.int .i64 b) (.func 67 [] [cp]) .undef .undef .undef .undef (.int .i64 i) (.int .i64 j) v16 .undef .undef .undef .undef .undef .undef .undef .undef) H (.normal) (polS.keys 72) (env72 (.sl db 0 n none n 1) (.int .i64 a) (.int .i64 m) (.int .i64 b) (.func 67 [] [cp]) .undef .undef .undef .undef (.int .i64 i) (.int .i64 j) v16 (.int .i64 m) .undef .undef .undef .undef .undef .undef .undef) H :=
  RunsTo.hint (N + 1) 60 [] fun kf hk => by
    obtain ⟨kf, rfl⟩ : ∃ n, kf = n + 1 := ⟨kf - 1, by omega⟩
    exact ⟨[], by kernel_rfl, Obls.nil⟩
theorem sy_m_0 (N : Nat) (db n : Nat) (a m b : Int) (cp : HV) (H : Heap) (i k : Int) (x0 : Int) (x1 : Int) (H0 : Heap) (H1 : Heap) (g0 : i < k) (g1 : idxV Try.prog 24 (.sl db 0 n none n 1) (.int .i64 (IntKind.i64.wrap (k - 1))) = some (.ptr db ((IntKind.i64.wrap (k - 1)).toNat) 0 n)) (g2 : loadV Try.prog H 3 (.ptr db ((IntKind.i64.wrap (k - 1)).toNat) 0 n) = some (.int .i64 x0)) (g3 : idxV Try.prog 24 (.sl db 0 n none n 1) (.int .i64 k) = some (.ptr db ((k).toNat) 0 n)) (g4 : loadV Try.prog H 3 (.ptr db ((k).toNat) 0 n) = some (.int .i64 x1)) (g5 : idxV Try.prog 24 (.sl db 0 n none n 1) (.int .i64 k) = some (.ptr db ((k).toNat) 0 n)) (g6 : storeV Try.prog H 3 (.ptr db ((k).toNat) 0 n) (.int .i64 x0) = some H0) (g7 : idxV Try.prog 24 (.sl db 0 n none n 1) (.int .i64 (IntKind.i64.wrap (k - 1))) = some (.ptr db ((IntKind.i64.wrap (k - 1)).toNat) 0 n)) (g8 : storeV Try.prog H0 3 (.ptr db ((IntKind.i64.wrap (k - 1)).toNat) 0 n) (.int .i64 x1) = some H1) : RunsTo Try.prog polS 72 (sub [1, 0, 1, 0, 1, 1, 1, 0, 1, 0, 0] B72) (env72 (.sl db 0 n none n 1) (.int .i64 a) (.int .i64 m) (.int .i64 b) (.func 67 [] [cp]) .undef .undef .undef .undef (.int .i64 i) .undef .undef (.int .i64 k) .undef .undef .undef .undef .undef .undef .undef) H (.normal) (polS.keys 72) (env72 (.sl db 0 n none n 1) (.int .i64 a) (.int .i64 m) (.int .i64 b) (.func 67 [] [cp]) .undef .undef .undef .undef (.int .i64 i) .undef .undef (.int .i64 (IntKind.i64.wrap (k - 1))) .undef .undef .undef .undef .undef .undef .undef) H1 :=
  RunsTo.hint (N + 1) 60 [⟨21, 2, .bool true, H⟩, ⟨23, 8, .ptr db ((IntKind.i64.wrap (k - 1)).toNat) 0 n, H⟩, ⟨23, 9, .int .i64 x0, H⟩, ⟨23, 12, .ptr db ((k).toNat) 0 n, H⟩, ⟨23, 13, .int .i64 x1, H⟩, ⟨23, 14, .ptr db ((k).toNat) 0 n, H⟩, ⟨23, 15, .tuple [], H0⟩, ⟨23, 16, .ptr db ((IntKind.i64.wrap (k - 1)).toNat) 0 n, H0⟩, ⟨23, 17, .tuple [], H1⟩] fun kf hk => by
    obtain ⟨kf, rfl⟩ : ∃ n, kf = n + 1 := ⟨kf - 1, by omega⟩
    exact ⟨[some (HV.bool (decide (i < k)), (H : Heap)) = some (.bool true, H), (idxV Try.prog 24 (.sl db 0 n none n 1) (.int .i64 (IntKind.i64.wrap (k - 1)))).map (fun v => (v, (H : Heap))) = some (.ptr db ((IntKind.i64.wrap (k - 1)).toNat) 0 n, H), (loadV Try.prog H 3 (.ptr db ((IntKind.i64.wrap (k - 1)).toNat) 0 n)).map (fun v => (v, (H : Heap))) = some (.int .i64 x0, H), (idxV Try.prog 24 (.sl db 0 n none n 1) (.int .i64 k)).map (fun v => (v, (H : Heap))) = some (.ptr db ((k).toNat) 0 n, H), (loadV Try.prog H 3 (.ptr db ((k).toNat) 0 n)).map (fun v => (v, (H : Heap))) = some (.int .i64 x1, H), (idxV Try.prog 24 (.sl db 0 n none n 1) (.int .i64 k)).map (fun v => (v, (H : Heap))) = some (.ptr db ((k).toNat) 0 n, H), (storeV Try.prog H 3 (.ptr db ((k).toNat) 0 n) (.int .i64 x0)).map (fun H => (HV.tuple [], H)) = some (.tuple [], H0), (idxV Try.prog 24 (.sl db 0 n none n 1) (.int .i64 (IntKind.i64.wrap (k - 1)))).map (fun v => (v, (H0 : Heap))) = some (.ptr db ((IntKind.i64.wrap (k - 1)).toNat) 0 n, H0), (storeV Try.prog H0 3 (.ptr db ((IntKind.i64.wrap (k - 1)).toNat) 0 n) (.int .i64 x1)).map (fun H => (HV.tuple [], H)) = some (.tuple [], H1)], by kernel_rfl, Obls.cons (hintB (decide_eq_true g0)) (Obls.cons (hintOp g1) (Obls.cons (hintOp g2) (Obls.cons (hintOp g3) (Obls.cons (hintOp g4) (Obls.cons (hintOp g5) (Obls.cons (hintSt g6) (Obls.cons (hintOp g7) (Obls.cons (hintSt g8) Obls.nil))))))))⟩
theorem sy_m_1 (N : Nat) (db n : Nat) (a m b : Int) (cp : HV) (H : Heap) (i k : Int)  (g0 : ¬ (i < k)) : RunsTo Try.prog polS 72 (sub [1, 0, 1, 0, 1, 1, 1, 0, 1, 0, 0] B72) (env72 (.sl db 0 n none n 1) (.int .i64 a) (.int .i64 m) (.int .i64 b) (.func 67 [] [cp]) .undef .undef .undef .undef (.int .i64 i) .undef .undef (.int .i64 k) .undef .undef .undef .undef .undef .undef .undef) H (.exit 6) (polS.keys 72) (env72 (.sl db 0 n none n 1) (.int .i64 a) (.int .i64 m) (.int .i64 b) (.func 67 [] [cp]) .undef .undef .undef .undef (.int .i64 i) .undef .undef (.int .i64 k) .undef .undef .undef .undef .undef .undef .undef) H :=
  RunsTo.hint (N + 1) 60 [⟨21, 2, .bool false, H⟩] fun kf hk => by
    obtain ⟨kf, rfl⟩ : ∃ n, kf = n + 1 := ⟨kf - 1, by omega⟩
    exact ⟨[some (HV.bool (decide (i < k)), (H : Heap)) = some (.bool false, H)], by kernel_rfl, Obls.cons (hintB (decide_eq_false g0)) Obls.nil⟩
theorem sy_n_0 (N : Nat) (db n : Nat) (a m b : Int) (cp : HV) (H : Heap) (i k : Int)   : RunsTo Try.prog polS 72 (sub [1, 0, 1, 0, 1, 1, 1, 1] B72) (env72 (.sl db 0 n none n 1) (.int .i64 a) (.int .i64 m) (.int .i64 b) (.func 67 [] [cp]) .undef .undef .undef .undef (.int .i64 i) .undef .undef (.int .i64 k) .undef .undef .undef .undef .undef .undef .undef) H (.ret) (polS.keys 72) (env72 (.sl db 0 n none n 1) (.int .i64 a) (.int .i64 m) (.int .i64 b) (.func 67 [] [cp]) .undef .undef .undef .undef (.int .i64 i) .undef .undef (.int .i64 k) .undef .undef .undef .undef .undef .undef .undef) H :=
  RunsTo.hint (N + 1) 60 [] fun kf hk => by
    obtain ⟨kf, rfl⟩ : ∃ n, kf = n + 1 := ⟨kf - 1, by omega⟩
    exact ⟨[], by kernel_rfl, Obls.nil⟩
theorem sy_o_0 (N : Nat) (db n : Nat) (a m b : Int) (cp : HV) (H : Heap) (h0 : Int) (g0 : binV Try.prog .shr 76 (.int .u64 (IntKind.u64.wrap (IntKind.i64.wrap (a + b)))) (.int .u64 1) = some (.int .u64 h0)) : RunsTo Try.prog polS 72 (sub [1, 1, 0] B72) (env72 (.sl db 0 n none n 1) (.int .i64 a) (.int .i64 m) (.int .i64 b) (.func 67 [] [cp]) .undef .undef .undef .undef .undef .undef .undef .undef .undef .undef .undef .undef .undef .undef .undef) H (.normal) (polS.keys 72) (env72 (.sl db 0 n none n 1) (.int .i64 a) (.int .i64 m) (.int .i64 b) (.func 67 [] [cp]) .undef .undef .undef .undef .undef .undef .undef .undef (.int .i64 (IntKind.i64.wrap h0)) .undef .undef .undef .undef .undef .undef) H :=
  RunsTo.hint (N + 1) 60 [⟨24, 4, .int .u64 h0, H⟩] fun kf hk => by
    obtain ⟨kf, rfl⟩ : ∃ n, kf = n + 1 := ⟨kf - 1, by omega⟩
    exact ⟨[(binV Try.prog .shr 76 (.int .u64 (IntKind.u64.wrap (IntKind.i64.wrap (a + b)))) (.int .u64 1)).map (fun v => (v, (H : Heap))) = some (.int .u64 h0, H)], by kernel_rfl, Obls.cons (hintOp g0) Obls.nil⟩
theorem sy_p_0 (N : Nat) (db n : Nat) (a m b : Int) (cp : HV) (H : Heap) (mid : Int)   : RunsTo Try.prog polS 72 (sub [1, 1, 1, 0] B72) (env72 (.sl db 0 n none n 1) (.int .i64 a) (.int .i64 m) (.int .i64 b) (.func 67 [] [cp]) .undef .undef .undef .undef .undef .undef .undef .undef (.int .i64 mid) .undef .undef .undef .undef .undef .undef) H (.normal) (polS.keys 72) (env72 (.sl db 0 n none n 1) (.int .i64 a) (.int .i64 m) (.int .i64 b) (.func 67 [] [cp]) .undef .undef .undef .undef .undef .undef .undef .undef (.int .i64 mid) (.int .i64 (IntKind.i64.wrap (mid + m))) .undef .undef .undef .undef .undef) H :=
  RunsTo.hint (N + 1) 60 [] fun kf hk => by
    obtain ⟨kf, rfl⟩ : ∃ n, kf = n + 1 := ⟨kf - 1, by omega⟩
    exact ⟨[], by kernel_rfl, Obls.nil⟩
theorem sy_q_0 (N : Nat) (db n : Nat) (a m b : Int) (cp : HV) (H : Heap) (mid : Int) (nn : Int)   : RunsTo Try.prog polS 72 (sub [1, 1, 1, 1, 0] B72) (env72 (.sl db 0 n none n 1) (.int .i64 a) (.int .i64 m) (.int .i64 b) (.func 67 [] [cp]) .undef .undef .undef .undef .undef .undef .undef .undef (.int .i64 mid) (.int .i64 nn) .undef .undef .undef .undef .undef) H (.normal) (polS.keys 72) (env72 (.sl db 0 n none n 1) (.int .i64 a) (.int .i64 m) (.int .i64 b) (.func 67 [] [cp]) .undef .undef .undef .undef .undef .undef .undef .undef (.int .i64 mid) (.int .i64 nn) (.int .i64 0) (.int .i64 0) .undef .undef .undef) H :=
  RunsTo.hint (N + 1) 60 [] fun kf hk => by
    obtain ⟨kf, rfl⟩ : ∃ n, kf = n + 1 := ⟨kf - 1, by omega⟩
    exact ⟨[], by kernel_rfl, Obls.nil⟩
theorem sy_r_0 (N : Nat) (db n : Nat) (a m b : Int) (cp : HV) (H : Heap) (mid : Int) (nn : Int)  (g0 : mid < m) : RunsTo Try.prog polS 72 (sub [1, 1, 1, 1, 1, 0] B72) (env72 (.sl db 0 n none n 1) (.int .i64 a) (.int .i64 m) (.int .i64 b) (.func 67 [] [cp]) .undef .undef .undef .undef .undef .undef .undef .undef (.int .i64 mid) (.int .i64 nn) (.int .i64 0) (.int .i64 0) .undef .undef .undef) H (.normal) (polS.keys 72) (env72 (.sl db 0 n none n 1) (.int .i64 a) (.int .i64 m) (.int .i64 b) (.func 67 [] [cp]) .undef .undef .undef .undef .undef .undef .undef .undef (.int .i64 mid) (.int .i64 nn) (.int .i64 (IntKind.i64.wrap (nn - b))) (.int .i64 mid) .undef .undef .undef) H :=
  RunsTo.hint (N + 1) 60 [⟨27, 2, .bool true, H⟩] fun kf hk => by
    obtain ⟨kf, rfl⟩ : ∃ n, kf = n + 1 := ⟨kf - 1, by omega⟩
    exact ⟨[some (HV.bool (decide (mid < m)), (H : Heap)) = some (.bool true, H)], by kernel_rfl, Obls.cons (hintB (decide_eq_true g0)) Obls.nil⟩
theorem sy_r_1 (N : Nat) (db n : Nat) (a m b : Int) (cp : HV) (H : Heap) (mid : Int) (nn : Int)  (g0 : ¬ (mid < m)) : RunsTo Try.prog polS 72 (sub [1, 1, 1, 1, 1, 0] B72) (env72 (.sl db 0 n none n 1) (.int .i64 a) (.int .i64 m) (.int .i64 b) (.func 67 [] [cp]) .undef .undef .undef .undef .undef .undef .undef .undef (.int .i64 mid) (.int .i64 nn) (.int .i64 0) (.int .i64 0) .undef .undef .undef) H (.normal) (polS.keys 72) (env72 (.sl db 0 n none n 1) (.int .i64 a) (.int .i64 m) (.int .i64 b) (.func 67 [] [cp]) .undef .undef .undef .undef .undef .undef .undef .undef (.int .i64 mid) (.int .i64 nn) (.int .i64 a) (.int .i64 m) .undef .undef .undef) H :=
  RunsTo.hint (N + 1) 60 [⟨27, 2, .bool false, H⟩] fun kf hk => by
    obtain ⟨kf, rfl⟩ : ∃ n, kf = n + 1 := ⟨kf - 1, by omega⟩
    exact ⟨[some (HV.bool (decide (mid < m)), (H : Heap)) = some (.bool false, H)], by kernel_rfl, Obls.cons (hintB (decide_eq_false g0)) Obls.nil⟩
theorem sy_s_0 (N : Nat) (db n : Nat) (a m b : Int) (cp : HV) (H : Heap) (mid : Int) (nn : Int) (s r : Int)   : RunsTo Try.prog polS 72 (sub [1, 1, 1, 1, 1, 1, 0] B72) (env72 (.sl db 0 n none n 1) (.int .i64 a) (.int .i64 m) (.int .i64 b) (.func 67 [] [cp]) .undef .undef .undef .undef .undef .undef .undef .undef (.int .i64 mid) (.int .i64 nn) (.int .i64 s) (.int .i64 r) .undef .undef .undef) H (.normal) (polS.keys 72) (env72 (.sl db 0 n none n 1) (.int .i64 a) (.int .i64 m) (.int .i64 b) (.func 67 [] [cp]) .undef .undef .undef .undef .undef .undef .undef .undef (.int .i64 mid) (.int .i64 nn) (.int .i64 s) (.int .i64 r) (.int .i64 (IntKind.i64.wrap (nn - 1))) .undef .undef) H :=
  RunsTo.hint (N + 1) 60 [] fun kf hk => by
    obtain ⟨kf, rfl⟩ : ∃ n, kf = n + 1 := ⟨kf - 1, by omega⟩
    exact ⟨[], by kernel_rfl, Obls.nil⟩
theorem sy_t_0 (N : Nat) (db n : Nat) (a m b : Int) (cp : HV) (H : Heap) (mid : Int) (nn : Int) (s r : Int) (p : Int) (h0 : Int) (x0 : Int) (x1 : Int) (c0 : Int) (H0 : Heap) (g0 : s < r) (g1 : binV Try.prog .shr 76 (.int .u64 (IntKind.u64.wrap (IntKind.i64.wrap (s + r)))) (.int .u64 1) = some (.int .u64 h0)) (g2 : idxV Try.prog 24 (.sl db 0 n none n 1) (.int .i64 (IntKind.i64.wrap (p - IntKind.i64.wrap h0))) = some (.ptr db ((IntKind.i64.wrap (p - IntKind.i64.wrap h0)).toNat) 0 n)) (g3 : loadV Try.prog H 3 (.ptr db ((IntKind.i64.wrap (p - IntKind.i64.wrap h0)).toNat) 0 n) = some (.int .i64 x0)) (g4 : idxV Try.prog 24 (.sl db 0 n none n 1) (.int .i64 (IntKind.i64.wrap h0)) = some (.ptr db ((IntKind.i64.wrap h0).toNat) 0 n)) (g5 : loadV Try.prog H 3 (.ptr db ((IntKind.i64.wrap h0).toNat) 0 n) = some (.int .i64 x1)) (g6 : ∀ kf, N ≤ kf → callN Try.prog polS (kf + 1) 67 [.int .i64 x0, .int .i64 x1, cp] H = some (.int .i64 c0, H0)) (g7 : c0 < 0) : RunsTo Try.prog polS 72 (sub [1, 1, 1, 1, 1, 1, 1, 0, 0, 0] B72) (env72 (.sl db 0 n none n 1) (.int .i64 a) (.int .i64 m) (.int .i64 b) (.func 67 [] [cp]) .undef .undef .undef .undef .undef .undef .undef .undef (.int .i64 mid) (.int .i64 nn) (.int .i64 s) (.int .i64 r) (.int .i64 p) .undef .undef) H (.normal) (polS.keys 72) (env72 (.sl db 0 n none n 1) (.int .i64 a) (.int .i64 m) (.int .i64 b) (.func 67 [] [cp]) .undef .undef .undef .undef .undef .undef .undef .undef (.int .i64 mid) (.int .i64 nn) (.int .i64 s) (.int .i64 (IntKind.i64.wrap h0)) (.int .i64 p) (.int .i64 (IntKind.i64.wrap h0)) .undef) H0 :=
  RunsTo.hint (N + 1) 60 [⟨33, 2, .bool true, H⟩, ⟨34, 4, .int .u64 h0, H⟩, ⟨35, 5, .ptr db ((IntKind.i64.wrap (p - IntKind.i64.wrap h0)).toNat) 0 n, H⟩, ⟨35, 6, .int .i64 x0, H⟩, ⟨35, 9, .ptr db ((IntKind.i64.wrap h0).toNat) 0 n, H⟩, ⟨35, 10, .int .i64 x1, H⟩, ⟨35, 11, .int .i64 c0, H0⟩, ⟨35, 12, .bool true, H0⟩] fun kf hk => by
    obtain ⟨kf, rfl⟩ : ∃ n, kf = n + 1 := ⟨kf - 1, by omega⟩
    exact ⟨[some (HV.bool (decide (s < r)), (H : Heap)) = some (.bool true, H), (binV Try.prog .shr 76 (.int .u64 (IntKind.u64.wrap (IntKind.i64.wrap (s + r)))) (.int .u64 1)).map (fun v => (v, (H : Heap))) = some (.int .u64 h0, H), (idxV Try.prog 24 (.sl db 0 n none n 1) (.int .i64 (IntKind.i64.wrap (p - IntKind.i64.wrap h0)))).map (fun v => (v, (H : Heap))) = some (.ptr db ((IntKind.i64.wrap (p - IntKind.i64.wrap h0)).toNat) 0 n, H), (loadV Try.prog H 3 (.ptr db ((IntKind.i64.wrap (p - IntKind.i64.wrap h0)).toNat) 0 n)).map (fun v => (v, (H : Heap))) = some (.int .i64 x0, H), (idxV Try.prog 24 (.sl db 0 n none n 1) (.int .i64 (IntKind.i64.wrap h0))).map (fun v => (v, (H : Heap))) = some (.ptr db ((IntKind.i64.wrap h0).toNat) 0 n, H), (loadV Try.prog H 3 (.ptr db ((IntKind.i64.wrap h0).toNat) 0 n)).map (fun v => (v, (H : Heap))) = some (.int .i64 x1, H), callN Try.prog polS (kf + 1) 67 [.int .i64 x0, .int .i64 x1, cp] H = some (.int .i64 c0, H0), some (HV.bool (decide (c0 < 0)), (H0 : Heap)) = some (.bool true, H0)], by kernel_rfl, Obls.cons (hintB (decide_eq_true g0)) (Obls.cons (hintOp g1) (Obls.cons (hintOp g2) (Obls.cons (hintOp g3) (Obls.cons (hintOp g4) (Obls.cons (hintOp g5) (Obls.cons (g6 kf (by omega)) (Obls.cons (hintB (decide_eq_true g7)) Obls.nil)))))))⟩
theorem sy_t_1 (N : Nat) (db n : Nat) (a m b : Int) (cp : HV) (H : Heap) (mid : Int) (nn : Int) (s r : Int) (p : Int) (h0 : Int) (x0 : Int) (x1 : Int) (c0 : Int) (H0 : Heap) (g0 : s < r) (g1 : binV Try.prog .shr 76 (.int .u64 (IntKind.u64.wrap (IntKind.i64.wrap (s + r)))) (.int .u64 1) = some (.int .u64 h0)) (g2 : idxV Try.prog 24 (.sl db 0 n none n 1) (.int .i64 (IntKind.i64.wrap (p - IntKind.i64.wrap h0))) = some (.ptr db ((IntKind.i64.wrap (p - IntKind.i64.wrap h0)).toNat) 0 n)) (g3 : loadV Try.prog H 3 (.ptr db ((IntKind.i64.wrap (p - IntKind.i64.wrap h0)).toNat) 0 n) = some (.int .i64 x0)) (g4 : idxV Try.prog 24 (.sl db 0 n none n 1) (.int .i64 (IntKind.i64.wrap h0)) = some (.ptr db ((IntKind.i64.wrap h0).toNat) 0 n)) (g5 : loadV Try.prog H 3 (.ptr db ((IntKind.i64.wrap h0).toNat) 0 n) = some (.int .i64 x1)) (g6 : ∀ kf, N ≤ kf → callN Try.prog polS (kf + 1) 67 [.int .i64 x0, .int .i64 x1, cp] H = some (.int .i64 c0, H0)) (g7 : ¬ (c0 < 0)) : RunsTo Try.prog polS 72 (sub [1, 1, 1, 1, 1, 1, 1, 0, 0, 0] B72) (env72 (.sl db 0 n none n 1) (.int .i64 a) (.int .i64 m) (.int .i64 b) (.func 67 [] [cp]) .undef .undef .undef .undef .undef .undef .undef .undef (.int .i64 mid) (.int .i64 nn) (.int .i64 s) (.int .i64 r) (.int .i64 p) .undef .undef) H (.normal) (polS.keys 72) (env72 (.sl db 0 n none n 1) (.int .i64 a) (.int .i64 m) (.int .i64 b) (.func 67 [] [cp]) .undef .undef .undef .undef .undef .undef .undef .undef (.int .i64 mid) (.int .i64 nn) (.int .i64 (IntKind.i64.wrap (IntKind.i64.wrap h0 + 1))) (.int .i64 r) (.int .i64 p) (.int .i64 (IntKind.i64.wrap h0)) .undef) H0 :=
  RunsTo.hint (N + 1) 60 [⟨33, 2, .bool true, H⟩, ⟨34, 4, .int .u64 h0, H⟩, ⟨35, 5, .ptr db ((IntKind.i64.wrap (p - IntKind.i64.wrap h0)).toNat) 0 n, H⟩, ⟨35, 6, .int .i64 x0, H⟩, ⟨35, 9, .ptr db ((IntKind.i64.wrap h0).toNat) 0 n, H⟩, ⟨35, 10, .int .i64 x1, H⟩, ⟨35, 11, .int .i64 c0, H0⟩, ⟨35, 12, .bool false, H0⟩] fun kf hk => by
    obtain ⟨kf, rfl⟩ : ∃ n, kf = n + 1 := ⟨kf - 1, by omega⟩
    exact ⟨[some (HV.bool (decide (s < r)), (H : Heap)) = some (.bool true, H), (binV Try.prog .shr 76 (.int .u64 (IntKind.u64.wrap (IntKind.i64.wrap (s + r)))) (.int .u64 1)).map (fun v => (v, (H : Heap))) = some (.int .u64 h0, H), (idxV Try.prog 24 (.sl db 0 n none n 1) (.int .i64 (IntKind.i64.wrap (p - IntKind.i64.wrap h0)))).map (fun v => (v, (H : Heap))) = some (.ptr db ((IntKind.i64.wrap (p - IntKind.i64.wrap h0)).toNat) 0 n, H), (loadV Try.prog H 3 (.ptr db ((IntKind.i64.wrap (p - IntKind.i64.wrap h0)).toNat) 0 n)).map (fun v => (v, (H : Heap))) = some (.int .i64 x0, H), (idxV Try.prog 24 (.sl db 0 n none n 1) (.int .i64 (IntKind.i64.wrap h0))).map (fun v => (v, (H : Heap))) = some (.ptr db ((IntKind.i64.wrap h0).toNat) 0 n, H), (loadV Try.prog H 3 (.ptr db ((IntKind.i64.wrap h0).toNat) 0 n)).map (fun v => (v, (H : Heap))) = some (.int .i64 x1, H), callN Try.prog polS (kf + 1) 67 [.int .i64 x0, .int .i64 x1, cp] H = some (.int .i64 c0, H0), some (HV.bool (decide (c0 < 0)), (H0 : Heap)) = some (.bool false, H0)], by kernel_rfl, Obls.cons (hintB (decide_eq_true g0)) (Obls.cons (hintOp g1) (Obls.cons (hintOp g2) (Obls.cons (hintOp g3) (Obls.cons (hintOp g4) (Obls.cons (hintOp g5) (Obls.cons (g6 kf (by omega)) (Obls.cons (hintB (decide_eq_false g7)) Obls.nil)))))))⟩
theorem sy_t_2 (N : Nat) (db n : Nat) (a m b : Int) (cp : HV) (H : Heap) (mid : Int) (nn : Int) (s r : Int) (p : Int)  (g0 : ¬ (s < r)) : RunsTo Try.prog polS 72 (sub [1, 1, 1, 1, 1, 1, 1, 0, 0, 0] B72) (env72 (.sl db 0 n none n 1) (.int .i64 a) (.int .i64 m) (.int .i64 b) (.func 67 [] [cp]) .undef .undef .undef .undef .undef .undef .undef .undef (.int .i64 mid) (.int .i64 nn) (.int .i64 s) (.int .i64 r) (.int .i64 p) .undef .undef) H (.exit 8) (polS.keys 72) (env72 (.sl db 0 n none n 1) (.int .i64 a) (.int .i64 m) (.int .i64 b) (.func 67 [] [cp]) .undef .undef .undef .undef .undef .undef .undef .undef (.int .i64 mid) (.int .i64 nn) (.int .i64 s) (.int .i64 r) (.int .i64 p) .undef .undef) H :=
  RunsTo.hint (N + 1) 60 [⟨33, 2, .bool false, H⟩] fun kf hk => by
    obtain ⟨kf, rfl⟩ : ∃ n, kf = n + 1 := ⟨kf - 1, by omega⟩
    exact ⟨[some (HV.bool (decide (s < r)), (H : Heap)) = some (.bool false, H)], by kernel_rfl, Obls.cons (hintB (decide_eq_false g0)) Obls.nil⟩
theorem sy_u_0 (N : Nat) (db n : Nat) (a m b : Int) (cp : HV) (H : Heap) (mid : Int) (nn : Int) (s r : Int) (p : Int) (v23 : HV)   : RunsTo Try.prog polS 72 (sub [1, 1, 1, 1, 1, 1, 1, 1, 0] B72) (env72 (.sl db 0 n none n 1) (.int .i64 a) (.int .i64 m) (.int .i64 b) (.func 67 [] [cp]) .undef .undef .undef .undef .undef .undef .undef .undef (.int .i64 mid) (.int .i64 nn) (.int .i64 s) (.int .i64 r) (.int .i64 p) v23 .undef) H (.normal) (polS.keys 72) (env72 (.sl db 0 n none n 1) (.int .i64 a) (.int .i64 m) (.int .i64 b) (.func 67 [] [cp]) .undef .undef .undef .undef .undef .undef .undef .undef (.int .i64 mid) (.int .i64 nn) (.int .i64 s) (.int .i64 r) (.int .i64 p) v23 (.int .i64 (IntKind.i64.wrap (nn - s)))) H :=
  RunsTo.hint (N + 1) 60 [] fun kf hk => by
    obtain ⟨kf, rfl⟩ : ∃ n, kf = n + 1 := ⟨kf - 1, by omega⟩
    exact ⟨[], by kernel_rfl, Obls.nil⟩
theorem sy_v_0 (N : Nat) (db n : Nat) (a m b : Int) (cp : HV) (H : Heap) (mid : Int) (nn : Int) (s r : Int) (p : Int) (v23 : HV) (e : Int) (H0 : Heap) (g0 : s < m) (g1 : m < e) (g2 : ∀ kf, N ≤ kf → callN Try.prog polS (kf + 1) 73 [.sl db 0 n none n 1, .int .i64 s, .int .i64 m, .int .i64 e, .func 67 [] [cp]] H = some (.tuple [], H0)) : RunsTo Try.prog polS 72 (sub [1, 1, 1, 1, 1, 1, 1, 1, 1, 0] B72) (env72 (.sl db 0 n none n 1) (.int .i64 a) (.int .i64 m) (.int .i64 b) (.func 67 [] [cp]) .undef .undef .undef .undef .undef .undef .undef .undef (.int .i64 mid) (.int .i64 nn) (.int .i64 s) (.int .i64 r) (.int .i64 p) v23 (.int .i64 e)) H (.normal) (polS.keys 72) (env72 (.sl db 0 n none n 1) (.int .i64 a) (.int .i64 m) (.int .i64 b) (.func 67 [] [cp]) .undef .undef .undef .undef .undef .undef .undef .undef (.int .i64 mid) (.int .i64 nn) (.int .i64 s) (.int .i64 r) (.int .i64 p) v23 (.int .i64 e)) H0 :=
  RunsTo.hint (N + 1) 60 [⟨39, 2, .bool true, H⟩, ⟨39, 6, .bool true, H⟩, ⟨40, 5, .tuple [], H0⟩] fun kf hk => by
    obtain ⟨kf, rfl⟩ : ∃ n, kf = n + 1 := ⟨kf - 1, by omega⟩
    exact ⟨[some (HV.bool (decide (s < m)), (H : Heap)) = some (.bool true, H), some (HV.bool (decide (m < e)), (H : Heap)) = some (.bool true, H), callN Try.prog polS (kf + 1) 73 [.sl db 0 n none n 1, .int .i64 s, .int .i64 m, .int .i64 e, .func 67 [] [cp]] H = some (.tuple [], H0)], by kernel_rfl, Obls.cons (hintB (decide_eq_true g0)) (Obls.cons (hintB (decide_eq_true g1)) (Obls.cons (g2 kf (by omega)) Obls.nil))⟩
theorem sy_v_1 (N : Nat) (db n : Nat) (a m b : Int) (cp : HV) (H : Heap) (mid : Int) (nn : Int) (s r : Int) (p : Int) (v23 : HV) (e : Int)  (g0 : s < m) (g1 : ¬ (m < e)) : RunsTo Try.prog polS 72 (sub [1, 1, 1, 1, 1, 1, 1, 1, 1, 0] B72) (env72 (.sl db 0 n none n 1) (.int .i64 a) (.int .i64 m) (.int .i64 b) (.func 67 [] [cp]) .undef .undef .undef .undef .undef .undef .undef .undef (.int .i64 mid) (.int .i64 nn) (.int .i64 s) (.int .i64 r) (.int .i64 p) v23 (.int .i64 e)) H (.normal) (polS.keys 72) (env72 (.sl db 0 n none n 1) (.int .i64 a) (.int .i64 m) (.int .i64 b) (.func 67 [] [cp]) .undef .undef .undef .undef .undef .undef .undef .undef (.int .i64 mid) (.int .i64 nn) (.int .i64 s) (.int .i64 r) (.int .i64 p) v23 (.int .i64 e)) H :=
  RunsTo.hint (N + 1) 60 [⟨39, 2, .bool true, H⟩, ⟨39, 6, .bool false, H⟩] fun kf hk => by
    obtain ⟨kf, rfl⟩ : ∃ n, kf = n + 1 := ⟨kf - 1, by omega⟩
    exact ⟨[some (HV.bool (decide (s < m)), (H : Heap)) = some (.bool true, H), some (HV.bool (decide (m < e)), (H : Heap)) = some (.bool false, H)], by kernel_rfl, Obls.cons (hintB (decide_eq_true g0)) (Obls.cons (hintB (decide_eq_false g1)) Obls.nil)⟩
theorem sy_v_2 (N : Nat) (db n : Nat) (a m b : Int) (cp : HV) (H : Heap) (mid : Int) (nn : Int) (s r : Int) (p : Int) (v23 : HV) (e : Int)  (g0 : ¬ (s < m)) : RunsTo Try.prog polS 72 (sub [1, 1, 1, 1, 1, 1, 1, 1, 1, 0] B72) (env72 (.sl db 0 n none n 1) (.int .i64 a) (.int .i64 m) (.int .i64 b) (.func 67 [] [cp]) .undef .undef .undef .undef .undef .undef .undef .undef (.int .i64 mid) (.int .i64 nn) (.int .i64 s) (.int .i64 r) (.int .i64 p) v23 (.int .i64 e)) H (.normal) (polS.keys 72) (env72 (.sl db 0 n none n 1) (.int .i64 a) (.int .i64 m) (.int .i64 b) (.func 67 [] [cp]) .undef .undef .undef .undef .undef .undef .undef .undef (.int .i64 mid) (.int .i64 nn) (.int .i64 s) (.int .i64 r) (.int .i64 p) v23 (.int .i64 e)) H :=
  RunsTo.hint (N + 1) 60 [⟨39, 2, .bool false, H⟩] fun kf hk => by
    obtain ⟨kf, rfl⟩ : ∃ n, kf = n + 1 := ⟨kf - 1, by omega⟩
    exact ⟨[some (HV.bool (decide (s < m)), (H : Heap)) = some (.bool false, H)], by kernel_rfl, Obls.cons (hintB (decide_eq_false g0)) Obls.nil⟩
theorem sy_w_0 (N : Nat) (db n : Nat) (a m b : Int) (cp : HV) (H : Heap) (mid : Int) (nn : Int) (s r : Int) (p : Int) (v23 : HV) (e : Int) (H0 : Heap) (g0 : a < s) (g1 : s < mid) (g2 : ∀ kf, N ≤ kf → callN Try.prog polS (kf + 1) 72 [.sl db 0 n none n 1, .int .i64 a, .int .i64 s, .int .i64 mid, .func 67 [] [cp]] H = some (.tuple [], H0)) : RunsTo Try.prog polS 72 (sub [1, 1, 1, 1, 1, 1, 1, 1, 1, 1, 0] B72) (env72 (.sl db 0 n none n 1) (.int .i64 a) (.int .i64 m) (.int .i64 b) (.func 67 [] [cp]) .undef .undef .undef .undef .undef .undef .undef .undef (.int .i64 mid) (.int .i64 nn) (.int .i64 s) (.int .i64 r) (.int .i64 p) v23 (.int .i64 e)) H (.normal) (polS.keys 72) (env72 (.sl db 0 n none n 1) (.int .i64 a) (.int .i64 m) (.int .i64 b) (.func 67 [] [cp]) .undef .undef .undef .undef .undef .undef .undef .undef (.int .i64 mid) (.int .i64 nn) (.int .i64 s) (.int .i64 r) (.int .i64 p) v23 (.int .i64 e)) H0 :=
  RunsTo.hint (N + 1) 60 [⟨41, 2, .bool true, H⟩, ⟨41, 6, .bool true, H⟩, ⟨42, 5, .tuple [], H0⟩] fun kf hk => by
    obtain ⟨kf, rfl⟩ : ∃ n, kf = n + 1 := ⟨kf - 1, by omega⟩
    exact ⟨[some (HV.bool (decide (a < s)), (H : Heap)) = some (.bool true, H), some (HV.bool (decide (s < mid)), (H : Heap)) = some (.bool true, H), callN Try.prog polS (kf + 1) 72 [.sl db 0 n none n 1, .int .i64 a, .int .i64 s, .int .i64 mid, .func 67 [] [cp]] H = some (.tuple [], H0)], by kernel_rfl, Obls.cons (hintB (decide_eq_true g0)) (Obls.cons (hintB (decide_eq_true g1)) (Obls.cons (g2 kf (by omega)) Obls.nil))⟩
theorem sy_w_1 (N : Nat) (db n : Nat) (a m b : Int) (cp : HV) (H : Heap) (mid : Int) (nn : Int) (s r : Int) (p : Int) (v23 : HV) (e : Int)  (g0 : a < s) (g1 : ¬ (s < mid)) : RunsTo Try.prog polS 72 (sub [1, 1, 1, 1, 1, 1, 1, 1, 1, 1, 0] B72) (env72 (.sl db 0 n none n 1) (.int .i64 a) (.int .i64 m) (.int .i64 b) (.func 67 [] [cp]) .undef .undef .undef .undef .undef .undef .undef .undef (.int .i64 mid) (.int .i64 nn) (.int .i64 s) (.int .i64 r) (.int .i64 p) v23 (.int .i64 e)) H (.normal) (polS.keys 72) (env72 (.sl db 0 n none n 1) (.int .i64 a) (.int .i64 m) (.int .i64 b) (.func 67 [] [cp]) .undef .undef .undef .undef .undef .undef .undef .undef (.int .i64 mid) (.int .i64 nn) (.int .i64 s) (.int .i64 r) (.int .i64 p) v23 (.int .i64 e)) H :=
  RunsTo.hint (N + 1) 60 [⟨41, 2, .bool true, H⟩, ⟨41, 6, .bool false, H⟩] fun kf hk => by
    obtain ⟨kf, rfl⟩ : ∃ n, kf = n + 1 := ⟨kf - 1, by omega⟩
    exact ⟨[some (HV.bool (decide (a < s)), (H : Heap)) = some (.bool true, H), some (HV.bool (decide (s < mid)), (H : Heap)) = some (.bool false, H)], by kernel_rfl, Obls.cons (hintB (decide_eq_true g0)) (Obls.cons (hintB (decide_eq_false g1)) Obls.nil)⟩
theorem sy_w_2 (N : Nat) (db n : Nat) (a m b : Int) (cp : HV) (H : Heap) (mid : Int) (nn : Int) (s r : Int) (p : Int) (v23 : HV) (e : Int)  (g0 : ¬ (a < s)) : RunsTo Try.prog polS 72 (sub [1, 1, 1, 1, 1, 1, 1, 1, 1, 1, 0] B72) (env72 (.sl db 0 n none n 1) (.int .i64 a) (.int .i64 m) (.int .i64 b) (.func 67 [] [cp]) .undef .undef .undef .undef .undef .undef .undef .undef (.int .i64 mid) (.int .i64 nn) (.int .i64 s) (.int .i64 r) (.int .i64 p) v23 (.int .i64 e)) H (.normal) (polS.keys 72) (env72 (.sl db 0 n none n 1) (.int .i64 a) (.int .i64 m) (.int .i64 b) (.func 67 [] [cp]) .undef .undef .undef .undef .undef .undef .undef .undef (.int .i64 mid) (.int .i64 nn) (.int .i64 s) (.int .i64 r) (.int .i64 p) v23 (.int .i64 e)) H :=
  RunsTo.hint (N + 1) 60 [⟨41, 2, .bool false, H⟩] fun kf hk => by
    obtain ⟨kf, rfl⟩ : ∃ n, kf = n + 1 := ⟨kf - 1, by omega⟩
    exact ⟨[some (HV.bool (decide (a < s)), (H : Heap)) = some (.bool false, H)], by kernel_rfl, Obls.cons (hintB (decide_eq_false g0)) Obls.nil⟩
theorem sy_x_0 (N : Nat) (db n : Nat) (a m b : Int) (cp : HV) (H : Heap) (mid : Int) (nn : Int) (s r : Int) (p : Int) (v23 : HV) (e : Int) (H0 : Heap) (g0 : mid < e) (g1 : e < b) (g2 : ∀ kf, N ≤ kf → callN Try.prog polS (kf + 1) 72 [.sl db 0 n none n 1, .int .i64 mid, .int .i64 e, .int .i64 b, .func 67 [] [cp]] H = some (.tuple [], H0)) : RunsTo Try.prog polS 72 (sub [1, 1, 1, 1, 1, 1, 1, 1, 1, 1, 1] B72) (env72 (.sl db 0 n none n 1) (.int .i64 a) (.int .i64 m) (.int .i64 b) (.func 67 [] [cp]) .undef .undef .undef .undef .undef .undef .undef .undef (.int .i64 mid) (.int .i64 nn) (.int .i64 s) (.int .i64 r) (.int .i64 p) v23 (.int .i64 e)) H (.normal) (polS.keys 72) (env72 (.sl db 0 n none n 1) (.int .i64 a) (.int .i64 m) (.int .i64 b) (.func 67 [] [cp]) .undef .undef .undef .undef .undef .undef .undef .undef (.int .i64 mid) (.int .i64 nn) (.int .i64 s) (.int .i64 r) (.int .i64 p) v23 (.int .i64 e)) H0 :=
  RunsTo.hint (N + 1) 60 [⟨43, 2, .bool true, H⟩, ⟨43, 6, .bool true, H⟩, ⟨44, 5, .tuple [], H0⟩] fun kf hk => by
    obtain ⟨kf, rfl⟩ : ∃ n, kf = n + 1 := ⟨kf - 1, by omega⟩
    exact ⟨[some (HV.bool (decide (mid < e)), (H : Heap)) = some (.bool true, H), some (HV.bool (decide (e < b)), (H : Heap)) = some (.bool true, H), callN Try.prog polS (kf + 1) 72 [.sl db 0 n none n 1, .int .i64 mid, .int .i64 e, .int .i64 b, .func 67 [] [cp]] H = some (.tuple [], H0)], by kernel_rfl, Obls.cons (hintB (decide_eq_true g0)) (Obls.cons (hintB (decide_eq_true g1)) (Obls.cons (g2 kf (by omega)) Obls.nil))⟩
theorem sy_x_1 (N : Nat) (db n : Nat) (a m b : Int) (cp : HV) (H : Heap) (mid : Int) (nn : Int) (s r : Int) (p : Int) (v23 : HV) (e : Int)  (g0 : mid < e) (g1 : ¬ (e < b)) : RunsTo Try.prog polS 72 (sub [1, 1, 1, 1, 1, 1, 1, 1, 1, 1, 1] B72) (env72 (.sl db 0 n none n 1) (.int .i64 a) (.int .i64 m) (.int .i64 b) (.func 67 [] [cp]) .undef .undef .undef .undef .undef .undef .undef .undef (.int .i64 mid) (.int .i64 nn) (.int .i64 s) (.int .i64 r) (.int .i64 p) v23 (.int .i64 e)) H (.normal) (polS.keys 72) (env72 (.sl db 0 n none n 1) (.int .i64 a) (.int .i64 m) (.int .i64 b) (.func 67 [] [cp]) .undef .undef .undef .undef .undef .undef .undef .undef (.int .i64 mid) (.int .i64 nn) (.int .i64 s) (.int .i64 r) (.int .i64 p) v23 (.int .i64 e)) H :=
  RunsTo.hint (N + 1) 60 [⟨43, 2, .bool true, H⟩, ⟨43, 6, .bool false, H⟩] fun kf hk => by
    obtain ⟨kf, rfl⟩ : ∃ n, kf = n + 1 := ⟨kf - 1, by omega⟩
    exact ⟨[some (HV.bool (decide (mid < e)), (H : Heap)) = some (.bool true, H), some (HV.bool (decide (e < b)), (H : Heap)) = some (.bool false, H)], by kernel_rfl, Obls.cons (hintB (decide_eq_true g0)) (Obls.cons (hintB (decide_eq_false g1)) Obls.nil)⟩
theorem sy_x_2 (N : Nat) (db n : Nat) (a m b : Int) (cp : HV) (H : Heap) (mid : Int) (nn : Int) (s r : Int) (p : Int) (v23 : HV) (e : Int)  (g0 : ¬ (mid < e)) : RunsTo Try.prog polS 72 (sub [1, 1, 1, 1, 1, 1, 1, 1, 1, 1, 1] B72) (env72 (.sl db 0 n none n 1) (.int .i64 a) (.int .i64 m) (.int .i64 b) (.func 67 [] [cp]) .undef .undef .undef .undef .undef .undef .undef .undef (.int .i64 mid) (.int .i64 nn) (.int .i64 s) (.int .i64 r) (.int .i64 p) v23 (.int .i64 e)) H (.normal) (polS.keys 72) (env72 (.sl db 0 n none n 1) (.int .i64 a) (.int .i64 m) (.int .i64 b) (.func 67 [] [cp]) .undef .undef .undef .undef .undef .undef .undef .undef (.int .i64 mid) (.int .i64 nn) (.int .i64 s) (.int .i64 r) (.int .i64 p) v23 (.int .i64 e)) H :=
  RunsTo.hint (N + 1) 60 [⟨43, 2, .bool false, H⟩] fun kf hk => by
    obtain ⟨kf, rfl⟩ : ∃ n, kf = n + 1 := ⟨kf - 1, by omega⟩
    exact ⟨[some (HV.bool (decide (mid < e)), (H : Heap)) = some (.bool false, H)], by kernel_rfl, Obls.cons (hintB (decide_eq_false g0)) Obls.nil⟩
end Go.Proofs.Ytmhfkhlamnapdaa
end
section
open Go Go.HL
namespace Go.Proofs.Ytmhfkhlamnapdaa
set_option maxRecDepth 100000
noncomputable def B74 : Code := Try.f74.body.getD .skip
abbrev env74 (v0 v1 v2 v3 v10 : HV) : Env := [(0, v0), (1, v1), (2, v2), (3, v3), (10, v10)]
theorem sw_a_0 (N : Nat) (db n : Nat) (a b m : Int) (cp : HV) (H : Heap)   : RunsTo Try.prog polS 74 (sub [0] B74) [(0, .sl db 0 n none n 1), (1, .int .i64 a), (2, .int .i64 b), (3, .int .i64 m), (4, .func 67 [] [cp])] H (.normal) (polS.keys 74) (env74 (.sl db 0 n none n 1) (.int .i64 a) (.int .i64 b) (.int .i64 m) (.int .i64 0)) H :=
  RunsTo.hint (N + 1) 60 [] fun kf hk => by
    obtain ⟨kf, rfl⟩ : ∃ n, kf = n + 1 := ⟨kf - 1, by omega⟩
    exact ⟨[], by kernel_rfl, Obls.nil⟩
theorem sw_l_0 (N : Nat) (db n : Nat) (a b m : Int) (H : Heap) (i : Int) (x0 : Int) (x1 : Int) (H0 : Heap) (H1 : Heap) (g0 : i < m) (g1 : idxV Try.prog 24 (.sl db 0 n none n 1) (.int .i64 (IntKind.i64.wrap (b + i))) = some (.ptr db ((IntKind.i64.wrap (b + i)).toNat) 0 n)) (g2 : loadV Try.prog H 3 (.ptr db ((IntKind.i64.wrap (b + i)).toNat) 0 n) = some (.int .i64 x0)) (g3 : idxV Try.prog 24 (.sl db 0 n none n 1) (.int .i64 (IntKind.i64.wrap (a + i))) = some (.ptr db ((IntKind.i64.wrap (a + i)).toNat) 0 n)) (g4 : loadV Try.prog H 3 (.ptr db ((IntKind.i64.wrap (a + i)).toNat) 0 n) = some (.int .i64 x1)) (g5 : idxV Try.prog 24 (.sl db 0 n none n 1) (.int .i64 (IntKind.i64.wrap (a + i))) = some (.ptr db ((IntKind.i64.wrap (a + i)).toNat) 0 n)) (g6 : storeV Try.prog H 3 (.ptr db ((IntKind.i64.wrap (a + i)).toNat) 0 n) (.int .i64 x0) = some H0) (g7 : idxV Try.prog 24 (.sl db 0 n none n 1) (.int .i64 (IntKind.i64.wrap (b + i))) = some (.ptr db ((IntKind.i64.wrap (b + i)).toNat) 0 n)) (g8 : storeV Try.prog H0 3 (.ptr db ((IntKind.i64.wrap (b + i)).toNat) 0 n) (.int .i64 x1) = some H1) : RunsTo Try.prog polS 74 (sub [1, 0, 0] B74) (env74 (.sl db 0 n none n 1) (.int .i64 a) (.int .i64 b) (.int .i64 m) (.int .i64 i)) H (.normal) (polS.keys 74) (env74 (.sl db 0 n none n 1) (.int .i64 a) (.int .i64 b) (.int .i64 m) (.int .i64 (IntKind.i64.wrap (i + 1)))) H1 :=
  RunsTo.hint (N + 1) 60 [⟨1, 2, .bool true, H⟩, ⟨3, 12, .ptr db ((IntKind.i64.wrap (b + i)).toNat) 0 n, H⟩, ⟨3, 13, .int .i64 x0, H⟩, ⟨3, 18, .ptr db ((IntKind.i64.wrap (a + i)).toNat) 0 n, H⟩, ⟨3, 19, .int .i64 x1, H⟩, ⟨3, 20, .ptr db ((IntKind.i64.wrap (a + i)).toNat) 0 n, H⟩, ⟨3, 21, .tuple [], H0⟩, ⟨3, 22, .ptr db ((IntKind.i64.wrap (b + i)).toNat) 0 n, H0⟩, ⟨3, 23, .tuple [], H1⟩] fun kf hk => by
    obtain ⟨kf, rfl⟩ : ∃ n, kf = n + 1 := ⟨kf - 1, by omega⟩
    exact ⟨[some (HV.bool (decide (i < m)), (H : Heap)) = some (.bool true, H), (idxV Try.prog 24 (.sl db 0 n none n 1) (.int .i64 (IntKind.i64.wrap (b + i)))).map (fun v => (v, (H : Heap))) = some (.ptr db ((IntKind.i64.wrap (b + i)).toNat) 0 n, H), (loadV Try.prog H 3 (.ptr db ((IntKind.i64.wrap (b + i)).toNat) 0 n)).map (fun v => (v, (H : Heap))) = some (.int .i64 x0, H), (idxV Try.prog 24 (.sl db 0 n none n 1) (.int .i64 (IntKind.i64.wrap (a + i)))).map (fun v => (v, (H : Heap))) = some (.ptr db ((IntKind.i64.wrap (a + i)).toNat) 0 n, H), (loadV Try.prog H 3 (.ptr db ((IntKind.i64.wrap (a + i)).toNat) 0 n)).map (fun v => (v, (H : Heap))) = some (.int .i64 x1, H), (idxV Try.prog 24 (.sl db 0 n none n 1) (.int .i64 (IntKind.i64.wrap (a + i)))).map (fun v => (v, (H : Heap))) = some (.ptr db ((IntKind.i64.wrap (a + i)).toNat) 0 n, H), (storeV Try.prog H 3 (.ptr db ((IntKind.i64.wrap (a + i)).toNat) 0 n) (.int .i64 x0)).map (fun H => (HV.tuple [], H)) = some (.tuple [], H0), (idxV Try.prog 24 (.sl db 0 n none n 1) (.int .i64 (IntKind.i64.wrap (b + i)))).map (fun v => (v, (H0 : Heap))) = some (.ptr db ((IntKind.i64.wrap (b + i)).toNat) 0 n, H0), (storeV Try.prog H0 3 (.ptr db ((IntKind.i64.wrap (b + i)).toNat) 0 n) (.int .i64 x1)).map (fun H => (HV.tuple [], H)) = some (.tuple [], H1)], by kernel_rfl, Obls.cons (hintB (decide_eq_true g0)) (Obls.cons (hintOp g1) (Obls.cons (hintOp g2) (Obls.cons (hintOp g3) (Obls.cons (hintOp g4) (Obls.cons (hintOp g5) (Obls.cons (hintSt g6) (Obls.cons (hintOp g7) (Obls.cons (hintSt g8) Obls.nil))))))))⟩
theorem sw_l_1 (N : Nat) (db n : Nat) (a b m : Int) (H : Heap) (i : Int)  (g0 : ¬ (i < m)) : RunsTo Try.prog polS 74 (sub [1, 0, 0] B74) (env74 (.sl db 0 n none n 1) (.int .i64 a) (.int .i64 b) (.int .i64 m) (.int .i64 i)) H (.exit 0) (polS.keys 74) (env74 (.sl db 0 n none n 1) (.int .i64 a) (.int .i64 b) (.int .i64 m) (.int .i64 i)) H :=
  RunsTo.hint (N + 1) 60 [⟨1, 2, .bool false, H⟩] fun kf hk => by
    obtain ⟨kf, rfl⟩ : ∃ n, kf = n + 1 := ⟨kf - 1, by omega⟩
    exact ⟨[some (HV.bool (decide (i < m)), (H : Heap)) = some (.bool false, H)], by kernel_rfl, Obls.cons (hintB (decide_eq_false g0)) Obls.nil⟩
end Go.Proofs.Ytmhfkhlamnapdaa
end
section
open Go Go.HL
namespace Go.Proofs.Ytmhfkhlamnapdaa
set_option maxRecDepth 100000
noncomputable def B73 : Code := Try.f73.body.getD .skip
abbrev env73 (v0 v1 v2 v3 v4 v10 v11 : HV) : Env := [(0, v0), (1, v1), (2, v2), (3, v3), (4, v4), (10, v10), (11, v11)]
theorem ro_a_0 (N : Nat) (db n : Nat) (a m b : Int) (cp : HV) (H : Heap)   : RunsTo Try.prog polS 73 (sub [0] B73) [(0, .sl db 0 n none n 1), (1, .int .i64 a), (2, .int .i64 m), (3, .int .i64 b), (4, .func 67 [] [cp])] H (.normal) (polS.keys 73) (env73 (.sl db 0 n none n 1) (.int .i64 a) (.int .i64 m) (.int .i64 b) (.func 67 [] [cp]) (.int .i64 (IntKind.i64.wrap (m - a))) .undef) H :=
  RunsTo.hint (N + 1) 60 [] fun kf hk => by
    obtain ⟨kf, rfl⟩ : ∃ n, kf = n + 1 := ⟨kf - 1, by omega⟩
    exact ⟨[], by kernel_rfl, Obls.nil⟩
theorem ro_b_0 (N : Nat) (db n : Nat) (a m b : Int) (cp : HV) (H : Heap) (i : Int)   : RunsTo Try.prog polS 73 (sub [1, 0] B73) (env73 (.sl db 0 n none n 1) (.int .i64 a) (.int .i64 m) (.int .i64 b) (.func 67 [] [cp]) (.int .i64 i) .undef) H (.normal) (polS.keys 73) (env73 (.sl db 0 n none n 1) (.int .i64 a) (.int .i64 m) (.int .i64 b) (.func 67 [] [cp]) (.int .i64 i) (.int .i64 (IntKind.i64.wrap (b - m)))) H :=
  RunsTo.hint (N + 1) 60 [] fun kf hk => by
    obtain ⟨kf, rfl⟩ : ∃ n, kf = n + 1 := ⟨kf - 1, by omega⟩
    exact ⟨[], by kernel_rfl, Obls.nil⟩
theorem ro_l_0 (N : Nat) (db n : Nat) (a m b : Int) (cp : HV) (H : Heap) (i j : Int)  (g0 : i = j) : RunsTo Try.prog polS 73 (sub [1, 1, 0, 0, 0] B73) (env73 (.sl db 0 n none n 1) (.int .i64 a) (.int .i64 m) (.int .i64 b) (.func 67 [] [cp]) (.int .i64 i) (.int .i64 j)) H (.exit 0) (polS.keys 73) (env73 (.sl db 0 n none n 1) (.int .i64 a) (.int .i64 m) (.int .i64 b) (.func 67 [] [cp]) (.int .i64 i) (.int .i64 j)) H :=
  RunsTo.hint (N + 1) 60 [⟨2, 2, .bool false, H⟩] fun kf hk => by
    obtain ⟨kf, rfl⟩ : ∃ n, kf = n + 1 := ⟨kf - 1, by omega⟩
    exact ⟨[some (HV.bool (!decide (i = j)), (H : Heap)) = some (.bool false, H)], by kernel_rfl, Obls.cons (hintB (congrArg not (decide_eq_true g0))) Obls.nil⟩
theorem ro_l_1 (N : Nat) (db n : Nat) (a m b : Int) (cp : HV) (H : Heap) (i j : Int) (H0 : Heap) (g0 : ¬ (i = j)) (g1 : j < i) (g2 : ∀ kf, N ≤ kf → callN Try.prog polS (kf + 1) 74 [.sl db 0 n none n 1, .int .i64 (IntKind.i64.wrap (m - i)), .int .i64 m, .int .i64 j, .func 67 [] [cp]] H = some (.tuple [], H0)) : RunsTo Try.prog polS 73 (sub [1, 1, 0, 0, 0] B73) (env73 (.sl db 0 n none n 1) (.int .i64 a) (.int .i64 m) (.int .i64 b) (.func 67 [] [cp]) (.int .i64 i) (.int .i64 j)) H (.normal) (polS.keys 73) (env73 (.sl db 0 n none n 1) (.int .i64 a) (.int .i64 m) (.int .i64 b) (.func 67 [] [cp]) (.int .i64 (IntKind.i64.wrap (i - j))) (.int .i64 j)) H0 :=
  RunsTo.hint (N + 1) 60 [⟨2, 2, .bool true, H⟩, ⟨3, 2, .bool true, H⟩, ⟨4, 7, .tuple [], H0⟩] fun kf hk => by
    obtain ⟨kf, rfl⟩ : ∃ n, kf = n + 1 := ⟨kf - 1, by omega⟩
    exact ⟨[some (HV.bool (!decide (i = j)), (H : Heap)) = some (.bool true, H), some (HV.bool (decide (j < i)), (H : Heap)) = some (.bool true, H), callN Try.prog polS (kf + 1) 74 [.sl db 0 n none n 1, .int .i64 (IntKind.i64.wrap (m - i)), .int .i64 m, .int .i64 j, .func 67 [] [cp]] H = some (.tuple [], H0)], by kernel_rfl, Obls.cons (hintB (congrArg not (decide_eq_false g0))) (Obls.cons (hintB (decide_eq_true g1)) (Obls.cons (g2 kf (by omega)) Obls.nil))⟩
theorem ro_l_2 (N : Nat) (db n : Nat) (a m b : Int) (cp : HV) (H : Heap) (i j : Int) (H0 : Heap) (g0 : ¬ (i = j)) (g1 : ¬ (j < i)) (g2 : ∀ kf, N ≤ kf → callN Try.prog polS (kf + 1) 74 [.sl db 0 n none n 1, .int .i64 (IntKind.i64.wrap (m - i)), .int .i64 (IntKind.i64.wrap (IntKind.i64.wrap (m + j) - i)), .int .i64 i, .func 67 [] [cp]] H = some (.tuple [], H0)) : RunsTo Try.prog polS 73 (sub [1, 1, 0, 0, 0] B73) (env73 (.sl db 0 n none n 1) (.int .i64 a) (.int .i64 m) (.int .i64 b) (.func 67 [] [cp]) (.int .i64 i) (.int .i64 j)) H (.normal) (polS.keys 73) (env73 (.sl db 0 n none n 1) (.int .i64 a) (.int .i64 m) (.int .i64 b) (.func 67 [] [cp]) (.int .i64 i) (.int .i64 (IntKind.i64.wrap (j - i)))) H0 :=
  RunsTo.hint (N + 1) 60 [⟨2, 2, .bool true, H⟩, ⟨3, 2, .bool false, H⟩, ⟨6, 11, .tuple [], H0⟩] fun kf hk => by
    obtain ⟨kf, rfl⟩ : ∃ n, kf = n + 1 := ⟨kf - 1, by omega⟩
    exact ⟨[some (HV.bool (!decide (i = j)), (H : Heap)) = some (.bool true, H), some (HV.bool (decide (j < i)), (H : Heap)) = some (.bool false, H), callN Try.prog polS (kf + 1) 74 [.sl db 0 n none n 1, .int .i64 (IntKind.i64.wrap (m - i)), .int .i64 (IntKind.i64.wrap (IntKind.i64.wrap (m + j) - i)), .int .i64 i, .func 67 [] [cp]] H = some (.tuple [], H0)], by kernel_rfl, Obls.cons (hintB (congrArg not (decide_eq_false g0))) (Obls.cons (hintB (decide_eq_false g1)) (Obls.cons (g2 kf (by omega)) Obls.nil))⟩
theorem ro_z_0 (N : Nat) (db n : Nat) (a m b : Int) (cp : HV) (H : Heap) (i j : Int) (H0 : Heap) (g0 : ∀ kf, N ≤ kf → callN Try.prog polS (kf + 1) 74 [.sl db 0 n none n 1, .int .i64 (IntKind.i64.wrap (m - i)), .int .i64 m, .int .i64 i, .func 67 [] [cp]] H = some (.tuple [], H0)) : RunsTo Try.prog polS 73 (sub [1, 1, 1] B73) (env73 (.sl db 0 n none n 1) (.int .i64 a) (.int .i64 m) (.int .i64 b) (.func 67 [] [cp]) (.int .i64 i) (.int .i64 j)) H (.normal) (polS.keys 73) (env73 (.sl db 0 n none n 1) (.int .i64 a) (.int .i64 m) (.int .i64 b) (.func 67 [] [cp]) (.int .i64 i) (.int .i64 j)) H0 :=
  RunsTo.hint (N + 1) 60 [⟨8, 7, .tuple [], H0⟩] fun kf hk => by
    obtain ⟨kf, rfl⟩ : ∃ n, kf = n + 1 := ⟨kf - 1, by omega⟩
    exact ⟨[callN Try.prog polS (kf + 1) 74 [.sl db 0 n none n 1, .int .i64 (IntKind.i64.wrap (m - i)), .int .i64 m, .int .i64 i, .func 67 [] [cp]] H = some (.tuple [], H0)], by kernel_rfl, Obls.cons (g0 kf (by omega)) Obls.nil⟩
end Go.Proofs.Ytmhfkhlamnapdaa
end
section
open Go Go.HL
namespace Go.Proofs.Ytmhfkhlamnapdaa
set_option maxRecDepth 100000
noncomputable def B71 : Code := Try.f71.body.getD .skip
abbrev env71 (v0 v1 v2 v3 v8 v9 : HV) : Env := [(0, v0), (1, v1), (2, v2), (3, v3), (8, v8), (9, v9)]
theorem is_a_0 (N : Nat) (db n : Nat) (a b : Int) (cp : HV) (H : Heap)   : RunsTo Try.prog polS 71 (sub [0] B71) [(0, .sl db 0 n none n 1), (1, .int .i64 a), (2, .int .i64 b), (3, .func 67 [] [cp])] H (.normal) (polS.keys 71) (env71 (.sl db 0 n none n 1) (.int .i64 a) (.int .i64 b) (.func 67 [] [cp]) (.int .i64 (IntKind.i64.wrap (a + 1))) .undef) H :=
  RunsTo.hint (N + 1) 60 [] fun kf hk => by
    obtain ⟨kf, rfl⟩ : ∃ n, kf = n + 1 := ⟨kf - 1, by omega⟩
    exact ⟨[], by kernel_rfl, Obls.nil⟩
theorem is_h_0 (N : Nat) (db n : Nat) (a b : Int) (cp : HV) (H : Heap) (i : Int)  (g0 : i < b) : RunsTo Try.prog polS 71 (sub [1, 0, 0, 0] B71) (env71 (.sl db 0 n none n 1) (.int .i64 a) (.int .i64 b) (.func 67 [] [cp]) (.int .i64 i) .undef) H (.normal) (polS.keys 71) (env71 (.sl db 0 n none n 1) (.int .i64 a) (.int .i64 b) (.func 67 [] [cp]) (.int .i64 i) .undef) H :=
  RunsTo.hint (N + 1) 60 [⟨1, 2, .bool true, H⟩] fun kf hk => by
    obtain ⟨kf, rfl⟩ : ∃ n, kf = n + 1 := ⟨kf - 1, by omega⟩
    exact ⟨[some (HV.bool (decide (i < b)), (H : Heap)) = some (.bool true, H)], by kernel_rfl, Obls.cons (hintB (decide_eq_true g0)) Obls.nil⟩
theorem is_h_1 (N : Nat) (db n : Nat) (a b : Int) (cp : HV) (H : Heap) (i : Int)  (g0 : ¬ (i < b)) : RunsTo Try.prog polS 71 (sub [1, 0, 0, 0] B71) (env71 (.sl db 0 n none n 1) (.int .i64 a) (.int .i64 b) (.func 67 [] [cp]) (.int .i64 i) .undef) H (.exit 0) (polS.keys 71) (env71 (.sl db 0 n none n 1) (.int .i64 a) (.int .i64 b) (.func 67 [] [cp]) (.int .i64 i) .undef) H :=
  RunsTo.hint (N + 1) 60 [⟨1, 2, .bool false, H⟩] fun kf hk => by
    obtain ⟨kf, rfl⟩ : ∃ n, kf = n + 1 := ⟨kf - 1, by omega⟩
    exact ⟨[some (HV.bool (decide (i < b)), (H : Heap)) = some (.bool false, H)], by kernel_rfl, Obls.cons (hintB (decide_eq_false g0)) Obls.nil⟩
theorem is_b_0 (N : Nat) (db n : Nat) (a b : Int) (cp : HV) (H : Heap) (i : Int)   : RunsTo Try.prog polS 71 (sub [1, 0, 0, 1, 0, 0, 0] B71) (env71 (.sl db 0 n none n 1) (.int .i64 a) (.int .i64 b) (.func 67 [] [cp]) (.int .i64 i) .undef) H (.normal) (polS.keys 71) (env71 (.sl db 0 n none n 1) (.int .i64 a) (.int .i64 b) (.func 67 [] [cp]) (.int .i64 i) (.int .i64 i)) H :=
  RunsTo.hint (N + 1) 60 [] fun kf hk => by
    obtain ⟨kf, rfl⟩ : ∃ n, kf = n + 1 := ⟨kf - 1, by omega⟩
    exact ⟨[], by kernel_rfl, Obls.nil⟩
theorem is_l_0 (N : Nat) (db n : Nat) (a b : Int) (cp : HV) (H : Heap) (i j : Int) (x0 : Int) (x1 : Int) (c0 : Int) (H0 : Heap) (x2 : Int) (x3 : Int) (H1 : Heap) (H2 : Heap) (g0 : a < j) (g1 : idxV Try.prog 24 (.sl db 0 n none n 1) (.int .i64 j) = some (.ptr db ((j).toNat) 0 n)) (g2 : loadV Try.prog H 3 (.ptr db ((j).toNat) 0 n) = some (.int .i64 x0)) (g3 : idxV Try.prog 24 (.sl db 0 n none n 1) (.int .i64 (IntKind.i64.wrap (j - 1))) = some (.ptr db ((IntKind.i64.wrap (j - 1)).toNat) 0 n)) (g4 : loadV Try.prog H 3 (.ptr db ((IntKind.i64.wrap (j - 1)).toNat) 0 n) = some (.int .i64 x1)) (g5 : ∀ kf, N ≤ kf → callN Try.prog polS (kf + 1) 67 [.int .i64 x0, .int .i64 x1, cp] H = some (.int .i64 c0, H0)) (g6 : c0 < 0) (g7 : idxV Try.prog 24 (.sl db 0 n none n 1) (.int .i64 (IntKind.i64.wrap (j - 1))) = some (.ptr db ((IntKind.i64.wrap (j - 1)).toNat) 0 n)) (g8 : loadV Try.prog H0 3 (.ptr db ((IntKind.i64.wrap (j - 1)).toNat) 0 n) = some (.int .i64 x2)) (g9 : idxV Try.prog 24 (.sl db 0 n none n 1) (.int .i64 j) = some (.ptr db ((j).toNat) 0 n)) (g10 : loadV Try.prog H0 3 (.ptr db ((j).toNat) 0 n) = some (.int .i64 x3)) (g11 : idxV Try.prog 24 (.sl db 0 n none n 1) (.int .i64 j) = some (.ptr db ((j).toNat) 0 n)) (g12 : storeV Try.prog H0 3 (.ptr db ((j).toNat) 0 n) (.int .i64 x2) = some H1) (g13 : idxV Try.prog 24 (.sl db 0 n none n 1) (.int .i64 (IntKind.i64.wrap (j - 1))) = some (.ptr db ((IntKind.i64.wrap (j - 1)).toNat) 0 n)) (g14 : storeV Try.prog H1 3 (.ptr db ((IntKind.i64.wrap (j - 1)).toNat) 0 n) (.int .i64 x3) = some H2) : RunsTo Try.prog polS 71 (sub [1, 0, 0, 1, 0, 0, 1, 0, 0] B71) (env71 (.sl db 0 n none n 1) (.int .i64 a) (.int .i64 b) (.func 67 [] [cp]) (.int .i64 i) (.int .i64 j)) H (.normal) (polS.keys 71) (env71 (.sl db 0 n none n 1) (.int .i64 a) (.int .i64 b) (.func 67 [] [cp]) (.int .i64 i) (.int .i64 (IntKind.i64.wrap (j - 1)))) H2 :=
  RunsTo.hint (N + 1) 60 [⟨4, 2, .bool true, H⟩, ⟨4, 7, .ptr db ((j).toNat) 0 n, H⟩, ⟨4, 8, .int .i64 x0, H⟩, ⟨4, 12, .ptr db ((IntKind.i64.wrap (j - 1)).toNat) 0 n, H⟩, ⟨4, 13, .int .i64 x1, H⟩, ⟨4, 14, .int .i64 c0, H0⟩, ⟨4, 15, .bool true, H0⟩, ⟨6, 8, .ptr db ((IntKind.i64.wrap (j - 1)).toNat) 0 n, H0⟩, ⟨6, 9, .int .i64 x2, H0⟩, ⟨6, 12, .ptr db ((j).toNat) 0 n, H0⟩, ⟨6, 13, .int .i64 x3, H0⟩, ⟨6, 14, .ptr db ((j).toNat) 0 n, H0⟩, ⟨6, 15, .tuple [], H1⟩, ⟨6, 16, .ptr db ((IntKind.i64.wrap (j - 1)).toNat) 0 n, H1⟩, ⟨6, 17, .tuple [], H2⟩] fun kf hk => by
    obtain ⟨kf, rfl⟩ : ∃ n, kf = n + 1 := ⟨kf - 1, by omega⟩
    exact ⟨[some (HV.bool (decide (a < j)), (H : Heap)) = some (.bool true, H), (idxV Try.prog 24 (.sl db 0 n none n 1) (.int .i64 j)).map (fun v => (v, (H : Heap))) = some (.ptr db ((j).toNat) 0 n, H), (loadV Try.prog H 3 (.ptr db ((j).toNat) 0 n)).map (fun v => (v, (H : Heap))) = some (.int .i64 x0, H), (idxV Try.prog 24 (.sl db 0 n none n 1) (.int .i64 (IntKind.i64.wrap (j - 1)))).map (fun v => (v, (H : Heap))) = some (.ptr db ((IntKind.i64.wrap (j - 1)).toNat) 0 n, H), (loadV Try.prog H 3 (.ptr db ((IntKind.i64.wrap (j - 1)).toNat) 0 n)).map (fun v => (v, (H : Heap))) = some (.int .i64 x1, H), callN Try.prog polS (kf + 1) 67 [.int .i64 x0, .int .i64 x1, cp] H = some (.int .i64 c0, H0), some (HV.bool (decide (c0 < 0)), (H0 : Heap)) = some (.bool true, H0), (idxV Try.prog 24 (.sl db 0 n none n 1) (.int .i64 (IntKind.i64.wrap (j - 1)))).map (fun v => (v, (H0 : Heap))) = some (.ptr db ((IntKind.i64.wrap (j - 1)).toNat) 0 n, H0), (loadV Try.prog H0 3 (.ptr db ((IntKind.i64.wrap (j - 1)).toNat) 0 n)).map (fun v => (v, (H0 : Heap))) = some (.int .i64 x2, H0), (idxV Try.prog 24 (.sl db 0 n none n 1) (.int .i64 j)).map (fun v => (v, (H0 : Heap))) = some (.ptr db ((j).toNat) 0 n, H0), (loadV Try.prog H0 3 (.ptr db ((j).toNat) 0 n)).map (fun v => (v, (H0 : Heap))) = some (.int .i64 x3, H0), (idxV Try.prog 24 (.sl db 0 n none n 1) (.int .i64 j)).map (fun v => (v, (H0 : Heap))) = some (.ptr db ((j).toNat) 0 n, H0), (storeV Try.prog H0 3 (.ptr db ((j).toNat) 0 n) (.int .i64 x2)).map (fun H => (HV.tuple [], H)) = some (.tuple [], H1), (idxV Try.prog 24 (.sl db 0 n none n 1) (.int .i64 (IntKind.i64.wrap (j - 1)))).map (fun v => (v, (H1 : Heap))) = some (.ptr db ((IntKind.i64.wrap (j - 1)).toNat) 0 n, H1), (storeV Try.prog H1 3 (.ptr db ((IntKind.i64.wrap (j - 1)).toNat) 0 n) (.int .i64 x3)).map (fun H => (HV.tuple [], H)) = some (.tuple [], H2)], by kernel_rfl, Obls.cons (hintB (decide_eq_true g0)) (Obls.cons (hintOp g1) (Obls.cons (hintOp g2) (Obls.cons (hintOp g3) (Obls.cons (hintOp g4) (Obls.cons (g5 kf (by omega)) (Obls.cons (hintB (decide_eq_true g6)) (Obls.cons (hintOp g7) (Obls.cons (hintOp g8) (Obls.cons (hintOp g9) (Obls.cons (hintOp g10) (Obls.cons (hintOp g11) (Obls.cons (hintSt g12) (Obls.cons (hintOp g13) (Obls.cons (hintSt g14) Obls.nil))))))))))))))⟩
theorem is_l_1 (N : Nat) (db n : Nat) (a b : Int) (cp : HV) (H : Heap) (i j : Int) (x0 : Int) (x1 : Int) (c0 : Int) (H0 : Heap) (g0 : a < j) (g1 : idxV Try.prog 24 (.sl db 0 n none n 1) (.int .i64 j) = some (.ptr db ((j).toNat) 0 n)) (g2 : loadV Try.prog H 3 (.ptr db ((j).toNat) 0 n) = some (.int .i64 x0)) (g3 : idxV Try.prog 24 (.sl db 0 n none n 1) (.int .i64 (IntKind.i64.wrap (j - 1))) = some (.ptr db ((IntKind.i64.wrap (j - 1)).toNat) 0 n)) (g4 : loadV Try.prog H 3 (.ptr db ((IntKind.i64.wrap (j - 1)).toNat) 0 n) = some (.int .i64 x1)) (g5 : ∀ kf, N ≤ kf → callN Try.prog polS (kf + 1) 67 [.int .i64 x0, .int .i64 x1, cp] H = some (.int .i64 c0, H0)) (g6 : ¬ (c0 < 0)) : RunsTo Try.prog polS 71 (sub [1, 0, 0, 1, 0, 0, 1, 0, 0] B71) (env71 (.sl db 0 n none n 1) (.int .i64 a) (.int .i64 b) (.func 67 [] [cp]) (.int .i64 i) (.int .i64 j)) H (.exit 2) (polS.keys 71) (env71 (.sl db 0 n none n 1) (.int .i64 a) (.int .i64 b) (.func 67 [] [cp]) (.int .i64 i) (.int .i64 j)) H0 :=
  RunsTo.hint (N + 1) 60 [⟨4, 2, .bool true, H⟩, ⟨4, 7, .ptr db ((j).toNat) 0 n, H⟩, ⟨4, 8, .int .i64 x0, H⟩, ⟨4, 12, .ptr db ((IntKind.i64.wrap (j - 1)).toNat) 0 n, H⟩, ⟨4, 13, .int .i64 x1, H⟩, ⟨4, 14, .int .i64 c0, H0⟩, ⟨4, 15, .bool false, H0⟩] fun kf hk => by
    obtain ⟨kf, rfl⟩ : ∃ n, kf = n + 1 := ⟨kf - 1, by omega⟩
    exact ⟨[some (HV.bool (decide (a < j)), (H : Heap)) = some (.bool true, H), (idxV Try.prog 24 (.sl db 0 n none n 1) (.int .i64 j)).map (fun v => (v, (H : Heap))) = some (.ptr db ((j).toNat) 0 n, H), (loadV Try.prog H 3 (.ptr db ((j).toNat) 0 n)).map (fun v => (v, (H : Heap))) = some (.int .i64 x0, H), (idxV Try.prog 24 (.sl db 0 n none n 1) (.int .i64 (IntKind.i64.wrap (j - 1)))).map (fun v => (v, (H : Heap))) = some (.ptr db ((IntKind.i64.wrap (j - 1)).toNat) 0 n, H), (loadV Try.prog H 3 (.ptr db ((IntKind.i64.wrap (j - 1)).toNat) 0 n)).map (fun v => (v, (H : Heap))) = some (.int .i64 x1, H), callN Try.prog polS (kf + 1) 67 [.int .i64 x0, .int .i64 x1, cp] H = some (.int .i64 c0, H0), some (HV.bool (decide (c0 < 0)), (H0 : Heap)) = some (.bool false, H0)], by kernel_rfl, Obls.cons (hintB (decide_eq_true g0)) (Obls.cons (hintOp g1) (Obls.cons (hintOp g2) (Obls.cons (hintOp g3) (Obls.cons (hintOp g4) (Obls.cons (g5 kf (by omega)) (Obls.cons (hintB (decide_eq_false g6)) Obls.nil))))))⟩
theorem is_l_2 (N : Nat) (db n : Nat) (a b : Int) (cp : HV) (H : Heap) (i j : Int)  (g0 : ¬ (a < j)) : RunsTo Try.prog polS 71 (sub [1, 0, 0, 1, 0, 0, 1, 0, 0] B71) (env71 (.sl db 0 n none n 1) (.int .i64 a) (.int .i64 b) (.func 67 [] [cp]) (.int .i64 i) (.int .i64 j)) H (.exit 2) (polS.keys 71) (env71 (.sl db 0 n none n 1) (.int .i64 a) (.int .i64 b) (.func 67 [] [cp]) (.int .i64 i) (.int .i64 j)) H :=
  RunsTo.hint (N + 1) 60 [⟨4, 2, .bool false, H⟩] fun kf hk => by
    obtain ⟨kf, rfl⟩ : ∃ n, kf = n + 1 := ⟨kf - 1, by omega⟩
    exact ⟨[some (HV.bool (decide (a < j)), (H : Heap)) = some (.bool false, H)], by kernel_rfl, Obls.cons (hintB (decide_eq_false g0)) Obls.nil⟩
theorem is_c_0 (N : Nat) (db n : Nat) (a b : Int) (cp : HV) (H : Heap) (i j : Int)   : RunsTo Try.prog polS 71 (sub [1, 0, 0, 1, 1] B71) (env71 (.sl db 0 n none n 1) (.int .i64 a) (.int .i64 b) (.func 67 [] [cp]) (.int .i64 i) (.int .i64 j)) H (.normal) (polS.keys 71) (env71 (.sl db 0 n none n 1) (.int .i64 a) (.int .i64 b) (.func 67 [] [cp]) (.int .i64 (IntKind.i64.wrap (i + 1))) (.int .i64 j)) H :=
  RunsTo.hint (N + 1) 60 [] fun kf hk => by
    obtain ⟨kf, rfl⟩ : ∃ n, kf = n + 1 := ⟨kf - 1, by omega⟩
    exact ⟨[], by kernel_rfl, Obls.nil⟩
end Go.Proofs.Ytmhfkhlamnapdaa
end
section
open Go Go.HL
namespace Go.Proofs.Ytmhfkhlamnapdaa
def sink (f : Int → Int) (a : Nat) : Nat → List Int → List Int
  | 0, l => l
  | j + 1, l => if a < j + 1 ∧ f (l.getD j 0) < f (l.getD (j + 1) 0) then sink f a j (swp l (j + 1) j) else l
def insGo (f : Int → Int) (a : Nat) : Nat → Nat → List Int → List Int
  | 0, _, l => l
  | d + 1, i, l => insGo f a d (i + 1) (sink f a i l)
def insertion (f : Int → Int) (a b : Nat) (l : List Int) : List Int := insGo f a (b - (a + 1)) (a + 1) l
theorem sink_len (f : Int → Int) (a : Nat) : ∀ (j : Nat) (l : List Int), (sink f a j l).length = l.length
  | 0, _ => rfl
  | j + 1, l => by
    rw [sink]
    split
    · rw [sink_len f a j, swp_len]
    · rfl
theorem insGo_len (f : Int → Int) (a : Nat) : ∀ (d i : Nat) (l : List Int), (insGo f a d i l).length = l.length
  | 0, _, _ => rfl
  | d + 1, i, l => by rw [insGo, insGo_len f a d, sink_len]
theorem is_sink {db : Nat} {cp : HV} {f : Int → Int} {dom : Int → Prop} {K : Heap → Prop} (hc : Cmp db cp f dom K) (n : Nat) (hn : n ≤ 1000) (a : Nat) (b : Int) (i : Int) : ∀ (j : Nat) (l : List Int) (H : Heap), l.length = n → j < n → Ls db K dom l H →
    ∃ j' H', RunsTo Try.prog polS 71 (sub [1, 0, 0, 1, 0, 0, 1, 0] B71) (env71 (.sl db 0 n none n 1) (.int .i64 (a : Int)) (.int .i64 b) (.func 67 [] [cp]) (.int .i64 i) (.int .i64 (j : Int))) H
      (.exit 2) (polS.keys 71) (env71 (.sl db 0 n none n 1) (.int .i64 (a : Int)) (.int .i64 b) (.func 67 [] [cp]) (.int .i64 i) (.int .i64 j')) H' ∧ Ls db K dom (sink f a j l) H' ∧ Fd db H H' := by
  intro j
  induction j with
  | zero =>
    intro l H hl hj hL
    exact ⟨_, H, RunsTo.loop_out (is_l_2 0 db n (a : Int) b cp H i ((0 : Nat) : Int) (by omega)) (by simp) (by kernel_rfl) (by kernel_rfl), hL, Fd.refl _ _⟩
  | succ j ih =>
    intro l H hl hj hL
    rw [sink]
    by_cases c1 : a < j + 1
    · have hw : IntKind.i64.wrap (((j + 1 : Nat) : Int) - 1) = (j : Int) := by rw [wrapI64]; omega
      have gi : ∀ y, y < n → idxV Try.prog 24 (.sl db 0 n none n 1) (.int .i64 ((y : Nat) : Int)) = some (.ptr db (((y : Nat) : Int).toNat) 0 n) := fun y hy => idx_sl u24b z3b (by omega) (by omega)
      have gl : ∀ {H : Heap}, Ls db K dom l H → ∀ y, y < n → loadV Try.prog H 3 (.ptr db (((y : Nat) : Int).toNat) 0 n) = some (.int .i64 (l.getD y 0)) := fun hL y hy => by
        rw [Int.toNat_natCast, ← hl]; exact hL.load (by omega)
      obtain ⟨c, H1, hcl, hlt, hK, hF⟩ := hc.call H (l.getD (j + 1) 0) (l.getD j 0) hL.ok (hL.dom_ (by omega)) (hL.dom_ (by omega))
      obtain ⟨N, hN⟩ := hcl.from
      have hL1 := hL.fr hc.one hK hF
      by_cases c2 : f (l.getD j 0) < f (l.getD (j + 1) 0)
      · rw [if_pos ⟨c1, c2⟩]
        obtain ⟨s1, s2, s3, s4⟩ := hL1.swp_ hc (i := j + 1) (j := j) (by omega) (by omega)
        rw [hl] at s1 s2
        have st := is_l_0 N db n (a : Int) b cp H i ((j + 1 : Nat) : Int) (l.getD (j + 1) 0) (l.getD j 0) c H1 (l.getD j 0) (l.getD (j + 1) 0) _ _ (by omega) (gi _ hj) (gl hL _ hj) (by rw [hw]; exact gi j (by omega)) (by rw [hw]; exact gl hL j (by omega)) hN (hlt.2 c2)
          (by rw [hw]; exact gi j (by omega)) (by rw [hw]; exact gl hL1 j (by omega)) (gi _ hj) (gl hL1 _ hj) (gi _ hj) (by rw [Int.toNat_natCast]; exact s1) (by rw [hw]; exact gi j (by omega)) (by rw [hw, Int.toNat_natCast]; exact s2)
        rw [hw] at st
        obtain ⟨j', H2, r2, h2, h3⟩ := ih (swp l (j + 1) j) _ (by rw [swp_len]; exact hl) (by omega) s3
        exact ⟨j', H2, RunsTo.loop st (by kernel_rfl) (gc_eq _ (by rw [s4.len, hF.len])) r2 rfl (by kernel_rfl) (by kernel_rfl), h2, (hF.fd.trans s4).trans h3⟩
      · rw [if_neg (fun h => c2 h.2)]
        have st := is_l_1 N db n (a : Int) b cp H i ((j + 1 : Nat) : Int) (l.getD (j + 1) 0) (l.getD j 0) c H1 (by omega) (gi _ hj) (gl hL _ hj) (by rw [hw]; exact gi j (by omega)) (by rw [hw]; exact gl hL j (by omega)) hN (fun h => c2 (hlt.1 h))
        exact ⟨_, H1, RunsTo.loop_out st (by simp) (by kernel_rfl) (by kernel_rfl), hL1, hF.fd⟩
    · rw [if_neg (fun h => c1 h.1)]
      exact ⟨_, H, RunsTo.loop_out (is_l_2 0 db n (a : Int) b cp H i ((j + 1 : Nat) : Int) (by omega)) (by simp) (by kernel_rfl) (by kernel_rfl), hL, Fd.refl _ _⟩
theorem is_outer {db : Nat} {cp : HV} {f : Int → Int} {dom : Int → Prop} {K : Heap → Prop} (hc : Cmp db cp f dom K) (n : Nat) (hn : n ≤ 1000) (a b : Nat) (hb : b ≤ n) : ∀ (d i : Nat) (l : List Int) (H : Heap), i + d = b → l.length = n → Ls db K dom l H →
    ∃ H', RunsTo Try.prog polS 71 (sub [1, 0] B71) (env71 (.sl db 0 n none n 1) (.int .i64 (a : Int)) (.int .i64 (b : Int)) (.func 67 [] [cp]) (.int .i64 (i : Int)) .undef) H
      (.exit 0) (polS.keys 71) (env71 (.sl db 0 n none n 1) (.int .i64 (a : Int)) (.int .i64 (b : Int)) (.func 67 [] [cp]) (.int .i64 (b : Int)) .undef) H' ∧ Ls db K dom (insGo f a d i l) H' ∧ Fd db H H' := by
  intro d
  induction d with
  | zero =>
    intro i l H hi hl hL
    have hi : i = b := by omega
    subst hi
    have s1 := is_h_1 0 db n (a : Int) (i : Int) cp H (i : Int) (by omega)
    exact ⟨H, RunsTo.loop_out (RunsTo.seq_out s1 (by simp) (c := sub [1, 0, 0] B71) (b := sub [1, 0, 0, 1] B71) (by kernel_rfl)) (by simp) (by kernel_rfl) (by kernel_rfl), hL, Fd.refl _ _⟩
  | succ d ih =>
    intro i l H hi hl hL
    have h1 := is_h_0 0 db n (a : Int) (b : Int) cp H (i : Int) (by omega)
    have b1 := is_b_0 0 db n (a : Int) (b : Int) cp H (i : Int)
    obtain ⟨j', H1, r1, hL1, hF1⟩ := is_sink hc n hn a (b : Int) (i : Int) i l H hl (by omega) hL
    have c1 := is_c_0 0 db n (a : Int) (b : Int) cp H1 (i : Int) j'
    rw [wrap_succ (by omega)] at c1
    obtain ⟨H2, r2, hL2, hF2⟩ := ih (i + 1) (sink f a i l) H1 (by omega) (by rw [sink_len]; exact hl) hL1
    refine ⟨H2, ?_, by rw [insGo]; exact hL2, hF1.trans hF2⟩
    have t1 := RunsTo.seq b1 (RunsTo.block_exit (c := sub [1, 0, 0, 1, 0, 0, 1] B71) r1 (by kernel_rfl)) (c := sub [1, 0, 0, 1, 0, 0] B71) (by kernel_rfl) (by kernel_rfl)
    have t2 := RunsTo.block_normal (i := 1) (c := sub [1, 0, 0, 1, 0] B71) t1 (by kernel_rfl)
    have t3 := RunsTo.seq t2 c1 (c := sub [1, 0, 0, 1] B71) (by kernel_rfl) (by kernel_rfl)
    have t4 := RunsTo.seq h1 t3 (c := sub [1, 0, 0] B71) (by kernel_rfl) (by kernel_rfl)
    exact RunsTo.loop t4 (by kernel_rfl) (gc_eq _ hF1.len) r2 rfl (by kernel_rfl) (by kernel_rfl)
theorem res71 : Try.f71.results.toList = [] := by kernel_rfl
/-- The sort by insertion. -/
theorem insertion_call {db : Nat} {cp : HV} {f : Int → Int} {dom : Int → Prop} {K : Heap → Prop} (hc : Cmp db cp f dom K) {n a b : Nat} (hn : n ≤ 1000) (hab : a < b) (hb : b ≤ n) {l : List Int} {H : Heap} (hl : l.length = n) (hL : Ls db K dom l H) :
    ∃ H', Cl 71 [.sl db 0 n none n 1, .int .i64 (a : Int), .int .i64 (b : Int), .func 67 [] [cp]] H (.tuple []) H' ∧ Ls db K dom (insertion f a b l) H' ∧ Fd db H H' := by
  have a1 := is_a_0 0 db n (a : Int) (b : Int) cp H
  rw [wrap_succ (by omega)] at a1
  obtain ⟨H', r, hL', hF⟩ := is_outer hc n hn a b hb (b - (a + 1)) (a + 1) l H (by omega) hl hL
  have t1 := RunsTo.seq a1 (RunsTo.block_exit (c := sub [1] B71) r (by kernel_rfl)) (c := B71) (by kernel_rfl) (by kernel_rfl)
  have hcl := CallsTo.shared (P := Try.prog) (pol := polS) (g := 71) (fn := Try.f71) (cd := B71) (args := [.sl db 0 n none n 1, .int .i64 (a : Int), .int .i64 (b : Int), .func 67 [] [cp]]) (v := .tuple []) (by kernel_rfl) (by kernel_rfl) (by kernel_rfl) (by kernel_rfl) t1 (by kernel_rfl) (by simp) (by simp only [resultsV, res71, mapO])
  rw [gc_eq _ hF.len] at hcl
  exact ⟨H', hcl, hL', hF⟩
end Go.Proofs.Ytmhfkhlamnapdaa
end
section
open Go Go.HL
namespace Go.Proofs.Ytmhfkhlamnapdaa
def swapR (a b : Nat) : Nat → Nat → List Int → List Int
  | 0, _, l => l
  | d + 1, i, l => swapR a b d (i + 1) (swp l (a + i) (b + i))
theorem swapR_len (a b : Nat) : ∀ (d i : Nat) (l : List Int), (swapR a b d i l).length = l.length
  | 0, _, _ => rfl
  | d + 1, i, l => by rw [swapR, swapR_len a b d, swp_len]
def rotGo (m : Nat) : Nat → Nat → Nat → List Int → List Int
  | 0, i, _, l => swapR (m - i) m i 0 l
  | k + 1, i, j, l => if i = j then swapR (m - i) m i 0 l else if j < i then rotGo m k (i - j) j (swapR (m - i) m j 0 l) else rotGo m k i (j - i) (swapR (m - i) (m + j - i) i 0 l)
theorem rotGo_len (m : Nat) : ∀ (k i j : Nat) (l : List Int), (rotGo m k i j l).length = l.length
  | 0, i, j, l => swapR_len _ _ _ _ _
  | k + 1, i, j, l => by
    rw [rotGo]
    split
    · exact swapR_len _ _ _ _ _
    · split
      · rw [rotGo_len m k, swapR_len]
      · rw [rotGo_len m k, swapR_len]
def rotate (a m b : Nat) (l : List Int) : List Int := rotGo m (b - a) (m - a) (b - m) l
theorem res74 : Try.f74.results.toList = [] := by kernel_rfl
theorem res73 : Try.f73.results.toList = [] := by kernel_rfl
theorem swap_loop {db : Nat} {cp : HV} {f : Int → Int} {dom : Int → Prop} {K : Heap → Prop} (hc : Cmp db cp f dom K) (n : Nat) (hn : n ≤ 1000) (a b m : Nat) (ha : a + m ≤ n) (hb : b + m ≤ n) : ∀ (d i : Nat) (l : List Int) (H : Heap), i + d = m → l.length = n → Ls db K dom l H →
    ∃ H', RunsTo Try.prog polS 74 (sub [1, 0] B74) (env74 (.sl db 0 n none n 1) (.int .i64 (a : Int)) (.int .i64 (b : Int)) (.int .i64 (m : Int)) (.int .i64 (i : Int))) H
      (.exit 0) (polS.keys 74) (env74 (.sl db 0 n none n 1) (.int .i64 (a : Int)) (.int .i64 (b : Int)) (.int .i64 (m : Int)) (.int .i64 (m : Int))) H' ∧ Ls db K dom (swapR a b d i l) H' ∧ Fd db H H' := by
  intro d
  induction d with
  | zero =>
    intro i l H hi hl hL
    have hi : i = m := by omega
    subst hi
    exact ⟨H, RunsTo.loop_out (sw_l_1 0 db n (a : Int) (b : Int) (i : Int) H (i : Int) (by omega)) (by simp) (by kernel_rfl) (by kernel_rfl), hL, Fd.refl _ _⟩
  | succ d ih =>
    intro i l H hi hl hL
    have w1 : IntKind.i64.wrap ((a : Int) + (i : Int)) = ((a + i : Nat) : Int) := by rw [wrapI64]; omega
    have w2 : IntKind.i64.wrap ((b : Int) + (i : Int)) = ((b + i : Nat) : Int) := by rw [wrapI64]; omega
    have gi : ∀ y, y < n → idxV Try.prog 24 (.sl db 0 n none n 1) (.int .i64 ((y : Nat) : Int)) = some (.ptr db (((y : Nat) : Int).toNat) 0 n) := fun y hy => idx_sl u24b z3b (by omega) (by omega)
    have gl : ∀ y, y < n → loadV Try.prog H 3 (.ptr db (((y : Nat) : Int).toNat) 0 n) = some (.int .i64 (l.getD y 0)) := fun y hy => by
      rw [Int.toNat_natCast, ← hl]; exact hL.load (by omega)
    obtain ⟨s1, s2, s3, s4⟩ := hL.swp_ hc (i := a + i) (j := b + i) (by omega) (by omega)
    rw [hl] at s1 s2
    have st := sw_l_0 0 db n (a : Int) (b : Int) (m : Int) H (i : Int) (l.getD (b + i) 0) (l.getD (a + i) 0) _ _ (by omega) (by rw [w2]; exact gi _ (by omega)) (by rw [w2]; exact gl _ (by omega)) (by rw [w1]; exact gi _ (by omega)) (by rw [w1]; exact gl _ (by omega)) (by rw [w1]; exact gi _ (by omega)) (by rw [w1, Int.toNat_natCast]; exact s1) (by rw [w2]; exact gi _ (by omega)) (by rw [w2, Int.toNat_natCast]; exact s2)
    rw [wrap_succ (by omega)] at st
    obtain ⟨H', r2, h2, h3⟩ := ih (i + 1) (swp l (a + i) (b + i)) _ (by omega) (by rw [swp_len]; exact hl) s3
    exact ⟨H', RunsTo.loop st (by kernel_rfl) (gc_eq _ s4.len) r2 rfl (by kernel_rfl) (by kernel_rfl), by rw [swapR]; exact h2, s4.trans h3⟩
theorem swapR_call {db : Nat} {cp : HV} {f : Int → Int} {dom : Int → Prop} {K : Heap → Prop} (hc : Cmp db cp f dom K) {n a b m : Nat} (hn : n ≤ 1000) (ha : a + m ≤ n) (hb : b + m ≤ n) {l : List Int} {H : Heap} (hl : l.length = n) (hL : Ls db K dom l H) (cv : HV) :
    ∃ H', Cl 74 [.sl db 0 n none n 1, .int .i64 (a : Int), .int .i64 (b : Int), .int .i64 (m : Int), .func 67 [] [cv]] H (.tuple []) H' ∧ Ls db K dom (swapR a b m 0 l) H' ∧ Fd db H H' := by
  have a1 := sw_a_0 0 db n (a : Int) (b : Int) (m : Int) cv H
  obtain ⟨H', r, hL', hF⟩ := swap_loop hc n hn a b m ha hb m 0 l H (by omega) hl hL
  have t1 := RunsTo.seq a1 (RunsTo.block_exit (c := sub [1] B74) r (by kernel_rfl)) (c := B74) (by kernel_rfl) (by kernel_rfl)
  have hcl := CallsTo.shared (P := Try.prog) (pol := polS) (g := 74) (fn := Try.f74) (cd := B74) (args := [.sl db 0 n none n 1, .int .i64 (a : Int), .int .i64 (b : Int), .int .i64 (m : Int), .func 67 [] [cv]]) (v := .tuple []) (by kernel_rfl) (by kernel_rfl) (by kernel_rfl) (by kernel_rfl) t1 (by kernel_rfl) (by simp) (by simp only [resultsV, res74, mapO])
  rw [gc_eq _ hF.len] at hcl
  exact ⟨H', hcl, hL', hF⟩
theorem rot_loop {db : Nat} {cp : HV} {f : Int → Int} {dom : Int → Prop} {K : Heap → Prop} (hc : Cmp db cp f dom K) (n : Nat) (hn : n ≤ 1000) (a m b : Nat) (hb : b ≤ n) : ∀ (k i j : Nat) (l : List Int) (H : Heap), i + j ≤ k + 1 → 0 < i → 0 < j → i ≤ m → m + j ≤ n → l.length = n → Ls db K dom l H →
    ∃ (i' j' : Nat) (l' : List Int) (H' : Heap), RunsTo Try.prog polS 73 (sub [1, 1, 0, 0] B73) (env73 (.sl db 0 n none n 1) (.int .i64 (a : Int)) (.int .i64 (m : Int)) (.int .i64 (b : Int)) (.func 67 [] [cp]) (.int .i64 (i : Int)) (.int .i64 (j : Int))) H
      (.exit 0) (polS.keys 73) (env73 (.sl db 0 n none n 1) (.int .i64 (a : Int)) (.int .i64 (m : Int)) (.int .i64 (b : Int)) (.func 67 [] [cp]) (.int .i64 (i' : Int)) (.int .i64 (j' : Int))) H' ∧ Ls db K dom l' H' ∧ Fd db H H' ∧ l'.length = n ∧ i' ≤ m ∧ m + i' ≤ n ∧ rotGo m k i j l = swapR (m - i') m i' 0 l' := by
  intro k
  induction k with
  | zero =>
    intro i j l H hk hi hj _ _ _ _
    omega
  | succ k ih =>
    intro i j l H hk hi hj him hjn hl hL
    rw [rotGo]
    by_cases e : i = j
    · rw [if_pos e]
      have s1 := ro_l_0 0 db n (a : Int) (m : Int) (b : Int) cp H (i : Int) (j : Int) (by omega)
      exact ⟨i, j, l, H, RunsTo.loop_out s1 (by simp) (by kernel_rfl) (by kernel_rfl), hL, Fd.refl _ _, hl, him, by omega, rfl⟩
    · rw [if_neg e]
      by_cases h : j < i
      · rw [if_pos h]
        have w1 : IntKind.i64.wrap ((m : Int) - (i : Int)) = ((m - i : Nat) : Int) := by rw [wrapI64]; omega
        have w2 : IntKind.i64.wrap ((i : Int) - (j : Int)) = ((i - j : Nat) : Int) := by rw [wrapI64]; omega
        obtain ⟨H1, c1, hL1, hF1⟩ := swapR_call hc (n := n) (a := m - i) (b := m) (m := j) hn (by omega) (by omega) hl hL cp
        obtain ⟨N, hN⟩ := c1.from
        have s1 := ro_l_1 N db n (a : Int) (m : Int) (b : Int) cp H (i : Int) (j : Int) H1 (by omega) (by omega) (by rw [w1]; exact hN)
        rw [w2] at s1
        obtain ⟨i', j', l', H', r, h1, h2, h3, h4, h5, h6⟩ := ih (i - j) j (swapR (m - i) m j 0 l) H1 (by omega) (by omega) hj (by omega) hjn (by rw [swapR_len]; exact hl) hL1
        exact ⟨i', j', l', H', RunsTo.loop s1 (by kernel_rfl) (gc_eq _ hF1.len) r rfl (by kernel_rfl) (by kernel_rfl), h1, hF1.trans h2, h3, h4, h5, h6⟩
      · rw [if_neg h]
        have w1 : IntKind.i64.wrap ((m : Int) - (i : Int)) = ((m - i : Nat) : Int) := by rw [wrapI64]; omega
        have w2 : IntKind.i64.wrap ((j : Int) - (i : Int)) = ((j - i : Nat) : Int) := by rw [wrapI64]; omega
        have w3 : IntKind.i64.wrap ((m : Int) + (j : Int)) = ((m + j : Nat) : Int) := by rw [wrapI64]; omega
        have w4 : IntKind.i64.wrap (((m + j : Nat) : Int) - (i : Int)) = ((m + j - i : Nat) : Int) := by rw [wrapI64]; omega
        obtain ⟨H1, c1, hL1, hF1⟩ := swapR_call hc (n := n) (a := m - i) (b := m + j - i) (m := i) hn (by omega) (by omega) hl hL cp
        obtain ⟨N, hN⟩ := c1.from
        have s1 := ro_l_2 N db n (a : Int) (m : Int) (b : Int) cp H (i : Int) (j : Int) H1 (by omega) (by omega) (by rw [w1, w3, w4]; exact hN)
        rw [w2] at s1
        obtain ⟨i', j', l', H', r, h1, h2, h3, h4, h5, h6⟩ := ih i (j - i) (swapR (m - i) (m + j - i) i 0 l) H1 (by omega) hi (by omega) him (by omega) (by rw [swapR_len]; exact hl) hL1
        exact ⟨i', j', l', H', RunsTo.loop s1 (by kernel_rfl) (gc_eq _ hF1.len) r rfl (by kernel_rfl) (by kernel_rfl), h1, hF1.trans h2, h3, h4, h5, h6⟩
theorem rotate_call {db : Nat} {cp : HV} {f : Int → Int} {dom : Int → Prop} {K : Heap → Prop} (hc : Cmp db cp f dom K) {n a m b : Nat} (hn : n ≤ 1000) (ham : a < m) (hmb : m < b) (hb : b ≤ n) {l : List Int} {H : Heap} (hl : l.length = n) (hL : Ls db K dom l H) :
    ∃ H', Cl 73 [.sl db 0 n none n 1, .int .i64 (a : Int), .int .i64 (m : Int), .int .i64 (b : Int), .func 67 [] [cp]] H (.tuple []) H' ∧ Ls db K dom (rotate a m b l) H' ∧ Fd db H H' := by
  have a1 := ro_a_0 0 db n (a : Int) (m : Int) (b : Int) cp H
  have b1 := ro_b_0 0 db n (a : Int) (m : Int) (b : Int) cp H ((m - a : Nat) : Int)
  have w1 : IntKind.i64.wrap ((m : Int) - (a : Int)) = ((m - a : Nat) : Int) := by rw [wrapI64]; omega
  have w2 : IntKind.i64.wrap ((b : Int) - (m : Int)) = ((b - m : Nat) : Int) := by rw [wrapI64]; omega
  rw [w1] at a1
  rw [w2] at b1
  obtain ⟨i', j', l', H1, r, hL1, hF1, hl1, h4, h5, h6⟩ := rot_loop hc n hn a m b hb (b - a) (m - a) (b - m) l H (by omega) (by omega) (by omega) (by omega) (by omega) hl hL
  obtain ⟨H2, c2, hL2, hF2⟩ := swapR_call hc (n := n) (a := m - i') (b := m) (m := i') hn (by omega) (by omega) hl1 hL1 cp
  obtain ⟨N, hN⟩ := c2.from
  have w3 : IntKind.i64.wrap ((m : Int) - (i' : Int)) = ((m - i' : Nat) : Int) := by rw [wrapI64]; omega
  have z1 := ro_z_0 N db n (a : Int) (m : Int) (b : Int) cp H1 (i' : Int) (j' : Int) H2 (by rw [w3]; exact hN)
  have t1 := RunsTo.seq (RunsTo.block_exit (c := sub [1, 1, 0] B73) r (by kernel_rfl)) z1 (c := sub [1, 1] B73) (by kernel_rfl) (by kernel_rfl)
  have t2 := RunsTo.seq b1 t1 (c := sub [1] B73) (by kernel_rfl) (by kernel_rfl)
  have t3 := RunsTo.seq a1 t2 (c := B73) (by kernel_rfl) (by kernel_rfl)
  have hcl := CallsTo.shared (P := Try.prog) (pol := polS) (g := 73) (fn := Try.f73) (cd := B73) (args := [.sl db 0 n none n 1, .int .i64 (a : Int), .int .i64 (m : Int), .int .i64 (b : Int), .func 67 [] [cp]]) (v := .tuple []) (by kernel_rfl) (by kernel_rfl) (by kernel_rfl) (by kernel_rfl) t3 (by kernel_rfl) (by simp) (by simp only [resultsV, res73, mapO])
  rw [gc_eq _ (hF1.trans hF2).len] at hcl
  exact ⟨H2, hcl, by rw [rotate, h6]; exact hL2, hF1.trans hF2⟩
end Go.Proofs.Ytmhfkhlamnapdaa
end
section
open Go Go.HL
namespace Go.Proofs.Ytmhfkhlamnapdaa
def bs (q : Nat → Bool) : Nat → Nat → Nat → Nat
  | 0, i, _ => i
  | d + 1, i, j => if i < j then (if q ((i + j) / 2) = true then bs q d ((i + j) / 2 + 1) j else bs q d i ((i + j) / 2)) else i
theorem bs_bound (q : Nat → Bool) : ∀ (d i j : Nat), i ≤ j → i ≤ bs q d i j ∧ bs q d i j ≤ j
  | 0, i, j, h => by rw [bs]; omega
  | d + 1, i, j, h => by
    rw [bs]
    split
    · split
      · have := bs_bound q d ((i + j) / 2 + 1) j (by omega); omega
      · have := bs_bound q d i ((i + j) / 2) (by omega); omega
    · omega
def mvUp : Nat → Nat → List Int → List Int
  | 0, _, l => l
  | d + 1, k, l => mvUp d (k + 1) (swp l k (k + 1))
def mvDn : Nat → Nat → List Int → List Int
  | 0, _, l => l
  | d + 1, k, l => mvDn d (k - 1) (swp l k (k - 1))
theorem mvUp_len : ∀ (d k : Nat) (l : List Int), (mvUp d k l).length = l.length
  | 0, _, _ => rfl
  | d + 1, k, l => by rw [mvUp, mvUp_len d, swp_len]
theorem mvDn_len : ∀ (d k : Nat) (l : List Int), (mvDn d k l).length = l.length
  | 0, _, _ => rfl
  | d + 1, k, l => by rw [mvDn, mvDn_len d, swp_len]
theorem rotate_len (a m b : Nat) (l : List Int) : (rotate a m b l).length = l.length := rotGo_len _ _ _ _ _
def s0F (m b mid a : Nat) : Nat := if mid < m then mid + m - b else a
def r0F (m mid : Nat) : Nat := if mid < m then mid else m
def sF (f : Int → Int) (a m b : Nat) (l : List Int) : Nat :=
  bs (fun c => !decide (f (l.getD c 0) < f (l.getD ((a + b) / 2 + m - 1 - c) 0))) (r0F m ((a + b) / 2) - s0F m b ((a + b) / 2) a) (s0F m b ((a + b) / 2) a) (r0F m ((a + b) / 2))
def symM (f : Int → Int) : Nat → Nat → Nat → Nat → List Int → List Int
  | 0, _, _, _, l => l
  | k + 1, a, m, b, l =>
    if m - a = 1 then mvUp (bs (fun h => decide (f (l.getD a 0) < f (l.getD h 0))) (b - m) m b - 1 - a) a l
    else if b - m = 1 then mvDn (m - bs (fun h => !decide (f (l.getD h 0) < f (l.getD m 0))) (m - a) a m) m l
    else
      let mid := (a + b) / 2
      let s := sF f a m b l
      let e := mid + m - s
      let l1 := if s < m ∧ m < e then rotate s m e l else l
      let l2 := if a < s ∧ s < mid then symM f k a s mid l1 else l1
      if mid < e ∧ e < b then symM f k mid e b l2 else l2
theorem symM_len (f : Int → Int) : ∀ (k a m b : Nat) (l : List Int), (symM f k a m b l).length = l.length
  | 0, _, _, _, _ => rfl
  | k + 1, a, m, b, l => by
    rw [symM]
    split
    · exact mvUp_len _ _ _
    · split
      · exact mvDn_len _ _ _
      · dsimp only
        have h1 : ∀ (c : Prop) [Decidable c] (s m e : Nat) (l : List Int), (if c then rotate s m e l else l).length = l.length := by intro c _ s m e l; split; exact rotate_len _ _ _ _; rfl
        split
        · rw [symM_len f k]
          split
          · rw [symM_len f k, h1]
          · rw [h1]
        · split
          · rw [symM_len f k, h1]
          · rw [h1]
theorem mid_shr (i j : Nat) (hi : i ≤ 100000) (hj : j ≤ 100000) : binV Try.prog .shr 76 (.int .u64 (IntKind.u64.wrap (IntKind.i64.wrap ((i : Int) + (j : Int))))) (.int .u64 1) = some (.int .u64 (((i + j) / 2 : Nat) : Int)) := by
  have e1 : IntKind.i64.wrap ((i : Int) + (j : Int)) = ((i + j : Nat) : Int) := by rw [wrapI64]; omega
  have e2 : IntKind.u64.wrap ((i + j : Nat) : Int) = ((i + j : Nat) : Int) := by rw [wrapU64]; omega
  have e3 : (((i + j : Nat) : Int)).fdiv (2 ^ min (1 : Int).toNat IntKind.u64.bits) = (((i + j) / 2 : Nat) : Int) := by
    have : (2 : Int) ^ min (1 : Int).toNat IntKind.u64.bits = 2 := by decide
    rw [this, Int.fdiv_eq_ediv_of_nonneg _ (by omega)]
    omega
  have e4 : IntKind.u64.wrap (((i + j) / 2 : Nat) : Int) = (((i + j) / 2 : Nat) : Int) := by rw [wrapU64]; omega
  rw [e1, e2]
  simp only [binV, intBin]
  rw [if_neg (by omega), e3]
theorem mid_i64 (h : Nat) (hh : h ≤ 100000) : IntKind.i64.wrap ((h : Nat) : Int) = (h : Int) := by rw [wrapI64]; omega
abbrev sE (db n : Nat) (a m b : Int) (cp : HV) (v10 v11 v12 v13 v14 v15 v16 v17 v18 v19 v20 v21 v22 v23 v24 : HV) : Env :=
  env72 (.sl db 0 n none n 1) (.int .i64 a) (.int .i64 m) (.int .i64 b) (.func 67 [] [cp]) v10 v11 v12 v13 v14 v15 v16 v17 v18 v19 v20 v21 v22 v23 v24
section
variable {db : Nat} {cp : HV} {f : Int → Int} {dom : Int → Prop} {K : Heap → Prop}
theorem gi_ {db n y : Nat} (hy : y < n) : idxV Try.prog 24 (.sl db 0 n none n 1) (.int .i64 ((y : Nat) : Int)) = some (.ptr db (((y : Nat) : Int).toNat) 0 n) := idx_sl u24b z3b (by omega) (by omega)
end
section
variable {db : Nat} {cp : HV} {f : Int → Int} {dom : Int → Prop} {K : Heap → Prop}
theorem Ls.gl_ {l : List Int} {H : Heap} {n y : Nat} (hL : Ls db K dom l H) (hl : l.length = n) (hy : y < n) : loadV Try.prog H 3 (.ptr db (((y : Nat) : Int).toNat) 0 n) = some (.int .i64 (l.getD y 0)) := by
  rw [Int.toNat_natCast, ← hl]; exact hL.load (by omega)
end
section
variable {db : Nat} {cp : HV} {f : Int → Int} {dom : Int → Prop} {K : Heap → Prop}
theorem sy_bs1 (hc : Cmp db cp f dom K) (n : Nat) (hn : n ≤ 1000) (a m b : Nat) (ha : a < n) (hb : b ≤ n) (l : List Int) (hl : l.length = n) : ∀ (d i j : Nat) (H : Heap), j - i ≤ d → j ≤ b → Ls db K dom l H →
    ∃ (j' : Nat) (H' : Heap), RunsTo Try.prog polS 72 (sub [0, 1, 0, 1, 1, 0, 0] B72) (sE db n a m b cp (.int .i64 (i : Int)) (.int .i64 (j : Int)) .undef .undef .undef .undef .undef .undef .undef .undef .undef .undef .undef .undef .undef) H
      (.exit 0) (polS.keys 72) (sE db n a m b cp (.int .i64 ((bs (fun h => decide (f (l.getD a 0) < f (l.getD h 0))) d i j : Nat) : Int)) (.int .i64 (j' : Int)) .undef .undef .undef .undef .undef .undef .undef .undef .undef .undef .undef .undef .undef) H' ∧ Ls db K dom l H' ∧ Fr H H' := by
  intro d
  induction d with
  | zero =>
    intro i j H hd hj hL
    rw [bs]
    exact ⟨j, H, RunsTo.loop_out (sy_d_2 0 db n (a : Int) (m : Int) (b : Int) cp H (i : Int) (j : Int) (by omega)) (by simp) (by kernel_rfl) (by kernel_rfl), hL, Fr.refl _⟩
  | succ d ih =>
    intro i j H hd hj hL
    rw [bs]
    by_cases hij : i < j
    · rw [if_pos hij]
      have hh : (i + j) / 2 < n := by omega
      have hw := mid_i64 ((i + j) / 2) (by omega)
      obtain ⟨c, H1, hcl, hlt, hK, hF⟩ := hc.call H (l.getD ((i + j) / 2) 0) (l.getD a 0) hL.ok (hL.dom_ (by omega)) (hL.dom_ (by omega))
      obtain ⟨N, hN⟩ := hcl.from
      have hL1 := hL.fr hc.one hK hF
      by_cases hq : f (l.getD a 0) < f (l.getD ((i + j) / 2) 0)
      · rw [if_pos (by simpa using hq)]
        have st := sy_d_0 N db n (a : Int) (m : Int) (b : Int) cp H (i : Int) (j : Int) _ _ _ c H1 (by omega) (mid_shr i j (by omega) (by omega)) (by rw [hw]; exact gi_ hh) (by rw [hw]; exact hL.gl_ hl hh) (gi_ ha) (hL.gl_ hl ha) hN (hlt.2 hq)
        rw [hw, wrap_succ (by omega)] at st
        obtain ⟨j', H2, r2, h2, h3⟩ := ih ((i + j) / 2 + 1) j H1 (by omega) hj hL1
        exact ⟨j', H2, RunsTo.loop st (by kernel_rfl) (gc_eq _ hF.len) r2 rfl (by kernel_rfl) (by kernel_rfl), h2, hF.trans h3⟩
      · rw [if_neg (by simpa using hq)]
        have st := sy_d_1 N db n (a : Int) (m : Int) (b : Int) cp H (i : Int) (j : Int) _ _ _ c H1 (by omega) (mid_shr i j (by omega) (by omega)) (by rw [hw]; exact gi_ hh) (by rw [hw]; exact hL.gl_ hl hh) (gi_ ha) (hL.gl_ hl ha) hN (fun h => hq (hlt.1 h))
        rw [hw] at st
        obtain ⟨j', H2, r2, h2, h3⟩ := ih i ((i + j) / 2) H1 (by omega) (by omega) hL1
        exact ⟨j', H2, RunsTo.loop st (by kernel_rfl) (gc_eq _ hF.len) r2 rfl (by kernel_rfl) (by kernel_rfl), h2, hF.trans h3⟩
    · rw [if_neg hij]
      exact ⟨j, H, RunsTo.loop_out (sy_d_2 0 db n (a : Int) (m : Int) (b : Int) cp H (i : Int) (j : Int) (by omega)) (by simp) (by kernel_rfl) (by kernel_rfl), hL, Fr.refl _⟩
end
section
variable {db : Nat} {cp : HV} {f : Int → Int} {dom : Int → Prop} {K : Heap → Prop}
theorem sy_bs2 (hc : Cmp db cp f dom K) (n : Nat) (hn : n ≤ 1000) (a m b : Nat) (hm : m < n) (l : List Int) (hl : l.length = n) : ∀ (d i j : Nat) (H : Heap), j - i ≤ d → j ≤ m → Ls db K dom l H →
    ∃ (j' : Nat) (H' : Heap), RunsTo Try.prog polS 72 (sub [1, 0, 1, 0, 1, 1, 0, 0] B72) (sE db n a m b cp .undef .undef .undef .undef (.int .i64 (i : Int)) (.int .i64 (j : Int)) .undef .undef .undef .undef .undef .undef .undef .undef .undef) H
      (.exit 4) (polS.keys 72) (sE db n a m b cp .undef .undef .undef .undef (.int .i64 ((bs (fun h => !decide (f (l.getD h 0) < f (l.getD m 0))) d i j : Nat) : Int)) (.int .i64 (j' : Int)) .undef .undef .undef .undef .undef .undef .undef .undef .undef) H' ∧ Ls db K dom l H' ∧ Fr H H' := by
  intro d
  induction d with
  | zero =>
    intro i j H hd hj hL
    rw [bs]
    exact ⟨j, H, RunsTo.loop_out (sy_k_2 0 db n (a : Int) (m : Int) (b : Int) cp H (i : Int) (j : Int) (by omega)) (by simp) (by kernel_rfl) (by kernel_rfl), hL, Fr.refl _⟩
  | succ d ih =>
    intro i j H hd hj hL
    rw [bs]
    by_cases hij : i < j
    · rw [if_pos hij]
      have hh : (i + j) / 2 < n := by omega
      have hw := mid_i64 ((i + j) / 2) (by omega)
      obtain ⟨c, H1, hcl, hlt, hK, hF⟩ := hc.call H (l.getD m 0) (l.getD ((i + j) / 2) 0) hL.ok (hL.dom_ (by omega)) (hL.dom_ (by omega))
      obtain ⟨N, hN⟩ := hcl.from
      have hL1 := hL.fr hc.one hK hF
      by_cases hq : f (l.getD ((i + j) / 2) 0) < f (l.getD m 0)
      · rw [if_neg (by simpa using hq)]
        have st := sy_k_0 N db n (a : Int) (m : Int) (b : Int) cp H (i : Int) (j : Int) _ _ _ c H1 (by omega) (mid_shr i j (by omega) (by omega)) (gi_ hm) (hL.gl_ hl hm) (by rw [hw]; exact gi_ hh) (by rw [hw]; exact hL.gl_ hl hh) hN (hlt.2 hq)
        rw [hw] at st
        obtain ⟨j', H2, r2, h2, h3⟩ := ih i ((i + j) / 2) H1 (by omega) (by omega) hL1
        exact ⟨j', H2, RunsTo.loop st (by kernel_rfl) (gc_eq _ hF.len) r2 rfl (by kernel_rfl) (by kernel_rfl), h2, hF.trans h3⟩
      · rw [if_pos (by simpa using hq)]
        have st := sy_k_1 N db n (a : Int) (m : Int) (b : Int) cp H (i : Int) (j : Int) _ _ _ c H1 (by omega) (mid_shr i j (by omega) (by omega)) (gi_ hm) (hL.gl_ hl hm) (by rw [hw]; exact gi_ hh) (by rw [hw]; exact hL.gl_ hl hh) hN (fun h => hq (hlt.1 h))
        rw [hw, wrap_succ (by omega)] at st
        obtain ⟨j', H2, r2, h2, h3⟩ := ih ((i + j) / 2 + 1) j H1 (by omega) hj hL1
        exact ⟨j', H2, RunsTo.loop st (by kernel_rfl) (gc_eq _ hF.len) r2 rfl (by kernel_rfl) (by kernel_rfl), h2, hF.trans h3⟩
    · rw [if_neg hij]
      exact ⟨j, H, RunsTo.loop_out (sy_k_2 0 db n (a : Int) (m : Int) (b : Int) cp H (i : Int) (j : Int) (by omega)) (by simp) (by kernel_rfl) (by kernel_rfl), hL, Fr.refl _⟩
end
section
variable {db : Nat} {cp : HV} {f : Int → Int} {dom : Int → Prop} {K : Heap → Prop}
theorem sy_bs3 (hc : Cmp db cp f dom K) (n : Nat) (hn : n ≤ 1000) (a m b mid nn : Nat) (hnn : 1 ≤ nn ∧ nn ≤ 2000) (l : List Int) (hl : l.length = n) (s0 r0 : Nat) (hb : ∀ c, s0 ≤ c → c < r0 → c < n ∧ c ≤ nn - 1 ∧ nn - 1 - c < n) : ∀ (d i j : Nat) (H : Heap), j - i ≤ d → s0 ≤ i → j ≤ r0 → Ls db K dom l H →
    ∃ (j' : Nat) (H' : Heap), RunsTo Try.prog polS 72 (sub [1, 1, 1, 1, 1, 1, 1, 0, 0] B72) (sE db n a m b cp .undef .undef .undef .undef .undef .undef .undef .undef (.int .i64 (mid : Int)) (.int .i64 (nn : Int)) (.int .i64 (i : Int)) (.int .i64 (j : Int)) (.int .i64 ((nn - 1 : Nat) : Int)) .undef .undef) H
      (.exit 8) (polS.keys 72) (sE db n a m b cp .undef .undef .undef .undef .undef .undef .undef .undef (.int .i64 (mid : Int)) (.int .i64 (nn : Int)) (.int .i64 ((bs (fun c => !decide (f (l.getD c 0) < f (l.getD (nn - 1 - c) 0))) d i j : Nat) : Int)) (.int .i64 (j' : Int)) (.int .i64 ((nn - 1 : Nat) : Int)) .undef .undef) H' ∧ Ls db K dom l H' ∧ Fr H H' := by
  intro d
  induction d with
  | zero =>
    intro i j H hd _ hj hL
    rw [bs]
    exact ⟨j, H, RunsTo.loop_out (sy_t_2 0 db n (a : Int) (m : Int) (b : Int) cp H (mid : Int) (nn : Int) (i : Int) (j : Int) ((nn - 1 : Nat) : Int) (by omega)) (by simp) (by kernel_rfl) (by kernel_rfl), hL, Fr.refl _⟩
  | succ d ih =>
    intro i j H hd hi hj hL
    rw [bs]
    by_cases hij : i < j
    · rw [if_pos hij]
      obtain ⟨hh, hle, hp⟩ := hb ((i + j) / 2) (by omega) (by omega)
      have hw := mid_i64 ((i + j) / 2) (by omega)
      have hw2 : IntKind.i64.wrap (((nn - 1 : Nat) : Int) - (((i + j) / 2 : Nat) : Int)) = ((nn - 1 - (i + j) / 2 : Nat) : Int) := by rw [wrapI64]; omega
      obtain ⟨c, H1, hcl, hlt, hK, hF⟩ := hc.call H (l.getD (nn - 1 - (i + j) / 2) 0) (l.getD ((i + j) / 2) 0) hL.ok (hL.dom_ (by omega)) (hL.dom_ (by omega))
      obtain ⟨N, hN⟩ := hcl.from
      have hL1 := hL.fr hc.one hK hF
      by_cases hq : f (l.getD ((i + j) / 2) 0) < f (l.getD (nn - 1 - (i + j) / 2) 0)
      · rw [if_neg (by simpa using hq)]
        have st := sy_t_0 N db n (a : Int) (m : Int) (b : Int) cp H (mid : Int) (nn : Int) (i : Int) (j : Int) ((nn - 1 : Nat) : Int) _ _ _ c H1 (by omega) (mid_shr i j (by omega) (by omega)) (by rw [hw, hw2]; exact gi_ hp) (by rw [hw, hw2]; exact hL.gl_ hl hp) (by rw [hw]; exact gi_ hh) (by rw [hw]; exact hL.gl_ hl hh) hN (hlt.2 hq)
        rw [hw] at st
        obtain ⟨j', H2, r2, h2, h3⟩ := ih i ((i + j) / 2) H1 (by omega) hi (by omega) hL1
        exact ⟨j', H2, RunsTo.loop st (by kernel_rfl) (gc_eq _ hF.len) r2 rfl (by kernel_rfl) (by kernel_rfl), h2, hF.trans h3⟩
      · rw [if_pos (by simpa using hq)]
        have st := sy_t_1 N db n (a : Int) (m : Int) (b : Int) cp H (mid : Int) (nn : Int) (i : Int) (j : Int) ((nn - 1 : Nat) : Int) _ _ _ c H1 (by omega) (mid_shr i j (by omega) (by omega)) (by rw [hw, hw2]; exact gi_ hp) (by rw [hw, hw2]; exact hL.gl_ hl hp) (by rw [hw]; exact gi_ hh) (by rw [hw]; exact hL.gl_ hl hh) hN (fun h => hq (hlt.1 h))
        rw [hw, wrap_succ (by omega)] at st
        obtain ⟨j', H2, r2, h2, h3⟩ := ih ((i + j) / 2 + 1) j H1 (by omega) (by omega) hj hL1
        exact ⟨j', H2, RunsTo.loop st (by kernel_rfl) (gc_eq _ hF.len) r2 rfl (by kernel_rfl) (by kernel_rfl), h2, hF.trans h3⟩
    · rw [if_neg hij]
      exact ⟨j, H, RunsTo.loop_out (sy_t_2 0 db n (a : Int) (m : Int) (b : Int) cp H (mid : Int) (nn : Int) (i : Int) (j : Int) ((nn - 1 : Nat) : Int) (by omega)) (by simp) (by kernel_rfl) (by kernel_rfl), hL, Fr.refl _⟩
end
section
variable {db : Nat} {cp : HV} {f : Int → Int} {dom : Int → Prop} {K : Heap → Prop}
theorem sy_up (hc : Cmp db cp f dom K) (n : Nat) (hn : n ≤ 1000) (a m b : Int) (i : Nat) (hi : 1 ≤ i ∧ i ≤ n) : ∀ (d k : Nat) (l : List Int) (H : Heap), k + d = i - 1 → l.length = n → Ls db K dom l H →
    ∃ H', RunsTo Try.prog polS 72 (sub [0, 1, 0, 1, 1, 1, 0, 1, 0] B72) (sE db n a m b cp (.int .i64 (i : Int)) .undef .undef (.int .i64 (k : Int)) .undef .undef .undef .undef .undef .undef .undef .undef .undef .undef .undef) H
      (.exit 2) (polS.keys 72) (sE db n a m b cp (.int .i64 (i : Int)) .undef .undef (.int .i64 ((i - 1 : Nat) : Int)) .undef .undef .undef .undef .undef .undef .undef .undef .undef .undef .undef) H' ∧ Ls db K dom (mvUp d k l) H' ∧ Fd db H H' := by
  have w0 : IntKind.i64.wrap ((i : Int) - 1) = ((i - 1 : Nat) : Int) := by rw [wrapI64]; omega
  intro d
  induction d with
  | zero =>
    intro k l H hk hl hL
    have hk : k = i - 1 := by omega
    subst hk
    exact ⟨H, RunsTo.loop_out (sy_f_1 0 db n a m b cp H (i : Int) ((i - 1 : Nat) : Int) (by rw [w0]; omega)) (by simp) (by kernel_rfl) (by kernel_rfl), hL, Fd.refl _ _⟩
  | succ d ih =>
    intro k l H hk hl hL
    have w1 : IntKind.i64.wrap ((k : Int) + 1) = ((k + 1 : Nat) : Int) := by rw [wrapI64]; omega
    obtain ⟨s1, s2, s3, s4⟩ := hL.swp_ hc (i := k) (j := k + 1) (by omega) (by omega)
    rw [hl] at s1 s2
    have st := sy_f_0 0 db n a m b cp H (i : Int) (k : Int) _ _ _ _ (by rw [w0]; omega) (by rw [w1]; exact gi_ (by omega)) (by rw [w1]; exact hL.gl_ hl (by omega)) (gi_ (by omega)) (hL.gl_ hl (by omega)) (gi_ (by omega)) (by rw [Int.toNat_natCast]; exact s1) (by rw [w1]; exact gi_ (by omega)) (by rw [w1, Int.toNat_natCast]; exact s2)
    rw [w1] at st
    obtain ⟨H', r2, h2, h3⟩ := ih (k + 1) (swp l k (k + 1)) _ (by omega) (by rw [swp_len]; exact hl) s3
    exact ⟨H', RunsTo.loop st (by kernel_rfl) (gc_eq _ s4.len) r2 rfl (by kernel_rfl) (by kernel_rfl), by rw [mvUp]; exact h2, s4.trans h3⟩
end
section
variable {db : Nat} {cp : HV} {f : Int → Int} {dom : Int → Prop} {K : Heap → Prop}
theorem sy_dn (hc : Cmp db cp f dom K) (n : Nat) (hn : n ≤ 1000) (a m b : Int) (i : Nat) : ∀ (d k : Nat) (l : List Int) (H : Heap), k = i + d → k < n → l.length = n → Ls db K dom l H →
    ∃ H', RunsTo Try.prog polS 72 (sub [1, 0, 1, 0, 1, 1, 1, 0, 1, 0] B72) (sE db n a m b cp .undef .undef .undef .undef (.int .i64 (i : Int)) .undef .undef (.int .i64 (k : Int)) .undef .undef .undef .undef .undef .undef .undef) H
      (.exit 6) (polS.keys 72) (sE db n a m b cp .undef .undef .undef .undef (.int .i64 (i : Int)) .undef .undef (.int .i64 (i : Int)) .undef .undef .undef .undef .undef .undef .undef) H' ∧ Ls db K dom (mvDn d k l) H' ∧ Fd db H H' := by
  intro d
  induction d with
  | zero =>
    intro k l H hk hkn hl hL
    have hk : k = i := by omega
    subst hk
    exact ⟨H, RunsTo.loop_out (sy_m_1 0 db n a m b cp H (k : Int) (k : Int) (by omega)) (by simp) (by kernel_rfl) (by kernel_rfl), hL, Fd.refl _ _⟩
  | succ d ih =>
    intro k l H hk hkn hl hL
    have w1 : IntKind.i64.wrap ((k : Int) - 1) = ((k - 1 : Nat) : Int) := by rw [wrapI64]; omega
    obtain ⟨s1, s2, s3, s4⟩ := hL.swp_ hc (i := k) (j := k - 1) (by omega) (by omega)
    rw [hl] at s1 s2
    have st := sy_m_0 0 db n a m b cp H (i : Int) (k : Int) _ _ _ _ (by omega) (by rw [w1]; exact gi_ (by omega)) (by rw [w1]; exact hL.gl_ hl (by omega)) (gi_ hkn) (hL.gl_ hl hkn) (gi_ hkn) (by rw [Int.toNat_natCast]; exact s1) (by rw [w1]; exact gi_ (by omega)) (by rw [w1, Int.toNat_natCast]; exact s2)
    rw [w1] at st
    obtain ⟨H', r2, h2, h3⟩ := ih (k - 1) (swp l k (k - 1)) _ (by omega) (by omega) (by rw [swp_len]; exact hl) s3
    exact ⟨H', RunsTo.loop st (by kernel_rfl) (gc_eq _ s4.len) r2 rfl (by kernel_rfl) (by kernel_rfl), by rw [mvDn]; exact h2, s4.trans h3⟩
end
end Go.Proofs.Ytmhfkhlamnapdaa
end
