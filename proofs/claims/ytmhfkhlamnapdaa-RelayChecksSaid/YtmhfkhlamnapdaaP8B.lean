/- A part of the proof. -/
import Derived.Test.YtmhfkhlamnapdaaP8A
set_option linter.unusedVariables false
set_option linter.unusedSimpArgs false
section
open Go Go.HL
namespace Go.Proofs.Ytmhfkhlamnapdaa
theorem info24n : (Try.prog.info? 24).map (fun i => (i.size, i.bytes, nilZero i)) = some (1, 24, true) := by kernel_rfl
theorem sls_init (n : Nat) : (List.range n).map (fun j => HV.sl (1 + 1 + j) 0 0 none 0 1) = slsF (List.replicate n []) := by
  apply List.ext_getElem?
  intro i
  rw [slsF_get, List.getElem?_map, List.getElem?_replicate]
  by_cases h : i < n
  · rw [List.getElem?_range h, if_pos h]; rfl
  · rw [List.getElem?_eq_none (by simp; omega), if_neg h]; rfl
theorem makeRows {n : Nat} (hn : n ≤ 1000) (B0 : Blk) : makeV Try.prog true 55 (.int .i64 (n : Int)) (.int .i64 (n : Int)) [B0] = some (.sl 1 0 n (some n) n 1, [B0] ++ [.arr 1 (slsF (List.replicate n [])) true (1 + 1 + n)] ++ List.replicate n (bNs [])) := by
  have hu : Try.prog.underlying 55 = some (.slice 24) := u55b
  have hi := info24n
  cases hi2 : Try.prog.info? 24 with
  | none => rw [hi2] at hi; cases hi
  | some i =>
    rw [hi2] at hi
    simp only [Option.map_some, Option.some.injEq, Prod.mk.injEq] at hi
    obtain ⟨h1, h2, h3⟩ := hi
    have hz : tySize Try.prog 3 = some 1 := z3b
    have hu2 : Try.prog.underlying 24 = some (.slice 3) := u24b
    simp only [makeV, hu, hi2, hu2, hz, h1, h2, h3, Int.toNat_natCast, List.length_singleton, sls_init]
    rw [if_pos ⟨by omega, by omega, by rw [show roomMax = 70368744177664 from rfl]; omega⟩, if_pos ⟨trivial, trivial⟩]
    rfl
theorem ts_init {n : Nat} (hn : n ≤ 1000) : ∃ H0 H1 H2 H3, makeV Try.prog true 55 (.int .i64 (n : Int)) (.int .i64 (n : Int)) [Blk.arr 2 [Zt] true 0] = some (.sl 1 0 n (some n) n 1, H0) ∧ some (HV.map H0.length, H0 ++ [Blk.map [] [] 0]) = some (HV.map (n + 2), H1) ∧ some (newV Zt H1) = some (HV.ptr (n + 3) 0 0 1, H2) ∧ storeV Try.prog H2 72 (.ptr (n + 3) 0 0 1) (trV n) = some H3 ∧ TS n (List.replicate n []) H3 := by
  have l0 : ([Blk.arr 2 [Zt] true 0] ++ [Blk.arr 1 (slsF (List.replicate n [])) true (1 + 1 + n)] ++ List.replicate n (bNs [])).length = n + 2 := by rw [List.length_append, List.length_append, List.length_replicate]; simp only [List.length_singleton]; omega
  generalize hH0 : [Blk.arr 2 [Zt] true 0] ++ [Blk.arr 1 (slsF (List.replicate n [])) true (1 + 1 + n)] ++ List.replicate n (bNs []) = H0 at l0
  have k0 : H0[0]? = some (Blk.arr 2 [Zt] true 0) := by rw [← hH0]; rfl
  have k1 : H0[1]? = some (Blk.arr 1 (slsF (List.replicate n [])) true (1 + 1 + n)) := by rw [← hH0]; rfl
  have kr : ∀ j, j < n → H0[2 + j]? = some (bNs []) := fun j hj => by
    rw [← hH0, List.getElem?_append_right (by simp)]
    simp only [List.length_append, List.length_singleton]
    rw [List.getElem?_replicate, if_pos (by omega)]
  have rf0 : sameH H0 H0 = true := by
    rw [sameH_iff, ← hH0]
    intro B hB
    simp only [List.mem_append, List.mem_singleton, List.mem_replicate] at hB
    rcases hB with (rfl | rfl) | ⟨_, rfl⟩
    · rfl
    · exact same_sls _ _ _
    · exact same_N []
  have lH1 : (H0 ++ [Blk.map [] [] 0]).length = n + 3 := by simp [l0]
  have hb : ((H0 ++ [Blk.map [] [] 0]) ++ [Blk.arr 2 [Zt] true 0])[n + 3]? = some (Blk.arr 2 [Zt] true 0) := by rw [List.getElem?_append_right (by omega), lH1]; simp
  have hst : storeV Try.prog ((H0 ++ [Blk.map [] [] 0]) ++ [Blk.arr 2 [Zt] true 0]) 72 (.ptr (n + 3) 0 0 1) (trV n) = some (((H0 ++ [Blk.map [] [] 0]) ++ [Blk.arr 2 [Zt] true 0]).set (n + 3) (Blk.arr 2 [trV n] true (max 0 (bnd (trV n))))) := by
    have hz := s72
    simp only [storeV, hb, cellsOf, hz, List.length_singleton, List.length_cons, List.length_nil]
    rw [if_pos ⟨trivial, trivial⟩]
    rfl
  refine ⟨_, _, _, _, by rw [makeRows hn, hH0], by rw [l0], by rw [newV, lH1]; rfl, hst, ?_⟩
  have gk : ∀ k, k < n + 3 → (((H0 ++ [Blk.map [] [] 0]) ++ [Blk.arr 2 [Zt] true 0]).set (n + 3) (Blk.arr 2 [trV n] true (max 0 (bnd (trV n)))))[k]? = (H0 ++ [Blk.map [] [] 0])[k]? := fun k hk => by
    rw [List.getElem?_set_ne (by omega), List.getElem?_append_left (by omega)]
  have gk2 : ∀ k, k < n + 2 → (((H0 ++ [Blk.map [] [] 0]) ++ [Blk.arr 2 [Zt] true 0]).set (n + 3) (Blk.arr 2 [trV n] true (max 0 (bnd (trV n)))))[k]? = H0[k]? := fun k hk => by
    rw [gk k (by omega), List.getElem?_append_left (by omega)]
  refine ⟨by simp [l0], by rw [gk2 0 (by omega)]; exact k0, ⟨_, by rw [gk2 1 (by omega)]; exact k1⟩, fun j r hj => ?_, by rw [gk _ (by omega), List.getElem?_append_right (by omega), l0]; simp, ⟨_, by rw [List.getElem?_set_self (by simp [l0])]⟩, by simp, ?_⟩
  · rw [List.getElem?_replicate] at hj
    split at hj
    · rename_i h
      cases hj
      rw [gk2 _ (by omega)]; exact kr j h
    · cases hj
  · refine sameH_set (sameH_app (sameH_app rf0 rfl) rfl) ?_
    simp [sameH, sameL, same]
/-- What the tree is to a caller. -/
def rowO (r : List Nat) : HV := .imm .own 1 (r.map encN)
def treeV (adj : List (List Nat)) : HV := .agg [.own 1 (adj.map rowO), .omap [] []]
theorem toArg_nats (H : Heap) (d : Nat) : ∀ (q : List Nat), mapO (toArg H (d + 1)) (q.map encN) = some (q.map encN)
  | [] => rfl
  | a :: q => by
    have e : toArg H (d + 1) (encN a) = some (encN a) := rfl
    simp only [List.map_cons, mapO, e, toArg_nats H d q]
theorem toArg_row {n : Nat} {adj : List (List Nat)} {H : Heap} (h : TS n adj H) {j : Nat} {r : List Nat} (hj : adj[j]? = some r) (d : Nat) : toArg H (d + 2) (slOf j r) = some (encR r) := by
  have e : toArg H (d + 2) (slOf j r) = if r.length = 0 then some (.imm .arg 1 []) else match view H (2 + j) 0 r.length r.length 1 with | some l => (match mapO (toArg H (d + 1)) l with | some l => some (.imm .arg 1 l) | none => none) | none => none := rfl
  rw [e]
  split
  · rename_i h0
    rw [List.length_eq_zero_iff.1 h0]; rfl
  · have hv : view H (2 + j) 0 r.length r.length 1 = some (r.map encN) := by
      simp only [view, h.rows j r hj, List.length_map]
      rw [if_pos ⟨trivial, by omega, trivial⟩]
      simp [List.take_of_length_le]
    rw [hv]
    simp only [toArg_nats]
    rfl
theorem mapO_all {f : HV → Option HV} {g : List Nat → HV} : ∀ {l : List HV} {adj : List (List Nat)}, l.length = adj.length → (∀ (j : Nat) v r, l[j]? = some v → adj[j]? = some r → f v = some (g r)) → mapO f l = some (adj.map g)
  | [], [], _, _ => rfl
  | v :: l, r :: adj, hl, h => by
    have h0 := h 0 v r rfl rfl
    have ih := mapO_all (f := f) (g := g) (l := l) (adj := adj) (by simpa using hl) (fun j v r hv hr => h (j + 1) v r hv hr)
    simp only [mapO, h0, ih, List.map_cons]
structure TR (n : Nat) (adj : List (List Nat)) (H : Heap) : Prop where
  near : ∃ mx, H[1]? = some (.arr 1 (slsF adj) true mx)
  rows : ∀ j r, adj[j]? = some r → H[2 + j]? = some (bNs r)
  mp : H[n + 2]? = some (.map [] [] 0)
  al : adj.length = n
theorem TS.tr' {n : Nat} {adj : List (List Nat)} {H : Heap} (h : TS n adj H) : TR n adj H := ⟨h.near, h.rows, h.mp, h.al⟩
theorem TR.set0 {n : Nat} {adj : List (List Nat)} {H : Heap} (h : TR n adj H) (B : Blk) : TR n adj (H.set 0 B) := by
  obtain ⟨mx, h1⟩ := h.near
  exact ⟨⟨mx, by rw [List.getElem?_set_ne (by omega)]; exact h1⟩, fun j r hj => by rw [List.getElem?_set_ne (by omega)]; exact h.rows j r hj, by rw [List.getElem?_set_ne (by omega)]; exact h.mp, h.al⟩
theorem view_near {n : Nat} {adj : List (List Nat)} {H : Heap} (h : TR n adj H) : view H 1 0 n n 1 = some (slsF adj) := by
  obtain ⟨mx, h1⟩ := h.near
  simp only [view, h1, slsF_len, h.al]
  rw [if_pos ⟨trivial, by omega, trivial⟩, List.drop_zero, List.take_of_length_le (by rw [slsF_len, h.al]; omega)]
theorem toArg_tree {n : Nat} (h0 : 0 < n) {adj : List (List Nat)} {H : Heap} (h : TS n adj H) : toArg H 6 (trV n) = some (.agg [.imm .arg 1 (adj.map encR), .imap .arg [] []]) := by
  have e : toArg H 6 (trV n) = match mapO (toArg H 5) [.sl 1 0 n (some n) n 1, .map (n + 2)] with | some l => some (.agg l) | none => none := rfl
  have e1 : toArg H 5 (.sl 1 0 n (some n) n 1) = some (.imm .arg 1 (adj.map encR)) := by
    have e : toArg H 5 (.sl 1 0 n (some n) n 1) = if n = 0 then some (.imm .arg 1 []) else match view H 1 0 n n 1 with | some l => (match mapO (toArg H 4) l with | some l => some (.imm .arg 1 l) | none => none) | none => none := rfl
    rw [e, if_neg (by omega), view_near h.tr']
    have := mapO_all (f := toArg H 4) (g := encR) (l := slsF adj) (adj := adj) (slsF_len adj) (fun j v r hv hr => by
      rw [slsF_get, hr] at hv
      cases hv
      exact toArg_row h hr 2)
    simp only [this]
  have e2 : toArg H 5 (.map (n + 2)) = some (.imap .arg [] []) := by
    have e : toArg H 5 (.map (n + 2)) = match H[n + 2]? with | some (.map ks vs _) => (match mapO (toArg H 4) ks, mapO (toArg H 4) vs with | some ks, some vs => some (.imap .arg ks vs) | _, _ => none) | _ => none := rfl
    rw [e, h.mp]; rfl
  rw [e]
  simp only [mapO, e1, e2]
theorem toRes_tree {n : Nat} (h0 : 0 < n) {adj : List (List Nat)} {H : Heap} (h : TR n adj H) (b : Bool) : toRes H false (.tuple [trV n, .bool b]) = some (.tuple [treeV adj, .bool b]) := by
  obtain ⟨mx, h1⟩ := h.near
  have ho : ownedAll H false (.tuple [trV n, .bool b]) = [1, n + 2] := by
    simp only [ownedAll, List.flatMap_cons, List.flatMap_nil, cellsOf, owned, h1, h.mp]
    rfl
  have hr : resCell H [1, n + 2] false (.sl 1 0 n (some n) n 1) = some (.own 1 (adj.map rowO)) := by
    simp only [resCell, h1, if_true, view_near h]
    have := mapO_all (f := resElem H [1, n + 2] false) (g := rowO) (l := slsF adj) (adj := adj) (slsF_len adj) (fun j v r hv hr => by
      rw [slsF_get, hr] at hv
      cases hv
      have hjn : j < n := by have := lt_of_get hr; rw [h.al] at this; exact this
      have e : resElem H [1, n + 2] false (slOf j r) = if r.length = 0 then some (.imm .own 1 []) else if [1, n + 2].contains (2 + j) then none else match view H (2 + j) 0 r.length r.length 1 with | some l => (match mapO (frz H [1, n + 2] 3) l with | some l => some (.imm .own 1 l) | none => none) | none => none := rfl
      rw [e]
      split
      · rename_i h0
        rw [List.length_eq_zero_iff.1 h0]; rfl
      · have hc : [1, n + 2].contains (2 + j) = false := by simp; omega
        have hv : view H (2 + j) 0 r.length r.length 1 = some (r.map encN) := by
          simp only [view, h.rows j r hr, List.length_map]
          rw [if_pos ⟨trivial, by omega, trivial⟩]
          simp [List.take_of_length_le]
        rw [if_neg (by rw [hc]; simp), hv]
        have hf : mapO (frz H [1, n + 2] 3) (r.map encN) = some (r.map encN) := mapO_self (f := frz H [1, n + 2] 3) (g := encN) (fun k => frz_int 3 (k : Int)) r
        simp only [hf]
        rfl)
    simp only [this]
  have hm : resCell H [1, n + 2] false (.map (n + 2)) = some (.omap [] []) := by
    simp only [resCell, h.mp]; rfl
  have hnd : ([1, n + 2] : List Nat).Nodup := by simp
  simp only [toRes, ho, hnd, if_true]
  have e1 : resVal H [1, n + 2] false (trV n) = some (treeV adj) := by
    simp only [resVal, mapO, hr, hm]; rfl
  have e2 : resVal H [1, n + 2] false (.bool b) = some (.bool b) := rfl
  simp only [mapO, e1, e2]
end Go.Proofs.Ytmhfkhlamnapdaa
end
section
open Go Go.HL
namespace Go.Proofs.Ytmhfkhlamnapdaa
set_option maxRecDepth 100000
noncomputable def B18 : Code := Try.f18.body.getD .skip
abbrev env18 (v0 v1 v4 v5 v6 v7 v8 v9 : HV) : Env := [(0, v0), (1, v1), (4, v4), (5, v5), (6, v6), (7, v7), (8, v8), (9, v9)]
theorem tr_a_0 (n : Int) (lc : List HV)   : RunsTo Try.prog polO 18 (sub [0] B18) [(0, .int .i64 n), (1, .imm .arg 2 lc)] [] (.normal) (polO.keys 18) (env18 (.int .i64 n) (.imm .arg 2 lc) (.bool false) .undef .undef .undef .undef .undef) [] :=
  RunsTo.hint 1 60 [] fun kf hk => by
    obtain ⟨kf, rfl⟩ : ∃ n, kf = n + 1 := ⟨kf - 1, by omega⟩
    exact ⟨[], by kernel_rfl, Obls.nil⟩
theorem tr_b_0 (n : Int) (lc : List HV)  (g0 : n < 1) : RunsTo Try.prog polO 18 (sub [1, 0] B18) (env18 (.int .i64 n) (.imm .arg 2 lc) (.bool false) .undef .undef .undef .undef .undef) [] (.ret) (polO.keys 18) (env18 (.int .i64 n) (.imm .arg 2 lc) (.bool false) .undef .undef .undef .undef .undef) [] :=
  RunsTo.hint 1 60 [⟨1, 1, .bool true, []⟩] fun kf hk => by
    obtain ⟨kf, rfl⟩ : ∃ n, kf = n + 1 := ⟨kf - 1, by omega⟩
    exact ⟨[some (HV.bool (decide (n < 1)), ([] : Heap)) = some (.bool true, [])], by kernel_rfl, Obls.cons (hintB (decide_eq_true g0)) Obls.nil⟩
theorem tr_b_1 (n : Int) (lc : List HV)  (g0 : ¬ (n < 1)) (g1 : 30 < n) : RunsTo Try.prog polO 18 (sub [1, 0] B18) (env18 (.int .i64 n) (.imm .arg 2 lc) (.bool false) .undef .undef .undef .undef .undef) [] (.ret) (polO.keys 18) (env18 (.int .i64 n) (.imm .arg 2 lc) (.bool false) .undef .undef .undef .undef .undef) [] :=
  RunsTo.hint 1 60 [⟨1, 1, .bool false, []⟩, ⟨1, 4, .bool true, []⟩] fun kf hk => by
    obtain ⟨kf, rfl⟩ : ∃ n, kf = n + 1 := ⟨kf - 1, by omega⟩
    exact ⟨[some (HV.bool (decide (n < 1)), ([] : Heap)) = some (.bool false, []), some (HV.bool (decide (30 < n)), ([] : Heap)) = some (.bool true, [])], by kernel_rfl, Obls.cons (hintB (decide_eq_false g0)) (Obls.cons (hintB (decide_eq_true g1)) Obls.nil)⟩
theorem tr_b_2 (n : Int) (lc : List HV)  (g0 : ¬ (n < 1)) (g1 : ¬ (30 < n)) (g2 : (lc.length : Int) = IntKind.i64.wrap (n - 1)) : RunsTo Try.prog polO 18 (sub [1, 0] B18) (env18 (.int .i64 n) (.imm .arg 2 lc) (.bool false) .undef .undef .undef .undef .undef) [] (.normal) (polO.keys 18) (env18 (.int .i64 n) (.imm .arg 2 lc) (.bool false) .undef .undef .undef .undef .undef) [] :=
  RunsTo.hint 1 60 [⟨1, 1, .bool false, []⟩, ⟨1, 4, .bool false, []⟩, ⟨1, 11, .bool false, []⟩] fun kf hk => by
    obtain ⟨kf, rfl⟩ : ∃ n, kf = n + 1 := ⟨kf - 1, by omega⟩
    exact ⟨[some (HV.bool (decide (n < 1)), ([] : Heap)) = some (.bool false, []), some (HV.bool (decide (30 < n)), ([] : Heap)) = some (.bool false, []), some (HV.bool (!decide ((lc.length : Int) = IntKind.i64.wrap (n - 1))), ([] : Heap)) = some (.bool false, [])], by kernel_rfl, Obls.cons (hintB (decide_eq_false g0)) (Obls.cons (hintB (decide_eq_false g1)) (Obls.cons (hintB (congrArg not (decide_eq_true g2))) Obls.nil))⟩
theorem tr_b_3 (n : Int) (lc : List HV)  (g0 : ¬ (n < 1)) (g1 : ¬ (30 < n)) (g2 : ¬ ((lc.length : Int) = IntKind.i64.wrap (n - 1))) : RunsTo Try.prog polO 18 (sub [1, 0] B18) (env18 (.int .i64 n) (.imm .arg 2 lc) (.bool false) .undef .undef .undef .undef .undef) [] (.ret) (polO.keys 18) (env18 (.int .i64 n) (.imm .arg 2 lc) (.bool false) .undef .undef .undef .undef .undef) [] :=
  RunsTo.hint 1 60 [⟨1, 1, .bool false, []⟩, ⟨1, 4, .bool false, []⟩, ⟨1, 11, .bool true, []⟩] fun kf hk => by
    obtain ⟨kf, rfl⟩ : ∃ n, kf = n + 1 := ⟨kf - 1, by omega⟩
    exact ⟨[some (HV.bool (decide (n < 1)), ([] : Heap)) = some (.bool false, []), some (HV.bool (decide (30 < n)), ([] : Heap)) = some (.bool false, []), some (HV.bool (!decide ((lc.length : Int) = IntKind.i64.wrap (n - 1))), ([] : Heap)) = some (.bool true, [])], by kernel_rfl, Obls.cons (hintB (decide_eq_false g0)) (Obls.cons (hintB (decide_eq_false g1)) (Obls.cons (hintB (congrArg not (decide_eq_false g2))) Obls.nil))⟩
theorem tr_c_0 (n : Int) (lc : List HV)   : RunsTo Try.prog polO 18 (sub [1, 1, 0, 0] B18) (env18 (.int .i64 n) (.imm .arg 2 lc) (.bool false) .undef .undef .undef .undef .undef) [] (.normal) (polO.keys 18) (env18 (.int .i64 n) (.imm .arg 2 lc) (.bool false) (.int .i64 0) .undef .undef .undef .undef) [] :=
  RunsTo.hint 1 60 [] fun kf hk => by
    obtain ⟨kf, rfl⟩ : ∃ n, kf = n + 1 := ⟨kf - 1, by omega⟩
    exact ⟨[], by kernel_rfl, Obls.nil⟩
theorem tr_l_0 (n : Int) (lc : List HV) (j : Nat) (x0 : Int) (x1 : Int) (x2 : Int) (x3 : Int) (g0 : (j : Int) < (lc.length : Int)) (g1 : idxV Try.prog 22 (.imm .arg 2 lc) (.int .i64 (j : Int)) = some (.vptr (.agg [.int .i64 x0, .int .i64 x1]))) (g2 : idxV Try.prog 22 (.imm .arg 2 lc) (.int .i64 (j : Int)) = some (.vptr (.agg [.int .i64 x2, .int .i64 x3]))) (g3 : x0 < 0) : RunsTo Try.prog polO 18 (sub [1, 1, 0, 1, 0, 0] B18) (env18 (.int .i64 n) (.imm .arg 2 lc) (.bool false) (.int .i64 (j : Int)) .undef .undef .undef .undef) [] (.ret) (polO.keys 18) (env18 (.int .i64 n) (.imm .arg 2 lc) (.bool false) (.int .i64 (j : Int)) (.int .i64 x0) (.int .i64 x3) .undef .undef) [] :=
  RunsTo.hint 1 60 [⟨4, 3, .bool true, []⟩, ⟨6, 2, .vptr (.agg [.int .i64 x0, .int .i64 x1]), []⟩, ⟨6, 7, .vptr (.agg [.int .i64 x2, .int .i64 x3]), []⟩, ⟨7, 1, .bool true, []⟩] fun kf hk => by
    obtain ⟨kf, rfl⟩ : ∃ n, kf = n + 1 := ⟨kf - 1, by omega⟩
    exact ⟨[some (HV.bool (decide ((j : Int) < (lc.length : Int))), ([] : Heap)) = some (.bool true, []), (idxV Try.prog 22 (.imm .arg 2 lc) (.int .i64 (j : Int))).map (fun v => (v, ([] : Heap))) = some (.vptr (.agg [.int .i64 x0, .int .i64 x1]), []), (idxV Try.prog 22 (.imm .arg 2 lc) (.int .i64 (j : Int))).map (fun v => (v, ([] : Heap))) = some (.vptr (.agg [.int .i64 x2, .int .i64 x3]), []), some (HV.bool (decide (x0 < 0)), ([] : Heap)) = some (.bool true, [])], by kernel_rfl, Obls.cons (hintB (decide_eq_true g0)) (Obls.cons (hintOp g1) (Obls.cons (hintOp g2) (Obls.cons (hintB (decide_eq_true g3)) Obls.nil)))⟩
theorem tr_l_1 (n : Int) (lc : List HV) (j : Nat) (x0 : Int) (x1 : Int) (x2 : Int) (x3 : Int) (g0 : (j : Int) < (lc.length : Int)) (g1 : idxV Try.prog 22 (.imm .arg 2 lc) (.int .i64 (j : Int)) = some (.vptr (.agg [.int .i64 x0, .int .i64 x1]))) (g2 : idxV Try.prog 22 (.imm .arg 2 lc) (.int .i64 (j : Int)) = some (.vptr (.agg [.int .i64 x2, .int .i64 x3]))) (g3 : ¬ (x0 < 0)) (g4 : n ≤ x0) : RunsTo Try.prog polO 18 (sub [1, 1, 0, 1, 0, 0] B18) (env18 (.int .i64 n) (.imm .arg 2 lc) (.bool false) (.int .i64 (j : Int)) .undef .undef .undef .undef) [] (.ret) (polO.keys 18) (env18 (.int .i64 n) (.imm .arg 2 lc) (.bool false) (.int .i64 (j : Int)) (.int .i64 x0) (.int .i64 x3) .undef .undef) [] :=
  RunsTo.hint 1 60 [⟨4, 3, .bool true, []⟩, ⟨6, 2, .vptr (.agg [.int .i64 x0, .int .i64 x1]), []⟩, ⟨6, 7, .vptr (.agg [.int .i64 x2, .int .i64 x3]), []⟩, ⟨7, 1, .bool false, []⟩, ⟨7, 5, .bool true, []⟩] fun kf hk => by
    obtain ⟨kf, rfl⟩ : ∃ n, kf = n + 1 := ⟨kf - 1, by omega⟩
    exact ⟨[some (HV.bool (decide ((j : Int) < (lc.length : Int))), ([] : Heap)) = some (.bool true, []), (idxV Try.prog 22 (.imm .arg 2 lc) (.int .i64 (j : Int))).map (fun v => (v, ([] : Heap))) = some (.vptr (.agg [.int .i64 x0, .int .i64 x1]), []), (idxV Try.prog 22 (.imm .arg 2 lc) (.int .i64 (j : Int))).map (fun v => (v, ([] : Heap))) = some (.vptr (.agg [.int .i64 x2, .int .i64 x3]), []), some (HV.bool (decide (x0 < 0)), ([] : Heap)) = some (.bool false, []), some (HV.bool (decide (n ≤ x0)), ([] : Heap)) = some (.bool true, [])], by kernel_rfl, Obls.cons (hintB (decide_eq_true g0)) (Obls.cons (hintOp g1) (Obls.cons (hintOp g2) (Obls.cons (hintB (decide_eq_false g3)) (Obls.cons (hintB (decide_eq_true g4)) Obls.nil))))⟩
theorem tr_l_2 (n : Int) (lc : List HV) (j : Nat) (x0 : Int) (x1 : Int) (x2 : Int) (x3 : Int) (g0 : (j : Int) < (lc.length : Int)) (g1 : idxV Try.prog 22 (.imm .arg 2 lc) (.int .i64 (j : Int)) = some (.vptr (.agg [.int .i64 x0, .int .i64 x1]))) (g2 : idxV Try.prog 22 (.imm .arg 2 lc) (.int .i64 (j : Int)) = some (.vptr (.agg [.int .i64 x2, .int .i64 x3]))) (g3 : ¬ (x0 < 0)) (g4 : ¬ (n ≤ x0)) (g5 : x3 < 0) : RunsTo Try.prog polO 18 (sub [1, 1, 0, 1, 0, 0] B18) (env18 (.int .i64 n) (.imm .arg 2 lc) (.bool false) (.int .i64 (j : Int)) .undef .undef .undef .undef) [] (.ret) (polO.keys 18) (env18 (.int .i64 n) (.imm .arg 2 lc) (.bool false) (.int .i64 (j : Int)) (.int .i64 x0) (.int .i64 x3) .undef .undef) [] :=
  RunsTo.hint 1 60 [⟨4, 3, .bool true, []⟩, ⟨6, 2, .vptr (.agg [.int .i64 x0, .int .i64 x1]), []⟩, ⟨6, 7, .vptr (.agg [.int .i64 x2, .int .i64 x3]), []⟩, ⟨7, 1, .bool false, []⟩, ⟨7, 5, .bool false, []⟩, ⟨7, 9, .bool true, []⟩] fun kf hk => by
    obtain ⟨kf, rfl⟩ : ∃ n, kf = n + 1 := ⟨kf - 1, by omega⟩
    exact ⟨[some (HV.bool (decide ((j : Int) < (lc.length : Int))), ([] : Heap)) = some (.bool true, []), (idxV Try.prog 22 (.imm .arg 2 lc) (.int .i64 (j : Int))).map (fun v => (v, ([] : Heap))) = some (.vptr (.agg [.int .i64 x0, .int .i64 x1]), []), (idxV Try.prog 22 (.imm .arg 2 lc) (.int .i64 (j : Int))).map (fun v => (v, ([] : Heap))) = some (.vptr (.agg [.int .i64 x2, .int .i64 x3]), []), some (HV.bool (decide (x0 < 0)), ([] : Heap)) = some (.bool false, []), some (HV.bool (decide (n ≤ x0)), ([] : Heap)) = some (.bool false, []), some (HV.bool (decide (x3 < 0)), ([] : Heap)) = some (.bool true, [])], by kernel_rfl, Obls.cons (hintB (decide_eq_true g0)) (Obls.cons (hintOp g1) (Obls.cons (hintOp g2) (Obls.cons (hintB (decide_eq_false g3)) (Obls.cons (hintB (decide_eq_false g4)) (Obls.cons (hintB (decide_eq_true g5)) Obls.nil)))))⟩
theorem tr_l_3 (n : Int) (lc : List HV) (j : Nat) (x0 : Int) (x1 : Int) (x2 : Int) (x3 : Int) (g0 : (j : Int) < (lc.length : Int)) (g1 : idxV Try.prog 22 (.imm .arg 2 lc) (.int .i64 (j : Int)) = some (.vptr (.agg [.int .i64 x0, .int .i64 x1]))) (g2 : idxV Try.prog 22 (.imm .arg 2 lc) (.int .i64 (j : Int)) = some (.vptr (.agg [.int .i64 x2, .int .i64 x3]))) (g3 : ¬ (x0 < 0)) (g4 : ¬ (n ≤ x0)) (g5 : ¬ (x3 < 0)) (g6 : n ≤ x3) : RunsTo Try.prog polO 18 (sub [1, 1, 0, 1, 0, 0] B18) (env18 (.int .i64 n) (.imm .arg 2 lc) (.bool false) (.int .i64 (j : Int)) .undef .undef .undef .undef) [] (.ret) (polO.keys 18) (env18 (.int .i64 n) (.imm .arg 2 lc) (.bool false) (.int .i64 (j : Int)) (.int .i64 x0) (.int .i64 x3) .undef .undef) [] :=
  RunsTo.hint 1 60 [⟨4, 3, .bool true, []⟩, ⟨6, 2, .vptr (.agg [.int .i64 x0, .int .i64 x1]), []⟩, ⟨6, 7, .vptr (.agg [.int .i64 x2, .int .i64 x3]), []⟩, ⟨7, 1, .bool false, []⟩, ⟨7, 5, .bool false, []⟩, ⟨7, 9, .bool false, []⟩, ⟨7, 14, .bool true, []⟩] fun kf hk => by
    obtain ⟨kf, rfl⟩ : ∃ n, kf = n + 1 := ⟨kf - 1, by omega⟩
    exact ⟨[some (HV.bool (decide ((j : Int) < (lc.length : Int))), ([] : Heap)) = some (.bool true, []), (idxV Try.prog 22 (.imm .arg 2 lc) (.int .i64 (j : Int))).map (fun v => (v, ([] : Heap))) = some (.vptr (.agg [.int .i64 x0, .int .i64 x1]), []), (idxV Try.prog 22 (.imm .arg 2 lc) (.int .i64 (j : Int))).map (fun v => (v, ([] : Heap))) = some (.vptr (.agg [.int .i64 x2, .int .i64 x3]), []), some (HV.bool (decide (x0 < 0)), ([] : Heap)) = some (.bool false, []), some (HV.bool (decide (n ≤ x0)), ([] : Heap)) = some (.bool false, []), some (HV.bool (decide (x3 < 0)), ([] : Heap)) = some (.bool false, []), some (HV.bool (decide (n ≤ x3)), ([] : Heap)) = some (.bool true, [])], by kernel_rfl, Obls.cons (hintB (decide_eq_true g0)) (Obls.cons (hintOp g1) (Obls.cons (hintOp g2) (Obls.cons (hintB (decide_eq_false g3)) (Obls.cons (hintB (decide_eq_false g4)) (Obls.cons (hintB (decide_eq_false g5)) (Obls.cons (hintB (decide_eq_true g6)) Obls.nil))))))⟩
theorem tr_l_4 (n : Int) (lc : List HV) (j : Nat) (x0 : Int) (x1 : Int) (x2 : Int) (x3 : Int) (g0 : (j : Int) < (lc.length : Int)) (g1 : idxV Try.prog 22 (.imm .arg 2 lc) (.int .i64 (j : Int)) = some (.vptr (.agg [.int .i64 x0, .int .i64 x1]))) (g2 : idxV Try.prog 22 (.imm .arg 2 lc) (.int .i64 (j : Int)) = some (.vptr (.agg [.int .i64 x2, .int .i64 x3]))) (g3 : ¬ (x0 < 0)) (g4 : ¬ (n ≤ x0)) (g5 : ¬ (x3 < 0)) (g6 : ¬ (n ≤ x3)) (g7 : x0 = x3) : RunsTo Try.prog polO 18 (sub [1, 1, 0, 1, 0, 0] B18) (env18 (.int .i64 n) (.imm .arg 2 lc) (.bool false) (.int .i64 (j : Int)) .undef .undef .undef .undef) [] (.ret) (polO.keys 18) (env18 (.int .i64 n) (.imm .arg 2 lc) (.bool false) (.int .i64 (j : Int)) (.int .i64 x0) (.int .i64 x3) .undef .undef) [] :=
  RunsTo.hint 1 60 [⟨4, 3, .bool true, []⟩, ⟨6, 2, .vptr (.agg [.int .i64 x0, .int .i64 x1]), []⟩, ⟨6, 7, .vptr (.agg [.int .i64 x2, .int .i64 x3]), []⟩, ⟨7, 1, .bool false, []⟩, ⟨7, 5, .bool false, []⟩, ⟨7, 9, .bool false, []⟩, ⟨7, 14, .bool false, []⟩, ⟨7, 19, .bool true, []⟩] fun kf hk => by
    obtain ⟨kf, rfl⟩ : ∃ n, kf = n + 1 := ⟨kf - 1, by omega⟩
    exact ⟨[some (HV.bool (decide ((j : Int) < (lc.length : Int))), ([] : Heap)) = some (.bool true, []), (idxV Try.prog 22 (.imm .arg 2 lc) (.int .i64 (j : Int))).map (fun v => (v, ([] : Heap))) = some (.vptr (.agg [.int .i64 x0, .int .i64 x1]), []), (idxV Try.prog 22 (.imm .arg 2 lc) (.int .i64 (j : Int))).map (fun v => (v, ([] : Heap))) = some (.vptr (.agg [.int .i64 x2, .int .i64 x3]), []), some (HV.bool (decide (x0 < 0)), ([] : Heap)) = some (.bool false, []), some (HV.bool (decide (n ≤ x0)), ([] : Heap)) = some (.bool false, []), some (HV.bool (decide (x3 < 0)), ([] : Heap)) = some (.bool false, []), some (HV.bool (decide (n ≤ x3)), ([] : Heap)) = some (.bool false, []), some (HV.bool (decide (x0 = x3)), ([] : Heap)) = some (.bool true, [])], by kernel_rfl, Obls.cons (hintB (decide_eq_true g0)) (Obls.cons (hintOp g1) (Obls.cons (hintOp g2) (Obls.cons (hintB (decide_eq_false g3)) (Obls.cons (hintB (decide_eq_false g4)) (Obls.cons (hintB (decide_eq_false g5)) (Obls.cons (hintB (decide_eq_false g6)) (Obls.cons (hintB (decide_eq_true g7)) Obls.nil)))))))⟩
theorem tr_l_5 (n : Int) (lc : List HV) (j : Nat) (x0 : Int) (x1 : Int) (x2 : Int) (x3 : Int) (g0 : (j : Int) < (lc.length : Int)) (g1 : idxV Try.prog 22 (.imm .arg 2 lc) (.int .i64 (j : Int)) = some (.vptr (.agg [.int .i64 x0, .int .i64 x1]))) (g2 : idxV Try.prog 22 (.imm .arg 2 lc) (.int .i64 (j : Int)) = some (.vptr (.agg [.int .i64 x2, .int .i64 x3]))) (g3 : ¬ (x0 < 0)) (g4 : ¬ (n ≤ x0)) (g5 : ¬ (x3 < 0)) (g6 : ¬ (n ≤ x3)) (g7 : ¬ (x0 = x3)) : RunsTo Try.prog polO 18 (sub [1, 1, 0, 1, 0, 0] B18) (env18 (.int .i64 n) (.imm .arg 2 lc) (.bool false) (.int .i64 (j : Int)) .undef .undef .undef .undef) [] (.normal) (polO.keys 18) (env18 (.int .i64 n) (.imm .arg 2 lc) (.bool false) (.int .i64 (IntKind.i64.wrap ((j : Int) + 1))) (.int .i64 x0) (.int .i64 x3) .undef .undef) [] :=
  RunsTo.hint 1 60 [⟨4, 3, .bool true, []⟩, ⟨6, 2, .vptr (.agg [.int .i64 x0, .int .i64 x1]), []⟩, ⟨6, 7, .vptr (.agg [.int .i64 x2, .int .i64 x3]), []⟩, ⟨7, 1, .bool false, []⟩, ⟨7, 5, .bool false, []⟩, ⟨7, 9, .bool false, []⟩, ⟨7, 14, .bool false, []⟩, ⟨7, 19, .bool false, []⟩] fun kf hk => by
    obtain ⟨kf, rfl⟩ : ∃ n, kf = n + 1 := ⟨kf - 1, by omega⟩
    exact ⟨[some (HV.bool (decide ((j : Int) < (lc.length : Int))), ([] : Heap)) = some (.bool true, []), (idxV Try.prog 22 (.imm .arg 2 lc) (.int .i64 (j : Int))).map (fun v => (v, ([] : Heap))) = some (.vptr (.agg [.int .i64 x0, .int .i64 x1]), []), (idxV Try.prog 22 (.imm .arg 2 lc) (.int .i64 (j : Int))).map (fun v => (v, ([] : Heap))) = some (.vptr (.agg [.int .i64 x2, .int .i64 x3]), []), some (HV.bool (decide (x0 < 0)), ([] : Heap)) = some (.bool false, []), some (HV.bool (decide (n ≤ x0)), ([] : Heap)) = some (.bool false, []), some (HV.bool (decide (x3 < 0)), ([] : Heap)) = some (.bool false, []), some (HV.bool (decide (n ≤ x3)), ([] : Heap)) = some (.bool false, []), some (HV.bool (decide (x0 = x3)), ([] : Heap)) = some (.bool false, [])], by kernel_rfl, Obls.cons (hintB (decide_eq_true g0)) (Obls.cons (hintOp g1) (Obls.cons (hintOp g2) (Obls.cons (hintB (decide_eq_false g3)) (Obls.cons (hintB (decide_eq_false g4)) (Obls.cons (hintB (decide_eq_false g5)) (Obls.cons (hintB (decide_eq_false g6)) (Obls.cons (hintB (decide_eq_false g7)) Obls.nil)))))))⟩
theorem tr_l_6 (n : Int) (lc : List HV) (j : Nat)  (g0 : ¬ ((j : Int) < (lc.length : Int))) : RunsTo Try.prog polO 18 (sub [1, 1, 0, 1, 0, 0] B18) (env18 (.int .i64 n) (.imm .arg 2 lc) (.bool false) (.int .i64 (j : Int)) .undef .undef .undef .undef) [] (.exit 0) (polO.keys 18) (env18 (.int .i64 n) (.imm .arg 2 lc) (.bool false) (.int .i64 (j : Int)) .undef .undef .undef .undef) [] :=
  RunsTo.hint 1 60 [⟨4, 3, .bool false, []⟩] fun kf hk => by
    obtain ⟨kf, rfl⟩ : ∃ n, kf = n + 1 := ⟨kf - 1, by omega⟩
    exact ⟨[some (HV.bool (decide ((j : Int) < (lc.length : Int))), ([] : Heap)) = some (.bool false, [])], by kernel_rfl, Obls.cons (hintB (decide_eq_false g0)) Obls.nil⟩
theorem tr_d_0 (n : Int) (lc : List HV) (j : Nat) (m : Nat) (els : List HV) (g0 : ∀ kf, callN Try.prog polO (kf + 1) 41 [.int .i64 n, .imm .arg 2 lc, .int .i64 0] [] = some (.sl 0 0 m none m 1, [.arr 1 els true 0])) : RunsTo Try.prog polO 18 (sub [1, 1, 1, 0] B18) (env18 (.int .i64 n) (.imm .arg 2 lc) (.bool false) (.int .i64 (j : Int)) .undef .undef .undef .undef) [] (.normal) (polO.keys 18) (env18 (.int .i64 n) (.imm .arg 2 lc) (.bool false) (.int .i64 (j : Int)) .undef .undef (.sl 0 0 m none m 1) .undef) [.arr 1 els true 0] :=
  RunsTo.hint 1 60 [⟨9, 2, .sl 0 0 m none m 1, [.arr 1 els true 0]⟩] fun kf hk => by
    obtain ⟨kf, rfl⟩ : ∃ n, kf = n + 1 := ⟨kf - 1, by omega⟩
    exact ⟨[callN Try.prog polO (kf + 1) 41 [.int .i64 n, .imm .arg 2 lc, .int .i64 0] [] = some (.sl 0 0 m none m 1, [.arr 1 els true 0])], by kernel_rfl, Obls.cons (g0 kf) Obls.nil⟩
theorem tr_e_0 (n : Int) (lc : List HV) (m : Nat) (els : List HV) (j : Nat)   : RunsTo Try.prog polO 18 (sub [1, 1, 1, 1, 0, 0] B18) (env18 (.int .i64 n) (.imm .arg 2 lc) (.bool false) (.int .i64 (j : Int)) .undef .undef (.sl 0 0 m none m 1) .undef) [.arr 1 els true 0] (.normal) (polO.keys 18) (env18 (.int .i64 n) (.imm .arg 2 lc) (.bool false) (.int .i64 (j : Int)) .undef .undef (.sl 0 0 m none m 1) (.int .i64 0)) [.arr 1 els true 0] :=
  RunsTo.hint 1 60 [] fun kf hk => by
    obtain ⟨kf, rfl⟩ : ∃ n, kf = n + 1 := ⟨kf - 1, by omega⟩
    exact ⟨[], by kernel_rfl, Obls.nil⟩
theorem tr_k_0 (n : Int) (lc : List HV) (m : Nat) (els : List HV) (j : Nat) (x0 : Int) (g0 : (j : Int) < n) (g1 : idxV Try.prog 24 (.sl 0 0 m none m 1) (.int .i64 (j : Int)) = some (.ptr 0 j 0 m)) (g2 : loadV Try.prog [.arr 1 els true 0] 3 (.ptr 0 j 0 m) = some (.int .i64 x0)) (g3 : x0 < 0) : RunsTo Try.prog polO 18 (sub [1, 1, 1, 1, 0, 1, 0, 0] B18) (env18 (.int .i64 n) (.imm .arg 2 lc) (.bool false) .undef .undef .undef (.sl 0 0 m none m 1) (.int .i64 (j : Int))) [.arr 1 els true 0] (.ret) (polO.keys 18) (env18 (.int .i64 n) (.imm .arg 2 lc) (.bool false) .undef .undef .undef (.sl 0 0 m none m 1) (.int .i64 (j : Int))) [.arr 1 els true 0] :=
  RunsTo.hint 1 60 [⟨11, 2, .bool true, [.arr 1 els true 0]⟩, ⟨13, 2, .ptr 0 j 0 m, [.arr 1 els true 0]⟩, ⟨13, 3, .int .i64 x0, [.arr 1 els true 0]⟩, ⟨13, 4, .bool true, [.arr 1 els true 0]⟩] fun kf hk => by
    obtain ⟨kf, rfl⟩ : ∃ n, kf = n + 1 := ⟨kf - 1, by omega⟩
    exact ⟨[some (HV.bool (decide ((j : Int) < n)), ([.arr 1 els true 0] : Heap)) = some (.bool true, [.arr 1 els true 0]), (idxV Try.prog 24 (.sl 0 0 m none m 1) (.int .i64 (j : Int))).map (fun v => (v, ([.arr 1 els true 0] : Heap))) = some (.ptr 0 j 0 m, [.arr 1 els true 0]), (loadV Try.prog [.arr 1 els true 0] 3 (.ptr 0 j 0 m)).map (fun v => (v, ([.arr 1 els true 0] : Heap))) = some (.int .i64 x0, [.arr 1 els true 0]), some (HV.bool (decide (x0 < 0)), ([.arr 1 els true 0] : Heap)) = some (.bool true, [.arr 1 els true 0])], by kernel_rfl, Obls.cons (hintB (decide_eq_true g0)) (Obls.cons (hintOp g1) (Obls.cons (hintOp g2) (Obls.cons (hintB (decide_eq_true g3)) Obls.nil)))⟩
theorem tr_k_1 (n : Int) (lc : List HV) (m : Nat) (els : List HV) (j : Nat) (x0 : Int) (g0 : (j : Int) < n) (g1 : idxV Try.prog 24 (.sl 0 0 m none m 1) (.int .i64 (j : Int)) = some (.ptr 0 j 0 m)) (g2 : loadV Try.prog [.arr 1 els true 0] 3 (.ptr 0 j 0 m) = some (.int .i64 x0)) (g3 : ¬ (x0 < 0)) : RunsTo Try.prog polO 18 (sub [1, 1, 1, 1, 0, 1, 0, 0] B18) (env18 (.int .i64 n) (.imm .arg 2 lc) (.bool false) .undef .undef .undef (.sl 0 0 m none m 1) (.int .i64 (j : Int))) [.arr 1 els true 0] (.normal) (polO.keys 18) (env18 (.int .i64 n) (.imm .arg 2 lc) (.bool false) .undef .undef .undef (.sl 0 0 m none m 1) (.int .i64 (IntKind.i64.wrap ((j : Int) + 1)))) [.arr 1 els true 0] :=
  RunsTo.hint 1 60 [⟨11, 2, .bool true, [.arr 1 els true 0]⟩, ⟨13, 2, .ptr 0 j 0 m, [.arr 1 els true 0]⟩, ⟨13, 3, .int .i64 x0, [.arr 1 els true 0]⟩, ⟨13, 4, .bool false, [.arr 1 els true 0]⟩] fun kf hk => by
    obtain ⟨kf, rfl⟩ : ∃ n, kf = n + 1 := ⟨kf - 1, by omega⟩
    exact ⟨[some (HV.bool (decide ((j : Int) < n)), ([.arr 1 els true 0] : Heap)) = some (.bool true, [.arr 1 els true 0]), (idxV Try.prog 24 (.sl 0 0 m none m 1) (.int .i64 (j : Int))).map (fun v => (v, ([.arr 1 els true 0] : Heap))) = some (.ptr 0 j 0 m, [.arr 1 els true 0]), (loadV Try.prog [.arr 1 els true 0] 3 (.ptr 0 j 0 m)).map (fun v => (v, ([.arr 1 els true 0] : Heap))) = some (.int .i64 x0, [.arr 1 els true 0]), some (HV.bool (decide (x0 < 0)), ([.arr 1 els true 0] : Heap)) = some (.bool false, [.arr 1 els true 0])], by kernel_rfl, Obls.cons (hintB (decide_eq_true g0)) (Obls.cons (hintOp g1) (Obls.cons (hintOp g2) (Obls.cons (hintB (decide_eq_false g3)) Obls.nil)))⟩
theorem tr_k_2 (n : Int) (lc : List HV) (m : Nat) (els : List HV) (j : Nat)  (g0 : ¬ ((j : Int) < n)) : RunsTo Try.prog polO 18 (sub [1, 1, 1, 1, 0, 1, 0, 0] B18) (env18 (.int .i64 n) (.imm .arg 2 lc) (.bool false) .undef .undef .undef (.sl 0 0 m none m 1) (.int .i64 (j : Int))) [.arr 1 els true 0] (.exit 2) (polO.keys 18) (env18 (.int .i64 n) (.imm .arg 2 lc) (.bool false) .undef .undef .undef (.sl 0 0 m none m 1) (.int .i64 (j : Int))) [.arr 1 els true 0] :=
  RunsTo.hint 1 60 [⟨11, 2, .bool false, [.arr 1 els true 0]⟩] fun kf hk => by
    obtain ⟨kf, rfl⟩ : ∃ n, kf = n + 1 := ⟨kf - 1, by omega⟩
    exact ⟨[some (HV.bool (decide ((j : Int) < n)), ([.arr 1 els true 0] : Heap)) = some (.bool false, [.arr 1 els true 0])], by kernel_rfl, Obls.cons (hintB (decide_eq_false g0)) Obls.nil⟩
theorem tr_z_0 (n : Int) (lc : List HV) (m : Nat) (els : List HV) (j : Nat)   : RunsTo Try.prog polO 18 (sub [1, 1, 1, 1, 1] B18) (env18 (.int .i64 n) (.imm .arg 2 lc) (.bool false) .undef .undef .undef (.sl 0 0 m none m 1) (.int .i64 (j : Int))) [.arr 1 els true 0] (.ret) (polO.keys 18) (env18 (.int .i64 n) (.imm .arg 2 lc) (.bool true) .undef .undef .undef (.sl 0 0 m none m 1) (.int .i64 (j : Int))) [.arr 1 els true 0] :=
  RunsTo.hint 1 60 [] fun kf hk => by
    obtain ⟨kf, rfl⟩ : ∃ n, kf = n + 1 := ⟨kf - 1, by omega⟩
    exact ⟨[], by kernel_rfl, Obls.nil⟩
end Go.Proofs.Ytmhfkhlamnapdaa
end
section
open Go Go.HL
namespace Go.Proofs.Ytmhfkhlamnapdaa
abbrev trE (n : Int) (lc : List HV) (v5 v8 v9 : HV) : Env := env18 (.int .i64 n) (.imm .arg 2 lc) (.bool false) v5 .undef .undef v8 v9
theorem tree_valid (n : Int) (l : List (Int × Int)) (hl : l.length ≤ 1000) : ∀ (d j : Nat), j + d = l.length →
    ∃ x E, RunsTo Try.prog polO 18 (sub [1, 1, 0, 1, 0] B18) (trE n (l.map encP) (.int .i64 (j : Int)) .undef .undef) [] x (polO.keys 18) E [] ∧
      (((l.drop j).all (validB n) = true ∧ x = .exit 0 ∧ E = trE n (l.map encP) (.int .i64 (l.length : Int)) .undef .undef) ∨ ((l.drop j).all (validB n) = false ∧ x = .ret ∧ E.get 4 = .bool false)) := by
  intro d
  induction d with
  | zero =>
    intro j hj
    have hj : j = l.length := by omega
    subst hj
    exact ⟨_, _, RunsTo.loop_out (tr_l_6 n (l.map encP) l.length (by simp)) (by simp) (by kernel_rfl) (by kernel_rfl), .inl ⟨by simp, rfl, rfl⟩⟩
  | succ d ih =>
    intro j hj
    have hjl : j < l.length := by omega
    rw [List.drop_eq_getElem_cons hjl, List.all_cons]
    generalize hp : l[j] = p
    obtain ⟨a, b⟩ := p
    have g1 : idxV Try.prog 22 (.imm .arg 2 (l.map encP)) (.int .i64 (j : Int)) = some (.vptr (.agg [.int .i64 a, .int .i64 b])) := idx_imm u22 z33 (by omega) (by rw [Int.toNat_natCast, List.getElem?_map, List.getElem?_eq_getElem hjl, hp]; rfl)
    have g0 : (j : Int) < ((l.map encP).length : Int) := by simp; omega
    by_cases hv : (0 ≤ a ∧ a < n) ∧ (0 ≤ b ∧ b < n) ∧ a ≠ b
    · have hvb : validB n (a, b) = true := by rw [validB]; exact decide_eq_true hv
      obtain ⟨x, E, h1, h2⟩ := ih (j + 1) (by omega)
      have s1 := tr_l_5 n (l.map encP) j a b a b g0 g1 g1 (by omega) (by omega) (by omega) (by omega) hv.2.2
      rw [wrap_succ (by omega)] at s1
      rw [hvb, Bool.true_and]
      exact ⟨x, E, RunsTo.loop s1 (by kernel_rfl) rfl h1 rfl (by kernel_rfl) (by kernel_rfl), h2⟩
    · have hvb : validB n (a, b) = false := by rw [validB]; exact decide_eq_false hv
      rw [hvb, Bool.false_and]
      by_cases c1 : a < 0
      · exact ⟨_, _, RunsTo.loop_out (tr_l_0 n (l.map encP) j a b a b g0 g1 g1 c1) (by simp) (by kernel_rfl) (by kernel_rfl), .inr ⟨rfl, rfl, rfl⟩⟩
      · by_cases c2 : n ≤ a
        · exact ⟨_, _, RunsTo.loop_out (tr_l_1 n (l.map encP) j a b a b g0 g1 g1 c1 c2) (by simp) (by kernel_rfl) (by kernel_rfl), .inr ⟨rfl, rfl, rfl⟩⟩
        · by_cases c3 : b < 0
          · exact ⟨_, _, RunsTo.loop_out (tr_l_2 n (l.map encP) j a b a b g0 g1 g1 c1 c2 c3) (by simp) (by kernel_rfl) (by kernel_rfl), .inr ⟨rfl, rfl, rfl⟩⟩
          · by_cases c4 : n ≤ b
            · exact ⟨_, _, RunsTo.loop_out (tr_l_3 n (l.map encP) j a b a b g0 g1 g1 c1 c2 c3 c4) (by simp) (by kernel_rfl) (by kernel_rfl), .inr ⟨rfl, rfl, rfl⟩⟩
            · by_cases c5 : a = b
              · exact ⟨_, _, RunsTo.loop_out (tr_l_4 n (l.map encP) j a b a b g0 g1 g1 c1 c2 c3 c4 c5) (by simp) (by kernel_rfl) (by kernel_rfl), .inr ⟨rfl, rfl, rfl⟩⟩
              · exact absurd ⟨⟨by omega, by omega⟩, ⟨by omega, by omega⟩, c5⟩ hv
theorem tree_reach (n : Int) (lc : List HV) (m : Nat) (hm : (m : Int) = n) (hn : m ≤ 1000) (o : List Int) (ho : o.length = m) : ∀ (d j : Nat), j + d = m →
    ∃ x E, RunsTo Try.prog polO 18 (sub [1, 1, 1, 1, 0, 1, 0] B18) (trE n lc .undef (.sl 0 0 m none m 1) (.int .i64 (j : Int))) [bI o] x (polO.keys 18) E [bI o] ∧
      (((o.drop j).all (fun v => decide (0 ≤ v)) = true ∧ x = .exit 2 ∧ E = trE n lc .undef (.sl 0 0 m none m 1) (.int .i64 (m : Int))) ∨ ((o.drop j).all (fun v => decide (0 ≤ v)) = false ∧ x = .ret ∧ E.get 4 = .bool false)) := by
  intro d
  induction d with
  | zero =>
    intro j hj
    have hj : j = m := by omega
    subst hj
    exact ⟨_, _, RunsTo.loop_out (tr_k_2 n lc j (o.map encI) j (by omega)) (by simp) (by kernel_rfl) (by kernel_rfl), .inl ⟨by rw [List.drop_eq_nil_of_le (by omega)]; rfl, rfl, rfl⟩⟩
  | succ d ih =>
    intro j hj
    have hjl : j < o.length := by omega
    have hd : o.drop j = o[j] :: o.drop (j + 1) := List.drop_eq_getElem_cons hjl
    rw [hd, List.all_cons]
    have g1 : idxV Try.prog 24 (.sl 0 0 m none m 1) (.int .i64 (j : Int)) = some (.ptr 0 j 0 m) := by
      have := idx_sl (P := Try.prog) (t := 24) (b := 0) (tot := m) (cap := none) (ik := .i64) (n := (j : Int)) u24b z3b (by omega) (len := m) (by omega)
      simpa using this
    have g2 : loadV Try.prog [bI o] 3 (.ptr 0 j 0 m) = some (.int .i64 o[j]) := by
      have := load_out (H := [bI o]) (k := 0) rfl hjl
      rw [ho] at this
      rw [this]; simp [List.getD, List.getElem?_eq_getElem hjl]
    by_cases c : o[j] < 0
    · rw [decide_eq_false (by omega), Bool.false_and]
      exact ⟨_, _, RunsTo.loop_out (tr_k_0 n lc m (o.map encI) j _ (by omega) g1 g2 c) (by simp) (by kernel_rfl) (by kernel_rfl), .inr ⟨rfl, rfl, rfl⟩⟩
    · rw [decide_eq_true (by omega), Bool.true_and]
      obtain ⟨x, E, h1, h2⟩ := ih (j + 1) (by omega)
      have s1 := tr_k_1 n lc m (o.map encI) j _ (by omega) g1 g2 c
      rw [wrap_succ (by omega)] at s1
      exact ⟨x, E, RunsTo.loop s1 (by kernel_rfl) (gc_same (Nat.le_refl _)) h1 rfl (by kernel_rfl) (by kernel_rfl), h2⟩
def reached (o : List Int) : Bool := o.all fun v => decide (0 ≤ v)
def rTree (n : Int) (l : List (Int × Int)) : Bool := decide ((1 ≤ n ∧ n ≤ 30) ∧ (l.length : Int) = n - 1) && (l.all (validB n) && reached (rfarF n.toNat l 0))
def tree18 : List HV → Option HV
  | [.int .i64 n, .imm .arg 2 lc] => match mapO decP lc with | some l => some (.bool (rTree n l)) | none => none
  | _ => none
theorem res18 : Try.f18.results.toList = [.tmp 4] := by kernel_rfl
theorem bIn_len (c : Int) : ∀ (l : List Nat) (s : List Int × List Nat), (bIn c l s).1.length = s.1.length
  | [], _ => rfl
  | y :: l, s => by
    rw [bIn, bIn_len c l]
    split <;> simp
theorem bGo_len (nb : Nat → List Nat) : ∀ (d i : Nat) (s : List Int × List Nat), (bGo nb d i s).1.length = s.1.length
  | 0, _, _ => rfl
  | d + 1, i, s => by
    rw [bGo]
    split
    · rw [bGo_len nb d, bIn_len]
    · rfl
theorem bfs_len (nb : Nat → List Nat) (n x : Nat) : (bfs nb n x).length = n := by
  rw [bfs, bGo_len]; simp [bInit]
theorem tree_ok : PrimOk Try.prog 18 tree18 := by
  refine primOk_pure (pol := polO) (fn := Try.f18) (cd := B18) follows_mixed soundO (by kernel_rfl) (by kernel_rfl) (fnok polO.prim _ _ (by kernel_rfl)) (by kernel_rfl) ?_
  intro args res h
  unfold tree18 at h
  split at h
  · rename_i n lc
    split at h
    · rename_i l hlc
      cases h
      rw [mapO_inv decP_inv hlc]
      have a1 := tr_a_0 n (l.map encP)
      have bad : ∀ E H, RunsTo Try.prog polO 18 (sub [1] B18) (trE n (l.map encP) .undef .undef .undef) [] .ret (polO.keys 18) E H → E.get 4 = .bool (rTree n l) → ∃ x E H' v, RunsTo Try.prog polO 18 B18 (args0 [.int .i64 n, .imm .arg 2 (l.map encP)]) [] x (polO.keys 18) E H' ∧ (∀ i, x ≠ .exit i) ∧ resultsV Try.prog Try.f18 E H' = some v ∧ toRes H' (polO.deep 18) v = some (.bool (rTree n l)) := by
        intro E H t hE
        exact ⟨_, _, _, .bool (rTree n l), RunsTo.seq a1 t (c := B18) (by kernel_rfl) (by kernel_rfl), by simp, by simp only [resultsV, res18, mapO, resultV, hE], rfl⟩
      have out1 : ∀ E, RunsTo Try.prog polO 18 (sub [1, 0] B18) (trE n (l.map encP) .undef .undef .undef) [] .ret (polO.keys 18) E [] → E.get 4 = .bool false → ¬ ((1 ≤ n ∧ n ≤ 30) ∧ (l.length : Int) = n - 1) → _ := fun E t hE hc => bad E [] (RunsTo.seq_out t (by simp) (c := sub [1] B18) (b := sub [1, 1] B18) (by kernel_rfl)) (by rw [hE, rTree, decide_eq_false hc, Bool.false_and])
      by_cases c1 : n < 1
      · exact out1 _ (tr_b_0 n (l.map encP) c1) rfl (by omega)
      · by_cases c2 : 30 < n
        · exact out1 _ (tr_b_1 n (l.map encP) c1 c2) rfl (by omega)
        · have hw : IntKind.i64.wrap (n - 1) = n - 1 := by rw [wrapI64]; omega
          have hml : ((l.map encP).length : Int) = (l.length : Int) := by simp
          by_cases c3 : (l.length : Int) = n - 1
          · have hg : (1 ≤ n ∧ n ≤ 30) ∧ (l.length : Int) = n - 1 := by omega
            have hT : rTree n l = (l.all (validB n) && reached (rfarF n.toNat l 0)) := by rw [rTree, decide_eq_true hg, Bool.true_and]
            obtain ⟨m, rfl⟩ : ∃ m : Nat, n = (m : Int) := ⟨n.toNat, by omega⟩
            rw [Int.toNat_natCast] at hT
            have b1 := tr_b_2 (m : Int) (l.map encP) c1 c2 (by rw [hml, hw]; exact c3)
            have d1 := tr_c_0 (m : Int) (l.map encP)
            have up : ∀ E H, RunsTo Try.prog polO 18 (sub [1, 1] B18) (trE (m : Int) (l.map encP) .undef .undef .undef) [] .ret (polO.keys 18) E H → RunsTo Try.prog polO 18 (sub [1] B18) (trE (m : Int) (l.map encP) .undef .undef .undef) [] .ret (polO.keys 18) E H := fun E H t => RunsTo.seq b1 t (c := sub [1] B18) (by kernel_rfl) (by kernel_rfl)
            obtain ⟨x, E, r, h⟩ := tree_valid (m : Int) l (by omega) l.length 0 (by omega)
            rw [List.drop_zero] at h
            rcases h with ⟨e, rfl, rfl⟩ | ⟨e, rfl, hE⟩
            · have t1 := RunsTo.seq d1 (RunsTo.block_exit (c := sub [1, 1, 0, 1] B18) r (by kernel_rfl)) (c := sub [1, 1, 0] B18) (by kernel_rfl) (by kernel_rfl)
              have hv := List.all_eq_true.1 e
              have hvi : l.all (inBb (m : Int)) = true := List.all_eq_true.2 fun p hp => by
                have := hv p hp
                rw [validB, decide_eq_true_eq] at this
                rw [inBb, decide_eq_true_eq]; exact ⟨this.1, this.2.1⟩
              have f1 := tr_d_0 (m : Int) (l.map encP) l.length m ((rfarF m l 0).map encI) (fun k => by
                rw [prim_call (pol := polO) (g := 41) (F := rfar41) (by kernel_rfl) (rs := [.int .i64 (m : Int), .imm .arg 2 (l.map encP), .int .i64 0]) (by simp only [mapO, arg_pairs']; rfl) (res := .own 1 ((rfarF m l 0).map encI)) (by
                  simp only [rfar41, mapO_map decP_enc]
                  rw [if_pos ⟨⟨⟨by omega, by omega⟩, hvi⟩, by omega, by omega⟩]; rfl)]
                have hno : ((rfarF m l 0).map encI).any isOwn = false := by
                  rw [List.any_eq_false]
                  intro v hv
                  obtain ⟨k, _, rfl⟩ := List.mem_map.1 hv
                  simp [encI, isOwn]
                have hlen : (rfarF m l 0).length = m := bfs_len _ _ _
                simp only [recv, recvVal, recvCell, hno, List.length_map, hlen]
                rfl)
              have e1 := tr_e_0 (m : Int) (l.map encP) m ((rfarF m l 0).map encI) l.length
              obtain ⟨x2, E2, r2, h2⟩ := tree_reach (m : Int) (l.map encP) m rfl (by omega) (rfarF m l 0) (bfs_len _ _ _) m 0 (by omega)
              have r2' := RunsTo.loop_in (e0 := trE (m : Int) (l.map encP) (.int .i64 (l.length : Int)) (.sl 0 0 m none m 1) (.int .i64 0)) r2 (b := sub [1, 1, 1, 1, 0, 1, 0, 0] B18) (by kernel_rfl) (by kernel_rfl) (by kernel_rfl)
              rw [List.drop_zero] at h2
              rcases h2 with ⟨k1, rfl, rfl⟩ | ⟨k1, rfl, k2⟩
              · have z1 := tr_z_0 (m : Int) (l.map encP) m ((rfarF m l 0).map encI) m
                have t2 := RunsTo.seq e1 (RunsTo.block_exit (c := sub [1, 1, 1, 1, 0, 1] B18) r2' (by kernel_rfl)) (c := sub [1, 1, 1, 1, 0] B18) (by kernel_rfl) (by kernel_rfl)
                have t3 := RunsTo.seq t2 z1 (c := sub [1, 1, 1, 1] B18) (by kernel_rfl) (by kernel_rfl)
                have t4 := RunsTo.seq f1 t3 (c := sub [1, 1, 1] B18) (by kernel_rfl) (by kernel_rfl)
                have t5 := RunsTo.seq t1 t4 (c := sub [1, 1] B18) (by kernel_rfl) (by kernel_rfl)
                exact bad _ _ (up _ _ t5) (by rw [hT, e, reached, k1]; rfl)
              · have t2 := RunsTo.seq e1 (RunsTo.block_ret (i := 2) (c := sub [1, 1, 1, 1, 0, 1] B18) r2' (by kernel_rfl)) (c := sub [1, 1, 1, 1, 0] B18) (by kernel_rfl) (by kernel_rfl)
                have t3 := RunsTo.seq_out t2 (by simp) (c := sub [1, 1, 1, 1] B18) (b := sub [1, 1, 1, 1, 1] B18) (by kernel_rfl)
                have t4 := RunsTo.seq f1 t3 (c := sub [1, 1, 1] B18) (by kernel_rfl) (by kernel_rfl)
                have t5 := RunsTo.seq t1 t4 (c := sub [1, 1] B18) (by kernel_rfl) (by kernel_rfl)
                exact bad _ _ (up _ _ t5) (by rw [hT, e, reached, k1, k2]; rfl)
            · have t1 := RunsTo.seq d1 (RunsTo.block_ret (i := 0) (c := sub [1, 1, 0, 1] B18) r (by kernel_rfl)) (c := sub [1, 1, 0] B18) (by kernel_rfl) (by kernel_rfl)
              have t2 := RunsTo.seq_out t1 (by simp) (c := sub [1, 1] B18) (b := sub [1, 1, 1] B18) (by kernel_rfl)
              exact bad _ _ (up _ _ t2) (by rw [hT, e, hE]; rfl)
          · exact out1 _ (tr_b_3 n (l.map encP) c1 c2 (by rw [hml, hw]; exact c3)) rfl (fun h => c3 h.2)
    · cases h
  · cases h
end Go.Proofs.Ytmhfkhlamnapdaa
end
section
open Go Go.HL
namespace Go.Proofs.Ytmhfkhlamnapdaa
theorem good_res {E : Env} {H : Heap} {b : Bool} {v : HV} (h4 : E.get 4 = .ptr 0 0 0 1) (h5 : E.get 5 = .bool b) (h : loadV Try.prog H 72 (.ptr 0 0 0 1) = some v) : resultsV Try.prog Try.f46 E H = some (.tuple [v, .bool b]) := by
  simp only [resultsV, res46, mapO, resultV, h4, h5, h]
def farOk (adj : List (List Nat)) : Bool := decide ((-1 : Int) ∉ farF adj 0)
/-- What newTree answers. -/
def newTreeF (n : Int) (l : List (Int × Int)) : HV :=
  if ((1 ≤ n ∧ n ≤ 30) ∧ (l.length : Int) = n - 1) ∧ l.all (validB n) = true then .tuple [treeV (adjOf n.toNat l), .bool (farOk (adjOf n.toNat l))] else .tuple [.agg [.own 0 [], .nilmap], .bool false]
def newTree46 : List HV → Option HV
  | [.int .i64 n, .imm .arg 2 lc] => match mapO decP lc with | some l => some (newTreeF n l) | none => none
  | _ => none
theorem ainv_ok {n k : Nat} (hk : k ≤ 1000) {adj : List (List Nat)} (h : AInv n k adj) : rowsOk adj = true := rowsOk_iff.2 fun r hr => by
  have := h.row r hr
  rw [h.len]
  exact ⟨by omega, this.2⟩
theorem m50 {n k : Nat} (h0 : 0 < n) (hn : n ≤ 1000) (hk : k ≤ 1000) {adj : List (List Nat)} {H : Heap} (hT : TS n adj H) (hA : AInv n k adj) : ∀ kf, callN Try.prog polM (kf + 1) 50 [trV n, .int .i64 0] H = some (.sl H.length 0 n none n 1, H ++ [bI (farF adj 0)]) := fun kf => by
  rw [prim_call (pol := polM) (g := 50) (F := far50) (by kernel_rfl) (rs := [.agg [.imm .arg 1 (adj.map encR), .imap .arg [] []], .int .i64 0]) (by simp only [mapO, toArg_tree h0 hT]; rfl) (res := .own 1 ((farF adj 0).map encI)) (by
    simp only [far50, mapO_map decR_enc]
    rw [if_pos ⟨⟨by rw [hA.len]; exact hn, ainv_ok hk hA⟩, by omega, by rw [hA.len]; omega⟩]; rfl)]
  have hno : ((farF adj 0).map encI).any isOwn = false := by
    rw [List.any_eq_false]
    intro v hv
    obtain ⟨k, _, rfl⟩ := List.mem_map.1 hv
    simp [encI, isOwn]
  have hlen : (farF adj 0).length = n := by rw [farF, bfs_len]; exact hA.len
  simp only [recv, recvVal, recvCell, hno, List.length_map, hlen]
  rfl
theorem m52 {n : Nat} (hn : n ≤ 1000) (o : List Int) (ho : o.length = n) (H : Heap) (q : Nat) (hq : H[q]? = some (bI o)) : ∀ kf, callN Try.prog polM (kf + 1) 52 [.sl q 0 n none n 1, .int .i64 (-1)] H = some (.bool (decide ((-1 : Int) ∈ o)), H) := fun kf => by
  have e : toArg H 6 (.sl q 0 n none n 1) = some (.imm .arg 1 (o.map encI)) := by
    have e : toArg H 6 (.sl q 0 n none n 1) = if n = 0 then some (.imm .arg 1 []) else match view H q 0 n n 1 with | some l => (match mapO (toArg H 5) l with | some l => some (.imm .arg 1 l) | none => none) | none => none := rfl
    rw [e]
    split
    · rename_i h0
      rw [h0] at ho
      rw [List.length_eq_zero_iff.1 ho]; rfl
    · have hv : view H q 0 n n 1 = some (o.map encI) := by
        simp only [view, hq, List.length_map, ho]
        rw [if_pos ⟨trivial, by omega, trivial⟩, List.drop_zero, List.take_of_length_le (by rw [List.length_map]; omega)]
      have hm : mapO (toArg H 5) (o.map encI) = some (o.map encI) := mapO_self (f := toArg H 5) (g := encI) (fun _ => rfl) o
      rw [hv]
      simp only [hm]
  rw [prim_call (pol := polM) (g := 52) (F := contains52) (by kernel_rfl) (rs := [.imm .arg 1 (o.map encI), .int .i64 (-1)]) (by simp only [mapO, e]; rfl) (res := .bool (decide ((-1 : Int) ∈ o))) (by simp only [contains52, mapO_map decI_enc]; rw [if_pos (by omega)])]; rfl
theorem newTree_ok : PrimOk Try.prog 46 newTree46 := by
  refine primOk_pure (pol := polM) (fn := Try.f46) (cd := B46) follows_mixed soundM (by kernel_rfl) (by kernel_rfl) (fnok polM.prim _ _ (by kernel_rfl)) (by kernel_rfl) ?_
  intro args res h
  unfold newTree46 at h
  split at h
  · rename_i n lc
    split at h
    · rename_i l hlc
      cases h
      rw [mapO_inv decP_inv hlc]
      have a1 := nt_a_0 n (l.map encP)
      have hml : ((l.map encP).length : Int) = (l.length : Int) := by simp
      have bad : ∀ E H, RunsTo Try.prog polM 46 (sub [1] B46) (env46 (.int .i64 n) (.imm .arg 2 (l.map encP)) (.ptr 0 0 0 1) (.bool false) .undef .undef .undef .undef .undef) [.arr 2 [Zt] true 0] .ret (polM.keys 46) E H → resultsV Try.prog Try.f46 E H = some (.tuple [Zt, .bool false]) →
          ¬ (((1 ≤ n ∧ n ≤ 30) ∧ (l.length : Int) = n - 1) ∧ l.all (validB n) = true) → ∃ x E H' v, RunsTo Try.prog polM 46 B46 (args0 [.int .i64 n, .imm .arg 2 (l.map encP)]) [] x (polM.keys 46) E H' ∧ (∀ i, x ≠ .exit i) ∧ resultsV Try.prog Try.f46 E H' = some v ∧ toRes H' (polM.deep 46) v = some (newTreeF n l) := by
        intro E H t hr hc
        refine ⟨_, _, _, _, RunsTo.seq a1 t (c := B46) (by kernel_rfl) (by kernel_rfl), by simp, hr, ?_⟩
        rw [newTreeF, if_neg hc]; rfl
      have lz : loadV Try.prog [.arr 2 [Zt] true 0] 72 (.ptr 0 0 0 1) = some Zt := load_agg (b := 0) rfl rfl rfl a72 s72
      by_cases c1 : 1 ≤ n ∧ n ≤ 30
      · by_cases c2 : (l.length : Int) = n - 1
        · obtain ⟨m, rfl⟩ : ∃ m : Nat, n = (m : Int) := ⟨n.toNat, by omega⟩
          have hw : IntKind.i64.wrap ((m : Int) - 1) = (m : Int) - 1 := by rw [wrapI64]; omega
          have b1 := nt_b_0 (m : Int) (l.map encP) (m49 _ _ _ true (decide_eq_true c1) _) (by rw [hml, hw]; exact c2)
          obtain ⟨H0, H1, H2, H3, g0, g1, g2, g3, hT⟩ := ts_init (n := m) (by omega)
          have d1 := nt_c_0 (m : Int) (l.map encP) m [.arr 2 [Zt] true 0] H0 H1 H2 H3 g0 g1 g2 g3
          have e1 := nt_d_0 (m : Int) (l.map encP) m H3
          rw [hml] at e1
          obtain ⟨x, E, H', r1, h1⟩ := nt_loop m (by omega) l (by omega) l.length 0 (List.replicate m []) H3 (by omega) hT (AInv.init m)
          rw [List.drop_zero] at h1
          rcases h1 with ⟨hv, rfl, rfl, hT2, hA2⟩ | ⟨hv, rfl, hres⟩
          · have t1 := RunsTo.seq e1 (RunsTo.block_exit (c := sub [1, 1, 1, 0, 1] B46) r1 (by kernel_rfl)) (c := sub [1, 1, 1, 0] B46) (by kernel_rfl) (by kernel_rfl)
            have hfl : (farF (adjGo l (List.replicate m [])) 0).length = m := by rw [farF, bfs_len]; exact hA2.len
            have c50 := m50 (by omega) (by omega) (by omega) hT2 hA2
            generalize hadj : adjGo l (List.replicate m []) = adj at hT2 hA2 hfl c50
            have hq : (H' ++ [bI (farF adj 0)])[H'.length]? = some (bI (farF adj 0)) := by simp
            have c52 := m52 (n := m) (by omega) (farF adj 0) hfl (H' ++ [bI (farF adj 0)]) H'.length hq
            have hlt : m + 4 ≤ H'.length := hT2.len
            have hT3 : TS m adj (H' ++ [bI (farF adj 0)]) := hT2.ext (fun k hk => by rw [List.getElem?_append_left (by omega)]) (by simp; omega) (sameH_app hT2.rf (same_arr fun v hv => by
              obtain ⟨k, _, rfl⟩ := List.mem_map.1 hv
              simp [encI, same]))
            have lt2 : ∀ {H : Heap}, TS m adj H → loadV Try.prog H 72 (.ptr (m + 3) 0 0 1) = some (trV m) := fun hT => by
              obtain ⟨mx, h2⟩ := hT.tr
              exact load_agg (b := m + 3) h2 rfl rfl a72 s72
            have hst : storeV Try.prog (H' ++ [bI (farF adj 0)]) 72 (.ptr 0 0 0 1) (trV m) = some ((H' ++ [bI (farF adj 0)]).set 0 (.arr 2 [trV m] true (max 0 (bnd (trV m))))) := by
              have hz := s72
              simp only [storeV, hT3.z, cellsOf, hz, List.length_singleton, List.length_cons, List.length_nil]
              rw [if_pos ⟨trivial, trivial⟩]
              rfl
            have l1 := lt2 hT2
            have l2 := lt2 hT3
            have sm : same (trV m) (trV m) = true := by simp [same, sameL]
            have gS : (recL ((loadV Try.prog H' 72 (.ptr (m + 3) 0 0 1)).map (fun v => (v, (H' : Heap)))) ((loadV Try.prog (H' ++ [bI (farF adj 0)]) 72 (.ptr (m + 3) 0 0 1)).map (fun v => (v, ((H' ++ [bI (farF adj 0)]) : Heap)))) H' (H' ++ [bI (farF adj 0)]) && (recL ((loadV Try.prog H' 72 (.ptr (m + 3) 0 0 1)).map (fun v => (v, (H' : Heap)))) ((loadV Try.prog (H' ++ [bI (farF adj 0)]) 72 (.ptr (m + 3) 0 0 1)).map (fun v => (v, ((H' ++ [bI (farF adj 0)]) : Heap)))) H' (H' ++ [bI (farF adj 0)]) && true)) = true := by
              have r1 := hT2.rf
              have r2 := hT3.rf
              simp only [l1, l2, Option.map, recL, sm, r1, r2, Bool.and_self]
            have up : ∀ E H, RunsTo Try.prog polM 46 (sub [1, 1, 1, 1] B46) (ntE (m : Int) (l.map encP) m (.imm .arg 2 (l.map encP)) (.int .i64 (l.length : Int)) (.int .i64 (l.length : Int))) H' .ret (polM.keys 46) E H → RunsTo Try.prog polM 46 B46 (args0 [.int .i64 (m : Int), .imm .arg 2 (l.map encP)]) [] .ret (polM.keys 46) E H := by
              intro E H t
              have t2 := RunsTo.seq t1 t (c := sub [1, 1, 1] B46) (by kernel_rfl) (by kernel_rfl)
              have t3 := RunsTo.seq d1 t2 (c := sub [1, 1] B46) (by kernel_rfl) (by kernel_rfl)
              have t4 := RunsTo.seq b1 t3 (c := sub [1] B46) (by kernel_rfl) (by kernel_rfl)
              exact RunsTo.seq a1 t4 (c := B46) (by kernel_rfl) (by kernel_rfl)
            have hF : newTreeF (m : Int) l = .tuple [treeV adj, .bool (farOk adj)] := by
              rw [newTreeF, if_pos ⟨⟨c1, c2⟩, hv⟩, Int.toNat_natCast, adjOf, hadj]
            have lz2 : loadV Try.prog ((H' ++ [bI (farF adj 0)]).set 0 (.arr 2 [trV m] true (max 0 (bnd (trV m))))) 72 (.ptr 0 0 0 1) = some (trV m) :=
              load_agg (b := 0) (by rw [List.getElem?_set_self (by simp)]) rfl rfl a72 s72
            have hTR := toRes_tree (by omega) (hT3.tr'.set0 (.arr 2 [trV m] true (max 0 (bnd (trV m)))))
            by_cases hin : (-1 : Int) ∈ farF adj 0
            · have z1 := nt_z_0 (m : Int) (l.map encP) m H' l.length _ _ _ _ l1 l1 c50 (by rw [decide_eq_true hin] at c52; exact c52) hst gS
              rw [hml] at z1
              refine ⟨_, _, _, _, up _ _ z1, by simp, good_res rfl rfl lz2, ?_⟩
              rw [hF, farOk, decide_eq_false (fun h => h hin)]
              exact hTR false
            · have z1 := nt_z_1 (m : Int) (l.map encP) m H' l.length _ _ _ _ l1 l1 c50 (by rw [decide_eq_false hin] at c52; exact c52) hst gS
              rw [hml] at z1
              refine ⟨_, _, _, _, up _ _ z1, by simp, good_res rfl rfl lz2, ?_⟩
              rw [hF, farOk, decide_eq_true hin]
              exact hTR true
          · have t1 := RunsTo.seq e1 (RunsTo.block_ret (i := 0) (c := sub [1, 1, 1, 0, 1] B46) r1 (by kernel_rfl)) (c := sub [1, 1, 1, 0] B46) (by kernel_rfl) (by kernel_rfl)
            have t2 := RunsTo.seq_out t1 (by simp) (c := sub [1, 1, 1] B46) (b := sub [1, 1, 1, 1] B46) (by kernel_rfl)
            have t3 := RunsTo.seq d1 t2 (c := sub [1, 1] B46) (by kernel_rfl) (by kernel_rfl)
            have t4 := RunsTo.seq b1 t3 (c := sub [1] B46) (by kernel_rfl) (by kernel_rfl)
            exact bad _ _ t4 hres (fun h => by rw [hv] at h; exact absurd h.2 (by simp))
        · have hw : IntKind.i64.wrap (n - 1) = n - 1 := by rw [wrapI64]; omega
          have b1 := nt_b_1 n (l.map encP) (m49 _ _ _ true (decide_eq_true c1) _) (by rw [hml, hw]; exact c2)
          exact bad _ _ (RunsTo.seq_out b1 (by simp) (c := sub [1] B46) (b := sub [1, 1] B46) (by kernel_rfl)) (bad_res rfl rfl lz) (fun h => c2 h.1.2)
      · have b1 := nt_b_2 n (l.map encP) (m49 _ _ _ false (decide_eq_false c1) _)
        exact bad _ _ (RunsTo.seq_out b1 (by simp) (c := sub [1] B46) (b := sub [1, 1] B46) (by kernel_rfl)) (bad_res rfl rfl lz) (fun h => c1 h.1.1)
    · cases h
  · cases h
end Go.Proofs.Ytmhfkhlamnapdaa
end
section
open Go Go.HL
namespace Go.Proofs.Ytmhfkhlamnapdaa
/-- A look into a map that lies in a block. -/
def lkH (P : Program) (T : TypeId) (H : Heap) (b : Nat) (k : HV) : Option (HV × Heap) :=
  match H[b]? with
  | some (.map ks vs _) => (lookV P T ks vs k false).map fun v => (v, H)
  | _ => none
/-- The policy of Check. -/
def primV (g : FuncId) : Option (List HV → Option HV) := if g == 49 then some withinF else if g == 46 then some newTree46 else if g == 52 then some contains52 else none
def polV : Pol := { pol with prim := primV }
theorem primV_ok (g : FuncId) (f : List HV → Option HV) (h : primV g = some f) : PrimOk Try.prog g f := by
  unfold primV at h
  split at h
  · rename_i hg; cases h; rw [eq_of_beq hg]; exact within_ok
  split at h
  · rename_i hg; cases h; rw [eq_of_beq hg]; exact newTree_ok
  split at h
  · rename_i hg; cases h; rw [eq_of_beq hg]; exact contains_ok
  · cases h
theorem soundV (n : Nat) : CallSound Try.prog (callN Try.prog polV n) := sound_prim primV primV_ok n
end Go.Proofs.Ytmhfkhlamnapdaa
end
section
open Go Go.HL
namespace Go.Proofs.Ytmhfkhlamnapdaa
set_option maxRecDepth 100000
noncomputable def B29 : Code := Try.f29.body.getD .skip
abbrev env29 (v0 v1 v2 v3 v8 v9 v10 v11 v13 v14 v16 v17 v18 v20 v39 v40 v41 v46 v47 v48 v97 v98 v99 : HV) : Env := [(0, v0), (1, v1), (2, v2), (3, v3), (8, v8), (9, v9), (10, v10), (11, v11), (13, v13), (14, v14), (16, v16), (17, v17), (18, v18), (20, v20), (39, v39), (40, v40), (41, v41), (46, v46), (47, v47), (48, v48), (97, v97), (98, v98), (99, v99)]
theorem ck_a_0 (n : Int) (lc : List HV) (x : Int) (rds : List HV)   : RunsTo Try.prog polV 29 (sub [0] B29) [(0, .int .i64 n), (1, .imm .arg 2 lc), (2, .int .i64 x), (3, .imm .arg 1 rds)] [] (.normal) (polV.keys 29) (env29 (.int .i64 n) (.imm .arg 2 lc) (.int .i64 x) (.imm .arg 1 rds) (.int .i64 0) .undef .undef .undef .undef .undef .undef .undef .undef .undef .undef .undef .undef .undef .undef .undef .undef .undef .undef) [] :=
  RunsTo.hint 1 60 [] fun kf hk => by
    obtain ⟨kf, rfl⟩ : ∃ n, kf = n + 1 := ⟨kf - 1, by omega⟩
    exact ⟨[], by kernel_rfl, Obls.nil⟩
theorem ck_b_0 (n : Int) (lc : List HV) (x : Int) (rds : List HV) (m : Nat) (rows : List HV) (g0 : ∀ kf, callN Try.prog polV (kf + 1) 46 [.int .i64 n, .imm .arg 2 lc] [] = some (.tuple [.agg [.sl 0 0 m none m 1, .map 1], .bool true], [.arr 1 rows true 0, .map [] [] 0])) : RunsTo Try.prog polV 29 (sub [1, 0] B29) (env29 (.int .i64 n) (.imm .arg 2 lc) (.int .i64 x) (.imm .arg 1 rds) (.int .i64 0) .undef .undef .undef .undef .undef .undef .undef .undef .undef .undef .undef .undef .undef .undef .undef .undef .undef .undef) [] (.normal) (polV.keys 29) (env29 (.int .i64 n) (.imm .arg 2 lc) (.int .i64 x) (.imm .arg 1 rds) (.int .i64 0) (.ptr 2 0 0 1) (.bool true) .undef .undef .undef .undef .undef .undef .undef .undef .undef .undef .undef .undef .undef .undef .undef .undef) [.arr 1 rows true 0, .map [] [] 0, .arr 2 [.agg [.sl 0 0 m none m 1, .map 1]] true 2] :=
  RunsTo.hint 1 60 [⟨1, 2, .tuple [.agg [.sl 0 0 m none m 1, .map 1], .bool true], [.arr 1 rows true 0, .map [] [] 0]⟩] fun kf hk => by
    obtain ⟨kf, rfl⟩ : ∃ n, kf = n + 1 := ⟨kf - 1, by omega⟩
    exact ⟨[callN Try.prog polV (kf + 1) 46 [.int .i64 n, .imm .arg 2 lc] [] = some (.tuple [.agg [.sl 0 0 m none m 1, .map 1], .bool true], [.arr 1 rows true 0, .map [] [] 0])], by kernel_rfl, Obls.cons (g0 kf) Obls.nil⟩
theorem ck_b_1 (n : Int) (lc : List HV) (x : Int) (rds : List HV) (m : Nat) (rows : List HV) (g0 : ∀ kf, callN Try.prog polV (kf + 1) 46 [.int .i64 n, .imm .arg 2 lc] [] = some (.tuple [.agg [.sl 0 0 m none m 1, .map 1], .bool false], [.arr 1 rows true 0, .map [] [] 0])) : RunsTo Try.prog polV 29 (sub [1, 0] B29) (env29 (.int .i64 n) (.imm .arg 2 lc) (.int .i64 x) (.imm .arg 1 rds) (.int .i64 0) .undef .undef .undef .undef .undef .undef .undef .undef .undef .undef .undef .undef .undef .undef .undef .undef .undef .undef) [] (.normal) (polV.keys 29) (env29 (.int .i64 n) (.imm .arg 2 lc) (.int .i64 x) (.imm .arg 1 rds) (.int .i64 0) (.ptr 2 0 0 1) (.bool false) .undef .undef .undef .undef .undef .undef .undef .undef .undef .undef .undef .undef .undef .undef .undef .undef) [.arr 1 rows true 0, .map [] [] 0, .arr 2 [.agg [.sl 0 0 m none m 1, .map 1]] true 2] :=
  RunsTo.hint 1 60 [⟨1, 2, .tuple [.agg [.sl 0 0 m none m 1, .map 1], .bool false], [.arr 1 rows true 0, .map [] [] 0]⟩] fun kf hk => by
    obtain ⟨kf, rfl⟩ : ∃ n, kf = n + 1 := ⟨kf - 1, by omega⟩
    exact ⟨[callN Try.prog polV (kf + 1) 46 [.int .i64 n, .imm .arg 2 lc] [] = some (.tuple [.agg [.sl 0 0 m none m 1, .map 1], .bool false], [.arr 1 rows true 0, .map [] [] 0])], by kernel_rfl, Obls.cons (g0 kf) Obls.nil⟩
theorem ck_b_2 (n : Int) (lc : List HV) (x : Int) (rds : List HV)  (g0 : ∀ kf, callN Try.prog polV (kf + 1) 46 [.int .i64 n, .imm .arg 2 lc] [] = some (.tuple [.agg [.sl 0 0 0 none 0 0, .nilmap], .bool false], [.arr 0 [] true 0])) : RunsTo Try.prog polV 29 (sub [1, 0] B29) (env29 (.int .i64 n) (.imm .arg 2 lc) (.int .i64 x) (.imm .arg 1 rds) (.int .i64 0) .undef .undef .undef .undef .undef .undef .undef .undef .undef .undef .undef .undef .undef .undef .undef .undef .undef .undef) [] (.normal) (polV.keys 29) (env29 (.int .i64 n) (.imm .arg 2 lc) (.int .i64 x) (.imm .arg 1 rds) (.int .i64 0) (.ptr 1 0 0 1) (.bool false) .undef .undef .undef .undef .undef .undef .undef .undef .undef .undef .undef .undef .undef .undef .undef .undef) [.arr 0 [] true 0, .arr 2 [.agg [.sl 0 0 0 none 0 0, .nilmap]] true 1] :=
  RunsTo.hint 1 60 [⟨1, 2, .tuple [.agg [.sl 0 0 0 none 0 0, .nilmap], .bool false], [.arr 0 [] true 0]⟩] fun kf hk => by
    obtain ⟨kf, rfl⟩ : ∃ n, kf = n + 1 := ⟨kf - 1, by omega⟩
    exact ⟨[callN Try.prog polV (kf + 1) 46 [.int .i64 n, .imm .arg 2 lc] [] = some (.tuple [.agg [.sl 0 0 0 none 0 0, .nilmap], .bool false], [.arr 0 [] true 0])], by kernel_rfl, Obls.cons (g0 kf) Obls.nil⟩
theorem ck_c_0 (n : Int) (lc : List HV) (x : Int) (rds : List HV) (m : Nat) (rows : List HV)  (g0 : ∀ kf, callN Try.prog polV (kf + 1) 49 [.int .i64 x, .int .i64 0, .int .i64 (IntKind.i64.wrap (n - 1))] [.arr 1 rows true 0, .map [] [] 0, .arr 2 [.agg [.sl 0 0 m none m 1, .map 1]] true 2] = some (.bool true, [.arr 1 rows true 0, .map [] [] 0, .arr 2 [.agg [.sl 0 0 m none m 1, .map 1]] true 2])) : RunsTo Try.prog polV 29 (sub [1, 1, 0] B29) (env29 (.int .i64 n) (.imm .arg 2 lc) (.int .i64 x) (.imm .arg 1 rds) (.int .i64 0) (.ptr 2 0 0 1) (.bool true) .undef .undef .undef .undef .undef .undef .undef .undef .undef .undef .undef .undef .undef .undef .undef .undef) [.arr 1 rows true 0, .map [] [] 0, .arr 2 [.agg [.sl 0 0 m none m 1, .map 1]] true 2] (.normal) (polV.keys 29) (env29 (.int .i64 n) (.imm .arg 2 lc) (.int .i64 x) (.imm .arg 1 rds) (.int .i64 0) (.ptr 2 0 0 1) (.bool true) .undef .undef .undef .undef .undef .undef .undef .undef .undef .undef .undef .undef .undef .undef .undef .undef) [.arr 1 rows true 0, .map [] [] 0, .arr 2 [.agg [.sl 0 0 m none m 1, .map 1]] true 2] :=
  RunsTo.hint 1 60 [⟨2, 6, .bool true, [.arr 1 rows true 0, .map [] [] 0, .arr 2 [.agg [.sl 0 0 m none m 1, .map 1]] true 2]⟩] fun kf hk => by
    obtain ⟨kf, rfl⟩ : ∃ n, kf = n + 1 := ⟨kf - 1, by omega⟩
    exact ⟨[callN Try.prog polV (kf + 1) 49 [.int .i64 x, .int .i64 0, .int .i64 (IntKind.i64.wrap (n - 1))] [.arr 1 rows true 0, .map [] [] 0, .arr 2 [.agg [.sl 0 0 m none m 1, .map 1]] true 2] = some (.bool true, [.arr 1 rows true 0, .map [] [] 0, .arr 2 [.agg [.sl 0 0 m none m 1, .map 1]] true 2])], by kernel_rfl, Obls.cons (g0 kf) Obls.nil⟩
theorem ck_c_1 (n : Int) (lc : List HV) (x : Int) (rds : List HV) (m : Nat) (rows : List HV)  (g0 : ∀ kf, callN Try.prog polV (kf + 1) 49 [.int .i64 x, .int .i64 0, .int .i64 (IntKind.i64.wrap (n - 1))] [.arr 1 rows true 0, .map [] [] 0, .arr 2 [.agg [.sl 0 0 m none m 1, .map 1]] true 2] = some (.bool false, [.arr 1 rows true 0, .map [] [] 0, .arr 2 [.agg [.sl 0 0 m none m 1, .map 1]] true 2])) : RunsTo Try.prog polV 29 (sub [1, 1, 0] B29) (env29 (.int .i64 n) (.imm .arg 2 lc) (.int .i64 x) (.imm .arg 1 rds) (.int .i64 0) (.ptr 2 0 0 1) (.bool true) .undef .undef .undef .undef .undef .undef .undef .undef .undef .undef .undef .undef .undef .undef .undef .undef) [.arr 1 rows true 0, .map [] [] 0, .arr 2 [.agg [.sl 0 0 m none m 1, .map 1]] true 2] (.ret) (polV.keys 29) (env29 (.int .i64 n) (.imm .arg 2 lc) (.int .i64 x) (.imm .arg 1 rds) (.int .i64 2) (.ptr 2 0 0 1) (.bool true) .undef .undef .undef .undef .undef .undef .undef .undef .undef .undef .undef .undef .undef .undef .undef .undef) [.arr 1 rows true 0, .map [] [] 0, .arr 2 [.agg [.sl 0 0 m none m 1, .map 1]] true 2] :=
  RunsTo.hint 1 60 [⟨2, 6, .bool false, [.arr 1 rows true 0, .map [] [] 0, .arr 2 [.agg [.sl 0 0 m none m 1, .map 1]] true 2]⟩] fun kf hk => by
    obtain ⟨kf, rfl⟩ : ∃ n, kf = n + 1 := ⟨kf - 1, by omega⟩
    exact ⟨[callN Try.prog polV (kf + 1) 49 [.int .i64 x, .int .i64 0, .int .i64 (IntKind.i64.wrap (n - 1))] [.arr 1 rows true 0, .map [] [] 0, .arr 2 [.agg [.sl 0 0 m none m 1, .map 1]] true 2] = some (.bool false, [.arr 1 rows true 0, .map [] [] 0, .arr 2 [.agg [.sl 0 0 m none m 1, .map 1]] true 2])], by kernel_rfl, Obls.cons (g0 kf) Obls.nil⟩
theorem ck_cf_0 (n : Int) (lc : List HV) (x : Int) (rds : List HV) (m : Nat) (rows : List HV)   : RunsTo Try.prog polV 29 (sub [1, 1, 0] B29) (env29 (.int .i64 n) (.imm .arg 2 lc) (.int .i64 x) (.imm .arg 1 rds) (.int .i64 0) (.ptr 2 0 0 1) (.bool false) .undef .undef .undef .undef .undef .undef .undef .undef .undef .undef .undef .undef .undef .undef .undef .undef) [.arr 1 rows true 0, .map [] [] 0, .arr 2 [.agg [.sl 0 0 m none m 1, .map 1]] true 2] (.ret) (polV.keys 29) (env29 (.int .i64 n) (.imm .arg 2 lc) (.int .i64 x) (.imm .arg 1 rds) (.int .i64 2) (.ptr 2 0 0 1) (.bool false) .undef .undef .undef .undef .undef .undef .undef .undef .undef .undef .undef .undef .undef .undef .undef .undef) [.arr 1 rows true 0, .map [] [] 0, .arr 2 [.agg [.sl 0 0 m none m 1, .map 1]] true 2] :=
  RunsTo.hint 1 60 [] fun kf hk => by
    obtain ⟨kf, rfl⟩ : ∃ n, kf = n + 1 := ⟨kf - 1, by omega⟩
    exact ⟨[], by kernel_rfl, Obls.nil⟩
theorem ck_cb_0 (n : Int) (lc : List HV) (x : Int) (rds : List HV)   : RunsTo Try.prog polV 29 (sub [1, 1, 0] B29) (env29 (.int .i64 n) (.imm .arg 2 lc) (.int .i64 x) (.imm .arg 1 rds) (.int .i64 0) (.ptr 1 0 0 1) (.bool false) .undef .undef .undef .undef .undef .undef .undef .undef .undef .undef .undef .undef .undef .undef .undef .undef) [.arr 0 [] true 0, .arr 2 [.agg [.sl 0 0 0 none 0 0, .nilmap]] true 1] (.ret) (polV.keys 29) (env29 (.int .i64 n) (.imm .arg 2 lc) (.int .i64 x) (.imm .arg 1 rds) (.int .i64 2) (.ptr 1 0 0 1) (.bool false) .undef .undef .undef .undef .undef .undef .undef .undef .undef .undef .undef .undef .undef .undef .undef .undef) [.arr 0 [] true 0, .arr 2 [.agg [.sl 0 0 0 none 0 0, .nilmap]] true 1] :=
  RunsTo.hint 1 60 [] fun kf hk => by
    obtain ⟨kf, rfl⟩ : ∃ n, kf = n + 1 := ⟨kf - 1, by omega⟩
    exact ⟨[], by kernel_rfl, Obls.nil⟩
theorem ck_d_0 (n : Int) (lc : List HV) (x : Int) (rds : List HV) (H : Heap) (kb : Nat) (H0 : Heap) (H1 : Heap) (g0 : some (HV.map H.length, H ++ [Blk.map [] [] 0]) = some (.map kb, H0)) (g1 : updV Try.prog false 79 (.map kb) (.int .i64 x) (.bool true) H0 = some H1) : RunsTo Try.prog polV 29 (sub [1, 1, 1, 0] B29) (env29 (.int .i64 n) (.imm .arg 2 lc) (.int .i64 x) (.imm .arg 1 rds) (.int .i64 0) (.ptr 2 0 0 1) (.bool true) .undef .undef .undef .undef .undef .undef .undef .undef .undef .undef .undef .undef .undef .undef .undef .undef) H (.normal) (polV.keys 29) (env29 (.int .i64 n) (.imm .arg 2 lc) (.int .i64 x) (.imm .arg 1 rds) (.int .i64 0) (.ptr 2 0 0 1) (.bool true) (.map kb) .undef .undef .undef .undef .undef .undef .undef .undef .undef .undef .undef .undef .undef .undef .undef) H1 :=
  RunsTo.hint 1 60 [⟨4, 0, .map kb, H0⟩, ⟨4, 2, .tuple [], H1⟩] fun kf hk => by
    obtain ⟨kf, rfl⟩ : ∃ n, kf = n + 1 := ⟨kf - 1, by omega⟩
    exact ⟨[some (HV.map H.length, H ++ [Blk.map [] [] 0]) = some (.map kb, H0), (updV Try.prog false 79 (.map kb) (.int .i64 x) (.bool true) H0).map (fun H => (HV.tuple [], H)) = some (.tuple [], H1)], by kernel_rfl, Obls.cons (g0) (Obls.cons (hintSt g1) Obls.nil)⟩
theorem ck_e_0 (n : Int) (lc : List HV) (x : Int) (rds : List HV) (H : Heap) (kb : Nat)   : RunsTo Try.prog polV 29 (sub [1, 1, 1, 1, 0, 0] B29) (env29 (.int .i64 n) (.imm .arg 2 lc) (.int .i64 x) (.imm .arg 1 rds) (.int .i64 0) (.ptr 2 0 0 1) (.bool true) (.map kb) .undef .undef .undef .undef .undef .undef .undef .undef .undef .undef .undef .undef .undef .undef .undef) H (.normal) (polV.keys 29) (env29 (.int .i64 n) (.imm .arg 2 lc) (.int .i64 x) (.imm .arg 1 rds) (.int .i64 0) (.ptr 2 0 0 1) (.bool true) (.map kb) .undef .undef .undef .undef .undef .undef (.imm .arg 1 rds) (.int .i64 (rds.length : Int)) (.int .i64 0) .undef .undef .undef .undef .undef .undef) H :=
  RunsTo.hint 1 60 [] fun kf hk => by
    obtain ⟨kf, rfl⟩ : ∃ n, kf = n + 1 := ⟨kf - 1, by omega⟩
    exact ⟨[], by kernel_rfl, Obls.nil⟩
theorem ck_f_0 (n : Int) (lc : List HV) (x : Int) (rds : List HV) (H : Heap) (kb : Nat) (i : Nat)  (g0 : (i : Int) < (rds.length : Int)) : RunsTo Try.prog polV 29 (sub [1, 1, 1, 1, 0, 1, 0, 0, 0] B29) (env29 (.int .i64 n) (.imm .arg 2 lc) (.int .i64 x) (.imm .arg 1 rds) (.int .i64 0) (.ptr 2 0 0 1) .undef (.map kb) .undef .undef .undef .undef .undef .undef (.imm .arg 1 rds) (.int .i64 (rds.length : Int)) (.int .i64 (i : Int)) .undef .undef .undef .undef .undef .undef) H (.normal) [0, 1, 2, 3, 8, 9, 10, 11, 13, 14, 16, 17, 18, 20, 39, 40, 41, 46, 47, 48, 97, 98, 99, 42] [(0, .int .i64 n), (1, .imm .arg 2 lc), (2, .int .i64 x), (3, .imm .arg 1 rds), (8, .int .i64 0), (9, .ptr 2 0 0 1), (10, .undef), (11, .map kb), (13, .undef), (14, .undef), (16, .undef), (17, .undef), (18, .undef), (20, .undef), (39, .imm .arg 1 rds), (40, .int .i64 (rds.length : Int)), (41, .int .i64 (i : Int)), (46, .undef), (47, .undef), (48, .undef), (97, .undef), (98, .undef), (99, .undef), (42, .bool true)] H :=
  RunsTo.hint 1 60 [⟨6, 0, .bool true, H⟩] fun kf hk => by
    obtain ⟨kf, rfl⟩ : ∃ n, kf = n + 1 := ⟨kf - 1, by omega⟩
    exact ⟨[some (HV.bool (decide ((i : Int) < (rds.length : Int))), (H : Heap)) = some (.bool true, H)], by kernel_rfl, Obls.cons (hintB (decide_eq_true g0)) Obls.nil⟩
theorem ck_f_1 (n : Int) (lc : List HV) (x : Int) (rds : List HV) (H : Heap) (kb : Nat) (i : Nat)  (g0 : ¬ ((i : Int) < (rds.length : Int))) : RunsTo Try.prog polV 29 (sub [1, 1, 1, 1, 0, 1, 0, 0, 0] B29) (env29 (.int .i64 n) (.imm .arg 2 lc) (.int .i64 x) (.imm .arg 1 rds) (.int .i64 0) (.ptr 2 0 0 1) .undef (.map kb) .undef .undef .undef .undef .undef .undef (.imm .arg 1 rds) (.int .i64 (rds.length : Int)) (.int .i64 (i : Int)) .undef .undef .undef .undef .undef .undef) H (.normal) [0, 1, 2, 3, 8, 9, 10, 11, 13, 14, 16, 17, 18, 20, 39, 40, 41, 46, 47, 48, 97, 98, 99, 42] [(0, .int .i64 n), (1, .imm .arg 2 lc), (2, .int .i64 x), (3, .imm .arg 1 rds), (8, .int .i64 0), (9, .ptr 2 0 0 1), (10, .undef), (11, .map kb), (13, .undef), (14, .undef), (16, .undef), (17, .undef), (18, .undef), (20, .undef), (39, .imm .arg 1 rds), (40, .int .i64 (rds.length : Int)), (41, .int .i64 (i : Int)), (46, .undef), (47, .undef), (48, .undef), (97, .undef), (98, .undef), (99, .undef), (42, .bool false)] H :=
  RunsTo.hint 1 60 [⟨6, 0, .bool false, H⟩] fun kf hk => by
    obtain ⟨kf, rfl⟩ : ∃ n, kf = n + 1 := ⟨kf - 1, by omega⟩
    exact ⟨[some (HV.bool (decide ((i : Int) < (rds.length : Int))), (H : Heap)) = some (.bool false, H)], by kernel_rfl, Obls.cons (hintB (decide_eq_false g0)) Obls.nil⟩
theorem ck_g_0 (n : Int) (lc : List HV) (x : Int) (rds : List HV) (H : Heap) (kb : Nat) (i : Nat)   : RunsTo Try.prog polV 29 (sub [1, 1, 1, 1, 0, 1, 0, 0, 1, 0] B29) [(0, .int .i64 n), (1, .imm .arg 2 lc), (2, .int .i64 x), (3, .imm .arg 1 rds), (8, .int .i64 0), (9, .ptr 2 0 0 1), (10, .undef), (11, .map kb), (13, .undef), (14, .undef), (16, .undef), (17, .undef), (18, .undef), (20, .undef), (39, .imm .arg 1 rds), (40, .int .i64 (rds.length : Int)), (41, .int .i64 (i : Int)), (46, .undef), (47, .undef), (48, .undef), (97, .undef), (98, .undef), (99, .undef), (42, .bool true)] H (.normal) (polV.keys 29) (env29 (.int .i64 n) (.imm .arg 2 lc) (.int .i64 x) (.imm .arg 1 rds) (.int .i64 0) (.ptr 2 0 0 1) .undef (.map kb) .undef .undef .undef .undef .undef .undef (.imm .arg 1 rds) (.int .i64 (rds.length : Int)) (.int .i64 (i : Int)) .undef .undef .undef .undef .undef .undef) H :=
  RunsTo.hint 1 60 [] fun kf hk => by
    obtain ⟨kf, rfl⟩ : ∃ n, kf = n + 1 := ⟨kf - 1, by omega⟩
    exact ⟨[], by kernel_rfl, Obls.nil⟩
theorem ck_h_0 (n : Int) (lc : List HV) (x : Int) (rds : List HV) (H : Heap) (kb : Nat) (i : Nat)   : RunsTo Try.prog polV 29 (sub [1, 1, 1, 1, 0, 1, 0, 0, 1, 0] B29) [(0, .int .i64 n), (1, .imm .arg 2 lc), (2, .int .i64 x), (3, .imm .arg 1 rds), (8, .int .i64 0), (9, .ptr 2 0 0 1), (10, .undef), (11, .map kb), (13, .undef), (14, .undef), (16, .undef), (17, .undef), (18, .undef), (20, .undef), (39, .imm .arg 1 rds), (40, .int .i64 (rds.length : Int)), (41, .int .i64 (i : Int)), (46, .undef), (47, .undef), (48, .undef), (97, .undef), (98, .undef), (99, .undef), (42, .bool false)] H (.exit 0) (polV.keys 29) (env29 (.int .i64 n) (.imm .arg 2 lc) (.int .i64 x) (.imm .arg 1 rds) (.int .i64 0) (.ptr 2 0 0 1) .undef (.map kb) .undef .undef .undef .undef .undef .undef (.imm .arg 1 rds) (.int .i64 (rds.length : Int)) (.int .i64 (i : Int)) .undef .undef .undef .undef .undef .undef) H :=
  RunsTo.hint 1 60 [] fun kf hk => by
    obtain ⟨kf, rfl⟩ : ∃ n, kf = n + 1 := ⟨kf - 1, by omega⟩
    exact ⟨[], by kernel_rfl, Obls.nil⟩
theorem ck_i_0 (n : Int) (lc : List HV) (x : Int) (rds : List HV) (H : Heap) (kb : Nat) (i : Nat) (l0 : List HV) (g0 : idxV Try.prog 44 (.imm .arg 1 rds) (.int .i64 (i : Int)) = some (.vptr (.imm .arg 2 l0))) : RunsTo Try.prog polV 29 (sub [1, 1, 1, 1, 0, 1, 0, 0, 1, 1, 0, 0, 0] B29) (env29 (.int .i64 n) (.imm .arg 2 lc) (.int .i64 x) (.imm .arg 1 rds) (.int .i64 0) (.ptr 2 0 0 1) .undef (.map kb) .undef .undef .undef .undef .undef .undef (.imm .arg 1 rds) (.int .i64 (rds.length : Int)) (.int .i64 (i : Int)) .undef .undef .undef .undef .undef .undef) H (.normal) (polV.keys 29) (env29 (.int .i64 n) (.imm .arg 2 lc) (.int .i64 x) (.imm .arg 1 rds) (.int .i64 0) (.ptr 2 0 0 1) .undef (.map kb) (.imm .arg 2 l0) .undef .undef .undef .undef .undef (.imm .arg 1 rds) (.int .i64 (rds.length : Int)) (.int .i64 (i : Int)) .undef .undef .undef .undef .undef .undef) H :=
  RunsTo.hint 1 60 [⟨7, 0, .vptr (.imm .arg 2 l0), H⟩] fun kf hk => by
    obtain ⟨kf, rfl⟩ : ∃ n, kf = n + 1 := ⟨kf - 1, by omega⟩
    exact ⟨[(idxV Try.prog 44 (.imm .arg 1 rds) (.int .i64 (i : Int))).map (fun v => (v, (H : Heap))) = some (.vptr (.imm .arg 2 l0), H)], by kernel_rfl, Obls.cons (hintOp g0) Obls.nil⟩
theorem ck_j_0 (n : Int) (lc : List HV) (x : Int) (rds : List HV) (H : Heap) (kb : Nat) (i : Nat) (r : List HV) (bb : Nat) (H0 : Heap) (g0 : some (HV.map H.length, H ++ [Blk.map [] [] 0]) = some (.map bb, H0)) : RunsTo Try.prog polV 29 (sub [1, 1, 1, 1, 0, 1, 0, 0, 1, 1, 0, 0, 1, 0] B29) (env29 (.int .i64 n) (.imm .arg 2 lc) (.int .i64 x) (.imm .arg 1 rds) (.int .i64 0) (.ptr 2 0 0 1) .undef (.map kb) (.imm .arg 2 r) .undef .undef .undef .undef .undef (.imm .arg 1 rds) (.int .i64 (rds.length : Int)) (.int .i64 (i : Int)) .undef .undef .undef .undef .undef .undef) H (.normal) (polV.keys 29) (env29 (.int .i64 n) (.imm .arg 2 lc) (.int .i64 x) (.imm .arg 1 rds) (.int .i64 0) (.ptr 2 0 0 1) .undef (.map kb) (.imm .arg 2 r) (.map bb) .undef .undef .undef .undef (.imm .arg 1 rds) (.int .i64 (rds.length : Int)) (.int .i64 (i : Int)) .undef .undef .undef .undef .undef .undef) H0 :=
  RunsTo.hint 1 60 [⟨8, 0, .map bb, H0⟩] fun kf hk => by
    obtain ⟨kf, rfl⟩ : ∃ n, kf = n + 1 := ⟨kf - 1, by omega⟩
    exact ⟨[some (HV.map H.length, H ++ [Blk.map [] [] 0]) = some (.map bb, H0)], by kernel_rfl, Obls.cons (g0) Obls.nil⟩
theorem ck_k_0 (n : Int) (lc : List HV) (x : Int) (rds : List HV) (H : Heap) (kb : Nat) (i : Nat) (r : List HV) (bb : Nat)   : RunsTo Try.prog polV 29 (sub [1, 1, 1, 1, 0, 1, 0, 0, 1, 1, 0, 0, 1, 1, 0, 0] B29) (env29 (.int .i64 n) (.imm .arg 2 lc) (.int .i64 x) (.imm .arg 1 rds) (.int .i64 0) (.ptr 2 0 0 1) .undef (.map kb) (.imm .arg 2 r) (.map bb) .undef .undef .undef .undef (.imm .arg 1 rds) (.int .i64 (rds.length : Int)) (.int .i64 (i : Int)) .undef .undef .undef .undef .undef .undef) H (.normal) (polV.keys 29) (env29 (.int .i64 n) (.imm .arg 2 lc) (.int .i64 x) (.imm .arg 1 rds) (.int .i64 0) (.ptr 2 0 0 1) .undef (.map kb) (.imm .arg 2 r) (.map bb) .undef .undef .undef .undef (.imm .arg 1 rds) (.int .i64 (rds.length : Int)) (.int .i64 (i : Int)) (.imm .arg 2 r) (.int .i64 (r.length : Int)) (.int .i64 0) .undef .undef .undef) H :=
  RunsTo.hint 1 60 [] fun kf hk => by
    obtain ⟨kf, rfl⟩ : ∃ n, kf = n + 1 := ⟨kf - 1, by omega⟩
    exact ⟨[], by kernel_rfl, Obls.nil⟩
theorem ck_l_0 (n : Int) (lc : List HV) (x : Int) (rds : List HV) (H : Heap) (kb : Nat) (i : Nat) (r : List HV) (bb : Nat) (j : Nat) (m : Nat) (x0 : Int) (x1 : Int) (a0 : HV) (H0 : Heap) (H1 : Heap) (a1 : HV) (x2 : Int) (a2 : HV) (x3 : Int) (H2 : Heap) (v0 : HV) (H3 : Heap) (g0 : (j : Int) < (r.length : Int)) (g1 : idxV Try.prog 22 (.imm .arg 2 r) (.int .i64 (j : Int)) = some (.vptr (.agg [.int .i64 x0, .int .i64 x1]))) (g2 : some (newV (.agg [.int .i64 0, .int .i64 0]) H) = some (a0, H0)) (g3 : storeV Try.prog H0 33 (a0) (.agg [.int .i64 x0, .int .i64 x1]) = some H1) (g4 : idxV Try.prog 33 a0 (.int .i64 0) = some (a1)) (g5 : loadV Try.prog H1 3 (a1) = some (.int .i64 x2)) (g6 : idxV Try.prog 33 a0 (.int .i64 1) = some (a2)) (g7 : loadV Try.prog H1 3 (a2) = some (.int .i64 x3)) (g8 : ∀ kf, callN Try.prog polV (kf + 1) 49 [.int .i64 x2, .int .i64 0, .int .i64 (IntKind.i64.wrap (n - 1))] H1 = some (.bool true, H2)) (g9 : loadV Try.prog H2 55 (.ptr 2 0 0 1) = some (.sl 0 0 m none m 1)) (g10 : idxV Try.prog 55 (.sl 0 0 m none m 1) (.int .i64 x2) = some (.ptr 0 ((x2).toNat) 0 m)) (g11 : loadV Try.prog H2 24 (.ptr 0 ((x2).toNat) 0 m) = some (v0)) (g12 : ∀ kf, callN Try.prog polV (kf + 1) 52 [v0, .int .i64 x3] H2 = some (.bool true, H3)) (g13 : lkH Try.prog 79 H3 kb (.int .i64 x2) = some (.bool true, H3)) (g14 : lkH Try.prog 79 H3 kb (.int .i64 x3) = some (.bool true, H3)) : RunsTo Try.prog polV 29 (sub [1, 1, 1, 1, 0, 1, 0, 0, 1, 1, 0, 0, 1, 1, 0, 1, 0, 0] B29) (env29 (.int .i64 n) (.imm .arg 2 lc) (.int .i64 x) (.imm .arg 1 rds) (.int .i64 0) (.ptr 2 0 0 1) .undef (.map kb) (.imm .arg 2 r) (.map bb) .undef .undef .undef .undef (.imm .arg 1 rds) (.int .i64 (rds.length : Int)) (.int .i64 (i : Int)) (.imm .arg 2 r) (.int .i64 (r.length : Int)) (.int .i64 (j : Int)) .undef .undef .undef) H (.ret) (polV.keys 29) (env29 (.int .i64 n) (.imm .arg 2 lc) (.int .i64 x) (.imm .arg 1 rds) (.int .i64 10) (.ptr 2 0 0 1) .undef (.map kb) (.imm .arg 2 r) (.map bb) a0 (.int .i64 x2) (.int .i64 x3) .undef (.imm .arg 1 rds) (.int .i64 (rds.length : Int)) (.int .i64 (i : Int)) (.imm .arg 2 r) (.int .i64 (r.length : Int)) (.int .i64 (j : Int)) .undef .undef .undef) H3 :=
  RunsTo.hint 1 60 [⟨10, 0, .bool true, H⟩, ⟨11, 0, .vptr (.agg [.int .i64 x0, .int .i64 x1]), H⟩, ⟨11, 2, a0, H0⟩, ⟨11, 3, .tuple [], H1⟩, ⟨12, 0, a1, H1⟩, ⟨12, 1, .int .i64 x2, H1⟩, ⟨12, 2, a2, H1⟩, ⟨12, 3, .int .i64 x3, H1⟩, ⟨13, 3, .bool true, H2⟩, ⟨13, 7, .sl 0 0 m none m 1, H2⟩, ⟨13, 9, .ptr 0 ((x2).toNat) 0 m, H2⟩, ⟨13, 10, v0, H2⟩, ⟨13, 12, .bool true, H3⟩, ⟨13, 18, .bool true, H3⟩, ⟨13, 24, .bool true, H3⟩] fun kf hk => by
    obtain ⟨kf, rfl⟩ : ∃ n, kf = n + 1 := ⟨kf - 1, by omega⟩
    exact ⟨[some (HV.bool (decide ((j : Int) < (r.length : Int))), (H : Heap)) = some (.bool true, H), (idxV Try.prog 22 (.imm .arg 2 r) (.int .i64 (j : Int))).map (fun v => (v, (H : Heap))) = some (.vptr (.agg [.int .i64 x0, .int .i64 x1]), H), some (newV (.agg [.int .i64 0, .int .i64 0]) H) = some (a0, H0), (storeV Try.prog H0 33 (a0) (.agg [.int .i64 x0, .int .i64 x1])).map (fun H => (HV.tuple [], H)) = some (.tuple [], H1), (idxV Try.prog 33 a0 (.int .i64 0)).map (fun v => (v, (H1 : Heap))) = some (a1, H1), (loadV Try.prog H1 3 (a1)).map (fun v => (v, (H1 : Heap))) = some (.int .i64 x2, H1), (idxV Try.prog 33 a0 (.int .i64 1)).map (fun v => (v, (H1 : Heap))) = some (a2, H1), (loadV Try.prog H1 3 (a2)).map (fun v => (v, (H1 : Heap))) = some (.int .i64 x3, H1), callN Try.prog polV (kf + 1) 49 [.int .i64 x2, .int .i64 0, .int .i64 (IntKind.i64.wrap (n - 1))] H1 = some (.bool true, H2), (loadV Try.prog H2 55 (.ptr 2 0 0 1)).map (fun v => (v, (H2 : Heap))) = some (.sl 0 0 m none m 1, H2), (idxV Try.prog 55 (.sl 0 0 m none m 1) (.int .i64 x2)).map (fun v => (v, (H2 : Heap))) = some (.ptr 0 ((x2).toNat) 0 m, H2), (loadV Try.prog H2 24 (.ptr 0 ((x2).toNat) 0 m)).map (fun v => (v, (H2 : Heap))) = some (v0, H2), callN Try.prog polV (kf + 1) 52 [v0, .int .i64 x3] H2 = some (.bool true, H3), lkH Try.prog 79 H3 kb (.int .i64 x2) = some (.bool true, H3), lkH Try.prog 79 H3 kb (.int .i64 x3) = some (.bool true, H3)], by kernel_rfl, Obls.cons (hintB (decide_eq_true g0)) (Obls.cons (hintOp g1) (Obls.cons (g2) (Obls.cons (hintSt g3) (Obls.cons (hintOp g4) (Obls.cons (hintOp g5) (Obls.cons (hintOp g6) (Obls.cons (hintOp g7) (Obls.cons (g8 kf) (Obls.cons (hintOp g9) (Obls.cons (hintOp g10) (Obls.cons (hintOp g11) (Obls.cons (g12 kf) (Obls.cons (g13) (Obls.cons (g14) Obls.nil))))))))))))))⟩
theorem ck_l_1 (n : Int) (lc : List HV) (x : Int) (rds : List HV) (H : Heap) (kb : Nat) (i : Nat) (r : List HV) (bb : Nat) (j : Nat) (m : Nat) (x0 : Int) (x1 : Int) (a0 : HV) (H0 : Heap) (H1 : Heap) (a1 : HV) (x2 : Int) (a2 : HV) (x3 : Int) (H2 : Heap) (v0 : HV) (H3 : Heap) (g0 : (j : Int) < (r.length : Int)) (g1 : idxV Try.prog 22 (.imm .arg 2 r) (.int .i64 (j : Int)) = some (.vptr (.agg [.int .i64 x0, .int .i64 x1]))) (g2 : some (newV (.agg [.int .i64 0, .int .i64 0]) H) = some (a0, H0)) (g3 : storeV Try.prog H0 33 (a0) (.agg [.int .i64 x0, .int .i64 x1]) = some H1) (g4 : idxV Try.prog 33 a0 (.int .i64 0) = some (a1)) (g5 : loadV Try.prog H1 3 (a1) = some (.int .i64 x2)) (g6 : idxV Try.prog 33 a0 (.int .i64 1) = some (a2)) (g7 : loadV Try.prog H1 3 (a2) = some (.int .i64 x3)) (g8 : ∀ kf, callN Try.prog polV (kf + 1) 49 [.int .i64 x2, .int .i64 0, .int .i64 (IntKind.i64.wrap (n - 1))] H1 = some (.bool true, H2)) (g9 : loadV Try.prog H2 55 (.ptr 2 0 0 1) = some (.sl 0 0 m none m 1)) (g10 : idxV Try.prog 55 (.sl 0 0 m none m 1) (.int .i64 x2) = some (.ptr 0 ((x2).toNat) 0 m)) (g11 : loadV Try.prog H2 24 (.ptr 0 ((x2).toNat) 0 m) = some (v0)) (g12 : ∀ kf, callN Try.prog polV (kf + 1) 52 [v0, .int .i64 x3] H2 = some (.bool true, H3)) (g13 : lkH Try.prog 79 H3 kb (.int .i64 x2) = some (.bool true, H3)) (g14 : lkH Try.prog 79 H3 kb (.int .i64 x3) = some (.bool false, H3)) (g15 : lkH Try.prog 79 H3 bb (.int .i64 x2) = some (.bool true, H3)) : RunsTo Try.prog polV 29 (sub [1, 1, 1, 1, 0, 1, 0, 0, 1, 1, 0, 0, 1, 1, 0, 1, 0, 0] B29) (env29 (.int .i64 n) (.imm .arg 2 lc) (.int .i64 x) (.imm .arg 1 rds) (.int .i64 0) (.ptr 2 0 0 1) .undef (.map kb) (.imm .arg 2 r) (.map bb) .undef .undef .undef .undef (.imm .arg 1 rds) (.int .i64 (rds.length : Int)) (.int .i64 (i : Int)) (.imm .arg 2 r) (.int .i64 (r.length : Int)) (.int .i64 (j : Int)) .undef .undef .undef) H (.ret) (polV.keys 29) (env29 (.int .i64 n) (.imm .arg 2 lc) (.int .i64 x) (.imm .arg 1 rds) (.int .i64 10) (.ptr 2 0 0 1) .undef (.map kb) (.imm .arg 2 r) (.map bb) a0 (.int .i64 x2) (.int .i64 x3) .undef (.imm .arg 1 rds) (.int .i64 (rds.length : Int)) (.int .i64 (i : Int)) (.imm .arg 2 r) (.int .i64 (r.length : Int)) (.int .i64 (j : Int)) .undef .undef .undef) H3 :=
  RunsTo.hint 1 60 [⟨10, 0, .bool true, H⟩, ⟨11, 0, .vptr (.agg [.int .i64 x0, .int .i64 x1]), H⟩, ⟨11, 2, a0, H0⟩, ⟨11, 3, .tuple [], H1⟩, ⟨12, 0, a1, H1⟩, ⟨12, 1, .int .i64 x2, H1⟩, ⟨12, 2, a2, H1⟩, ⟨12, 3, .int .i64 x3, H1⟩, ⟨13, 3, .bool true, H2⟩, ⟨13, 7, .sl 0 0 m none m 1, H2⟩, ⟨13, 9, .ptr 0 ((x2).toNat) 0 m, H2⟩, ⟨13, 10, v0, H2⟩, ⟨13, 12, .bool true, H3⟩, ⟨13, 18, .bool true, H3⟩, ⟨13, 24, .bool false, H3⟩, ⟨13, 29, .bool true, H3⟩] fun kf hk => by
    obtain ⟨kf, rfl⟩ : ∃ n, kf = n + 1 := ⟨kf - 1, by omega⟩
    exact ⟨[some (HV.bool (decide ((j : Int) < (r.length : Int))), (H : Heap)) = some (.bool true, H), (idxV Try.prog 22 (.imm .arg 2 r) (.int .i64 (j : Int))).map (fun v => (v, (H : Heap))) = some (.vptr (.agg [.int .i64 x0, .int .i64 x1]), H), some (newV (.agg [.int .i64 0, .int .i64 0]) H) = some (a0, H0), (storeV Try.prog H0 33 (a0) (.agg [.int .i64 x0, .int .i64 x1])).map (fun H => (HV.tuple [], H)) = some (.tuple [], H1), (idxV Try.prog 33 a0 (.int .i64 0)).map (fun v => (v, (H1 : Heap))) = some (a1, H1), (loadV Try.prog H1 3 (a1)).map (fun v => (v, (H1 : Heap))) = some (.int .i64 x2, H1), (idxV Try.prog 33 a0 (.int .i64 1)).map (fun v => (v, (H1 : Heap))) = some (a2, H1), (loadV Try.prog H1 3 (a2)).map (fun v => (v, (H1 : Heap))) = some (.int .i64 x3, H1), callN Try.prog polV (kf + 1) 49 [.int .i64 x2, .int .i64 0, .int .i64 (IntKind.i64.wrap (n - 1))] H1 = some (.bool true, H2), (loadV Try.prog H2 55 (.ptr 2 0 0 1)).map (fun v => (v, (H2 : Heap))) = some (.sl 0 0 m none m 1, H2), (idxV Try.prog 55 (.sl 0 0 m none m 1) (.int .i64 x2)).map (fun v => (v, (H2 : Heap))) = some (.ptr 0 ((x2).toNat) 0 m, H2), (loadV Try.prog H2 24 (.ptr 0 ((x2).toNat) 0 m)).map (fun v => (v, (H2 : Heap))) = some (v0, H2), callN Try.prog polV (kf + 1) 52 [v0, .int .i64 x3] H2 = some (.bool true, H3), lkH Try.prog 79 H3 kb (.int .i64 x2) = some (.bool true, H3), lkH Try.prog 79 H3 kb (.int .i64 x3) = some (.bool false, H3), lkH Try.prog 79 H3 bb (.int .i64 x2) = some (.bool true, H3)], by kernel_rfl, Obls.cons (hintB (decide_eq_true g0)) (Obls.cons (hintOp g1) (Obls.cons (g2) (Obls.cons (hintSt g3) (Obls.cons (hintOp g4) (Obls.cons (hintOp g5) (Obls.cons (hintOp g6) (Obls.cons (hintOp g7) (Obls.cons (g8 kf) (Obls.cons (hintOp g9) (Obls.cons (hintOp g10) (Obls.cons (hintOp g11) (Obls.cons (g12 kf) (Obls.cons (g13) (Obls.cons (g14) (Obls.cons (g15) Obls.nil)))))))))))))))⟩
theorem ck_l_2 (n : Int) (lc : List HV) (x : Int) (rds : List HV) (H : Heap) (kb : Nat) (i : Nat) (r : List HV) (bb : Nat) (j : Nat) (m : Nat) (x0 : Int) (x1 : Int) (a0 : HV) (H0 : Heap) (H1 : Heap) (a1 : HV) (x2 : Int) (a2 : HV) (x3 : Int) (H2 : Heap) (v0 : HV) (H3 : Heap) (g0 : (j : Int) < (r.length : Int)) (g1 : idxV Try.prog 22 (.imm .arg 2 r) (.int .i64 (j : Int)) = some (.vptr (.agg [.int .i64 x0, .int .i64 x1]))) (g2 : some (newV (.agg [.int .i64 0, .int .i64 0]) H) = some (a0, H0)) (g3 : storeV Try.prog H0 33 (a0) (.agg [.int .i64 x0, .int .i64 x1]) = some H1) (g4 : idxV Try.prog 33 a0 (.int .i64 0) = some (a1)) (g5 : loadV Try.prog H1 3 (a1) = some (.int .i64 x2)) (g6 : idxV Try.prog 33 a0 (.int .i64 1) = some (a2)) (g7 : loadV Try.prog H1 3 (a2) = some (.int .i64 x3)) (g8 : ∀ kf, callN Try.prog polV (kf + 1) 49 [.int .i64 x2, .int .i64 0, .int .i64 (IntKind.i64.wrap (n - 1))] H1 = some (.bool true, H2)) (g9 : loadV Try.prog H2 55 (.ptr 2 0 0 1) = some (.sl 0 0 m none m 1)) (g10 : idxV Try.prog 55 (.sl 0 0 m none m 1) (.int .i64 x2) = some (.ptr 0 ((x2).toNat) 0 m)) (g11 : loadV Try.prog H2 24 (.ptr 0 ((x2).toNat) 0 m) = some (v0)) (g12 : ∀ kf, callN Try.prog polV (kf + 1) 52 [v0, .int .i64 x3] H2 = some (.bool true, H3)) (g13 : lkH Try.prog 79 H3 kb (.int .i64 x2) = some (.bool true, H3)) (g14 : lkH Try.prog 79 H3 kb (.int .i64 x3) = some (.bool false, H3)) (g15 : lkH Try.prog 79 H3 bb (.int .i64 x2) = some (.bool false, H3)) (g16 : lkH Try.prog 79 H3 bb (.int .i64 x3) = some (.bool true, H3)) : RunsTo Try.prog polV 29 (sub [1, 1, 1, 1, 0, 1, 0, 0, 1, 1, 0, 0, 1, 1, 0, 1, 0, 0] B29) (env29 (.int .i64 n) (.imm .arg 2 lc) (.int .i64 x) (.imm .arg 1 rds) (.int .i64 0) (.ptr 2 0 0 1) .undef (.map kb) (.imm .arg 2 r) (.map bb) .undef .undef .undef .undef (.imm .arg 1 rds) (.int .i64 (rds.length : Int)) (.int .i64 (i : Int)) (.imm .arg 2 r) (.int .i64 (r.length : Int)) (.int .i64 (j : Int)) .undef .undef .undef) H (.ret) (polV.keys 29) (env29 (.int .i64 n) (.imm .arg 2 lc) (.int .i64 x) (.imm .arg 1 rds) (.int .i64 10) (.ptr 2 0 0 1) .undef (.map kb) (.imm .arg 2 r) (.map bb) a0 (.int .i64 x2) (.int .i64 x3) .undef (.imm .arg 1 rds) (.int .i64 (rds.length : Int)) (.int .i64 (i : Int)) (.imm .arg 2 r) (.int .i64 (r.length : Int)) (.int .i64 (j : Int)) .undef .undef .undef) H3 :=
  RunsTo.hint 1 60 [⟨10, 0, .bool true, H⟩, ⟨11, 0, .vptr (.agg [.int .i64 x0, .int .i64 x1]), H⟩, ⟨11, 2, a0, H0⟩, ⟨11, 3, .tuple [], H1⟩, ⟨12, 0, a1, H1⟩, ⟨12, 1, .int .i64 x2, H1⟩, ⟨12, 2, a2, H1⟩, ⟨12, 3, .int .i64 x3, H1⟩, ⟨13, 3, .bool true, H2⟩, ⟨13, 7, .sl 0 0 m none m 1, H2⟩, ⟨13, 9, .ptr 0 ((x2).toNat) 0 m, H2⟩, ⟨13, 10, v0, H2⟩, ⟨13, 12, .bool true, H3⟩, ⟨13, 18, .bool true, H3⟩, ⟨13, 24, .bool false, H3⟩, ⟨13, 29, .bool false, H3⟩, ⟨13, 34, .bool true, H3⟩] fun kf hk => by
    obtain ⟨kf, rfl⟩ : ∃ n, kf = n + 1 := ⟨kf - 1, by omega⟩
    exact ⟨[some (HV.bool (decide ((j : Int) < (r.length : Int))), (H : Heap)) = some (.bool true, H), (idxV Try.prog 22 (.imm .arg 2 r) (.int .i64 (j : Int))).map (fun v => (v, (H : Heap))) = some (.vptr (.agg [.int .i64 x0, .int .i64 x1]), H), some (newV (.agg [.int .i64 0, .int .i64 0]) H) = some (a0, H0), (storeV Try.prog H0 33 (a0) (.agg [.int .i64 x0, .int .i64 x1])).map (fun H => (HV.tuple [], H)) = some (.tuple [], H1), (idxV Try.prog 33 a0 (.int .i64 0)).map (fun v => (v, (H1 : Heap))) = some (a1, H1), (loadV Try.prog H1 3 (a1)).map (fun v => (v, (H1 : Heap))) = some (.int .i64 x2, H1), (idxV Try.prog 33 a0 (.int .i64 1)).map (fun v => (v, (H1 : Heap))) = some (a2, H1), (loadV Try.prog H1 3 (a2)).map (fun v => (v, (H1 : Heap))) = some (.int .i64 x3, H1), callN Try.prog polV (kf + 1) 49 [.int .i64 x2, .int .i64 0, .int .i64 (IntKind.i64.wrap (n - 1))] H1 = some (.bool true, H2), (loadV Try.prog H2 55 (.ptr 2 0 0 1)).map (fun v => (v, (H2 : Heap))) = some (.sl 0 0 m none m 1, H2), (idxV Try.prog 55 (.sl 0 0 m none m 1) (.int .i64 x2)).map (fun v => (v, (H2 : Heap))) = some (.ptr 0 ((x2).toNat) 0 m, H2), (loadV Try.prog H2 24 (.ptr 0 ((x2).toNat) 0 m)).map (fun v => (v, (H2 : Heap))) = some (v0, H2), callN Try.prog polV (kf + 1) 52 [v0, .int .i64 x3] H2 = some (.bool true, H3), lkH Try.prog 79 H3 kb (.int .i64 x2) = some (.bool true, H3), lkH Try.prog 79 H3 kb (.int .i64 x3) = some (.bool false, H3), lkH Try.prog 79 H3 bb (.int .i64 x2) = some (.bool false, H3), lkH Try.prog 79 H3 bb (.int .i64 x3) = some (.bool true, H3)], by kernel_rfl, Obls.cons (hintB (decide_eq_true g0)) (Obls.cons (hintOp g1) (Obls.cons (g2) (Obls.cons (hintSt g3) (Obls.cons (hintOp g4) (Obls.cons (hintOp g5) (Obls.cons (hintOp g6) (Obls.cons (hintOp g7) (Obls.cons (g8 kf) (Obls.cons (hintOp g9) (Obls.cons (hintOp g10) (Obls.cons (hintOp g11) (Obls.cons (g12 kf) (Obls.cons (g13) (Obls.cons (g14) (Obls.cons (g15) (Obls.cons (g16) Obls.nil))))))))))))))))⟩
theorem ck_l_3 (n : Int) (lc : List HV) (x : Int) (rds : List HV) (H : Heap) (kb : Nat) (i : Nat) (r : List HV) (bb : Nat) (j : Nat) (m : Nat) (x0 : Int) (x1 : Int) (a0 : HV) (H0 : Heap) (H1 : Heap) (a1 : HV) (x2 : Int) (a2 : HV) (x3 : Int) (H2 : Heap) (v0 : HV) (H3 : Heap) (H4 : Heap) (H5 : Heap) (g0 : (j : Int) < (r.length : Int)) (g1 : idxV Try.prog 22 (.imm .arg 2 r) (.int .i64 (j : Int)) = some (.vptr (.agg [.int .i64 x0, .int .i64 x1]))) (g2 : some (newV (.agg [.int .i64 0, .int .i64 0]) H) = some (a0, H0)) (g3 : storeV Try.prog H0 33 (a0) (.agg [.int .i64 x0, .int .i64 x1]) = some H1) (g4 : idxV Try.prog 33 a0 (.int .i64 0) = some (a1)) (g5 : loadV Try.prog H1 3 (a1) = some (.int .i64 x2)) (g6 : idxV Try.prog 33 a0 (.int .i64 1) = some (a2)) (g7 : loadV Try.prog H1 3 (a2) = some (.int .i64 x3)) (g8 : ∀ kf, callN Try.prog polV (kf + 1) 49 [.int .i64 x2, .int .i64 0, .int .i64 (IntKind.i64.wrap (n - 1))] H1 = some (.bool true, H2)) (g9 : loadV Try.prog H2 55 (.ptr 2 0 0 1) = some (.sl 0 0 m none m 1)) (g10 : idxV Try.prog 55 (.sl 0 0 m none m 1) (.int .i64 x2) = some (.ptr 0 ((x2).toNat) 0 m)) (g11 : loadV Try.prog H2 24 (.ptr 0 ((x2).toNat) 0 m) = some (v0)) (g12 : ∀ kf, callN Try.prog polV (kf + 1) 52 [v0, .int .i64 x3] H2 = some (.bool true, H3)) (g13 : lkH Try.prog 79 H3 kb (.int .i64 x2) = some (.bool true, H3)) (g14 : lkH Try.prog 79 H3 kb (.int .i64 x3) = some (.bool false, H3)) (g15 : lkH Try.prog 79 H3 bb (.int .i64 x2) = some (.bool false, H3)) (g16 : lkH Try.prog 79 H3 bb (.int .i64 x3) = some (.bool false, H3)) (g17 : updV Try.prog false 79 (.map bb) (.int .i64 x2) (.bool true) H3 = some H4) (g18 : updV Try.prog false 79 (.map bb) (.int .i64 x3) (.bool true) H4 = some H5) : RunsTo Try.prog polV 29 (sub [1, 1, 1, 1, 0, 1, 0, 0, 1, 1, 0, 0, 1, 1, 0, 1, 0, 0] B29) (env29 (.int .i64 n) (.imm .arg 2 lc) (.int .i64 x) (.imm .arg 1 rds) (.int .i64 0) (.ptr 2 0 0 1) .undef (.map kb) (.imm .arg 2 r) (.map bb) .undef .undef .undef .undef (.imm .arg 1 rds) (.int .i64 (rds.length : Int)) (.int .i64 (i : Int)) (.imm .arg 2 r) (.int .i64 (r.length : Int)) (.int .i64 (j : Int)) .undef .undef .undef) H (.normal) (polV.keys 29) (env29 (.int .i64 n) (.imm .arg 2 lc) (.int .i64 x) (.imm .arg 1 rds) (.int .i64 0) (.ptr 2 0 0 1) .undef (.map kb) (.imm .arg 2 r) (.map bb) a0 (.int .i64 x2) (.int .i64 x3) .undef (.imm .arg 1 rds) (.int .i64 (rds.length : Int)) (.int .i64 (i : Int)) (.imm .arg 2 r) (.int .i64 (r.length : Int)) (.int .i64 (IntKind.i64.wrap ((j : Int) + 1))) .undef .undef .undef) H5 :=
  RunsTo.hint 1 60 [⟨10, 0, .bool true, H⟩, ⟨11, 0, .vptr (.agg [.int .i64 x0, .int .i64 x1]), H⟩, ⟨11, 2, a0, H0⟩, ⟨11, 3, .tuple [], H1⟩, ⟨12, 0, a1, H1⟩, ⟨12, 1, .int .i64 x2, H1⟩, ⟨12, 2, a2, H1⟩, ⟨12, 3, .int .i64 x3, H1⟩, ⟨13, 3, .bool true, H2⟩, ⟨13, 7, .sl 0 0 m none m 1, H2⟩, ⟨13, 9, .ptr 0 ((x2).toNat) 0 m, H2⟩, ⟨13, 10, v0, H2⟩, ⟨13, 12, .bool true, H3⟩, ⟨13, 18, .bool true, H3⟩, ⟨13, 24, .bool false, H3⟩, ⟨13, 29, .bool false, H3⟩, ⟨13, 34, .bool false, H3⟩, ⟨15, 4, .tuple [], H4⟩, ⟨15, 5, .tuple [], H5⟩] fun kf hk => by
    obtain ⟨kf, rfl⟩ : ∃ n, kf = n + 1 := ⟨kf - 1, by omega⟩
    exact ⟨[some (HV.bool (decide ((j : Int) < (r.length : Int))), (H : Heap)) = some (.bool true, H), (idxV Try.prog 22 (.imm .arg 2 r) (.int .i64 (j : Int))).map (fun v => (v, (H : Heap))) = some (.vptr (.agg [.int .i64 x0, .int .i64 x1]), H), some (newV (.agg [.int .i64 0, .int .i64 0]) H) = some (a0, H0), (storeV Try.prog H0 33 (a0) (.agg [.int .i64 x0, .int .i64 x1])).map (fun H => (HV.tuple [], H)) = some (.tuple [], H1), (idxV Try.prog 33 a0 (.int .i64 0)).map (fun v => (v, (H1 : Heap))) = some (a1, H1), (loadV Try.prog H1 3 (a1)).map (fun v => (v, (H1 : Heap))) = some (.int .i64 x2, H1), (idxV Try.prog 33 a0 (.int .i64 1)).map (fun v => (v, (H1 : Heap))) = some (a2, H1), (loadV Try.prog H1 3 (a2)).map (fun v => (v, (H1 : Heap))) = some (.int .i64 x3, H1), callN Try.prog polV (kf + 1) 49 [.int .i64 x2, .int .i64 0, .int .i64 (IntKind.i64.wrap (n - 1))] H1 = some (.bool true, H2), (loadV Try.prog H2 55 (.ptr 2 0 0 1)).map (fun v => (v, (H2 : Heap))) = some (.sl 0 0 m none m 1, H2), (idxV Try.prog 55 (.sl 0 0 m none m 1) (.int .i64 x2)).map (fun v => (v, (H2 : Heap))) = some (.ptr 0 ((x2).toNat) 0 m, H2), (loadV Try.prog H2 24 (.ptr 0 ((x2).toNat) 0 m)).map (fun v => (v, (H2 : Heap))) = some (v0, H2), callN Try.prog polV (kf + 1) 52 [v0, .int .i64 x3] H2 = some (.bool true, H3), lkH Try.prog 79 H3 kb (.int .i64 x2) = some (.bool true, H3), lkH Try.prog 79 H3 kb (.int .i64 x3) = some (.bool false, H3), lkH Try.prog 79 H3 bb (.int .i64 x2) = some (.bool false, H3), lkH Try.prog 79 H3 bb (.int .i64 x3) = some (.bool false, H3), (updV Try.prog false 79 (.map bb) (.int .i64 x2) (.bool true) H3).map (fun H => (HV.tuple [], H)) = some (.tuple [], H4), (updV Try.prog false 79 (.map bb) (.int .i64 x3) (.bool true) H4).map (fun H => (HV.tuple [], H)) = some (.tuple [], H5)], by kernel_rfl, Obls.cons (hintB (decide_eq_true g0)) (Obls.cons (hintOp g1) (Obls.cons (g2) (Obls.cons (hintSt g3) (Obls.cons (hintOp g4) (Obls.cons (hintOp g5) (Obls.cons (hintOp g6) (Obls.cons (hintOp g7) (Obls.cons (g8 kf) (Obls.cons (hintOp g9) (Obls.cons (hintOp g10) (Obls.cons (hintOp g11) (Obls.cons (g12 kf) (Obls.cons (g13) (Obls.cons (g14) (Obls.cons (g15) (Obls.cons (g16) (Obls.cons (hintSt g17) (Obls.cons (hintSt g18) Obls.nil))))))))))))))))))⟩
theorem ck_l_4 (n : Int) (lc : List HV) (x : Int) (rds : List HV) (H : Heap) (kb : Nat) (i : Nat) (r : List HV) (bb : Nat) (j : Nat) (m : Nat) (x0 : Int) (x1 : Int) (a0 : HV) (H0 : Heap) (H1 : Heap) (a1 : HV) (x2 : Int) (a2 : HV) (x3 : Int) (H2 : Heap) (v0 : HV) (H3 : Heap) (g0 : (j : Int) < (r.length : Int)) (g1 : idxV Try.prog 22 (.imm .arg 2 r) (.int .i64 (j : Int)) = some (.vptr (.agg [.int .i64 x0, .int .i64 x1]))) (g2 : some (newV (.agg [.int .i64 0, .int .i64 0]) H) = some (a0, H0)) (g3 : storeV Try.prog H0 33 (a0) (.agg [.int .i64 x0, .int .i64 x1]) = some H1) (g4 : idxV Try.prog 33 a0 (.int .i64 0) = some (a1)) (g5 : loadV Try.prog H1 3 (a1) = some (.int .i64 x2)) (g6 : idxV Try.prog 33 a0 (.int .i64 1) = some (a2)) (g7 : loadV Try.prog H1 3 (a2) = some (.int .i64 x3)) (g8 : ∀ kf, callN Try.prog polV (kf + 1) 49 [.int .i64 x2, .int .i64 0, .int .i64 (IntKind.i64.wrap (n - 1))] H1 = some (.bool true, H2)) (g9 : loadV Try.prog H2 55 (.ptr 2 0 0 1) = some (.sl 0 0 m none m 1)) (g10 : idxV Try.prog 55 (.sl 0 0 m none m 1) (.int .i64 x2) = some (.ptr 0 ((x2).toNat) 0 m)) (g11 : loadV Try.prog H2 24 (.ptr 0 ((x2).toNat) 0 m) = some (v0)) (g12 : ∀ kf, callN Try.prog polV (kf + 1) 52 [v0, .int .i64 x3] H2 = some (.bool true, H3)) (g13 : lkH Try.prog 79 H3 kb (.int .i64 x2) = some (.bool false, H3)) : RunsTo Try.prog polV 29 (sub [1, 1, 1, 1, 0, 1, 0, 0, 1, 1, 0, 0, 1, 1, 0, 1, 0, 0] B29) (env29 (.int .i64 n) (.imm .arg 2 lc) (.int .i64 x) (.imm .arg 1 rds) (.int .i64 0) (.ptr 2 0 0 1) .undef (.map kb) (.imm .arg 2 r) (.map bb) .undef .undef .undef .undef (.imm .arg 1 rds) (.int .i64 (rds.length : Int)) (.int .i64 (i : Int)) (.imm .arg 2 r) (.int .i64 (r.length : Int)) (.int .i64 (j : Int)) .undef .undef .undef) H (.ret) (polV.keys 29) (env29 (.int .i64 n) (.imm .arg 2 lc) (.int .i64 x) (.imm .arg 1 rds) (.int .i64 10) (.ptr 2 0 0 1) .undef (.map kb) (.imm .arg 2 r) (.map bb) a0 (.int .i64 x2) (.int .i64 x3) .undef (.imm .arg 1 rds) (.int .i64 (rds.length : Int)) (.int .i64 (i : Int)) (.imm .arg 2 r) (.int .i64 (r.length : Int)) (.int .i64 (j : Int)) .undef .undef .undef) H3 :=
  RunsTo.hint 1 60 [⟨10, 0, .bool true, H⟩, ⟨11, 0, .vptr (.agg [.int .i64 x0, .int .i64 x1]), H⟩, ⟨11, 2, a0, H0⟩, ⟨11, 3, .tuple [], H1⟩, ⟨12, 0, a1, H1⟩, ⟨12, 1, .int .i64 x2, H1⟩, ⟨12, 2, a2, H1⟩, ⟨12, 3, .int .i64 x3, H1⟩, ⟨13, 3, .bool true, H2⟩, ⟨13, 7, .sl 0 0 m none m 1, H2⟩, ⟨13, 9, .ptr 0 ((x2).toNat) 0 m, H2⟩, ⟨13, 10, v0, H2⟩, ⟨13, 12, .bool true, H3⟩, ⟨13, 18, .bool false, H3⟩] fun kf hk => by
    obtain ⟨kf, rfl⟩ : ∃ n, kf = n + 1 := ⟨kf - 1, by omega⟩
    exact ⟨[some (HV.bool (decide ((j : Int) < (r.length : Int))), (H : Heap)) = some (.bool true, H), (idxV Try.prog 22 (.imm .arg 2 r) (.int .i64 (j : Int))).map (fun v => (v, (H : Heap))) = some (.vptr (.agg [.int .i64 x0, .int .i64 x1]), H), some (newV (.agg [.int .i64 0, .int .i64 0]) H) = some (a0, H0), (storeV Try.prog H0 33 (a0) (.agg [.int .i64 x0, .int .i64 x1])).map (fun H => (HV.tuple [], H)) = some (.tuple [], H1), (idxV Try.prog 33 a0 (.int .i64 0)).map (fun v => (v, (H1 : Heap))) = some (a1, H1), (loadV Try.prog H1 3 (a1)).map (fun v => (v, (H1 : Heap))) = some (.int .i64 x2, H1), (idxV Try.prog 33 a0 (.int .i64 1)).map (fun v => (v, (H1 : Heap))) = some (a2, H1), (loadV Try.prog H1 3 (a2)).map (fun v => (v, (H1 : Heap))) = some (.int .i64 x3, H1), callN Try.prog polV (kf + 1) 49 [.int .i64 x2, .int .i64 0, .int .i64 (IntKind.i64.wrap (n - 1))] H1 = some (.bool true, H2), (loadV Try.prog H2 55 (.ptr 2 0 0 1)).map (fun v => (v, (H2 : Heap))) = some (.sl 0 0 m none m 1, H2), (idxV Try.prog 55 (.sl 0 0 m none m 1) (.int .i64 x2)).map (fun v => (v, (H2 : Heap))) = some (.ptr 0 ((x2).toNat) 0 m, H2), (loadV Try.prog H2 24 (.ptr 0 ((x2).toNat) 0 m)).map (fun v => (v, (H2 : Heap))) = some (v0, H2), callN Try.prog polV (kf + 1) 52 [v0, .int .i64 x3] H2 = some (.bool true, H3), lkH Try.prog 79 H3 kb (.int .i64 x2) = some (.bool false, H3)], by kernel_rfl, Obls.cons (hintB (decide_eq_true g0)) (Obls.cons (hintOp g1) (Obls.cons (g2) (Obls.cons (hintSt g3) (Obls.cons (hintOp g4) (Obls.cons (hintOp g5) (Obls.cons (hintOp g6) (Obls.cons (hintOp g7) (Obls.cons (g8 kf) (Obls.cons (hintOp g9) (Obls.cons (hintOp g10) (Obls.cons (hintOp g11) (Obls.cons (g12 kf) (Obls.cons (g13) Obls.nil)))))))))))))⟩
theorem ck_l_5 (n : Int) (lc : List HV) (x : Int) (rds : List HV) (H : Heap) (kb : Nat) (i : Nat) (r : List HV) (bb : Nat) (j : Nat) (m : Nat) (x0 : Int) (x1 : Int) (a0 : HV) (H0 : Heap) (H1 : Heap) (a1 : HV) (x2 : Int) (a2 : HV) (x3 : Int) (H2 : Heap) (v0 : HV) (H3 : Heap) (g0 : (j : Int) < (r.length : Int)) (g1 : idxV Try.prog 22 (.imm .arg 2 r) (.int .i64 (j : Int)) = some (.vptr (.agg [.int .i64 x0, .int .i64 x1]))) (g2 : some (newV (.agg [.int .i64 0, .int .i64 0]) H) = some (a0, H0)) (g3 : storeV Try.prog H0 33 (a0) (.agg [.int .i64 x0, .int .i64 x1]) = some H1) (g4 : idxV Try.prog 33 a0 (.int .i64 0) = some (a1)) (g5 : loadV Try.prog H1 3 (a1) = some (.int .i64 x2)) (g6 : idxV Try.prog 33 a0 (.int .i64 1) = some (a2)) (g7 : loadV Try.prog H1 3 (a2) = some (.int .i64 x3)) (g8 : ∀ kf, callN Try.prog polV (kf + 1) 49 [.int .i64 x2, .int .i64 0, .int .i64 (IntKind.i64.wrap (n - 1))] H1 = some (.bool true, H2)) (g9 : loadV Try.prog H2 55 (.ptr 2 0 0 1) = some (.sl 0 0 m none m 1)) (g10 : idxV Try.prog 55 (.sl 0 0 m none m 1) (.int .i64 x2) = some (.ptr 0 ((x2).toNat) 0 m)) (g11 : loadV Try.prog H2 24 (.ptr 0 ((x2).toNat) 0 m) = some (v0)) (g12 : ∀ kf, callN Try.prog polV (kf + 1) 52 [v0, .int .i64 x3] H2 = some (.bool false, H3)) : RunsTo Try.prog polV 29 (sub [1, 1, 1, 1, 0, 1, 0, 0, 1, 1, 0, 0, 1, 1, 0, 1, 0, 0] B29) (env29 (.int .i64 n) (.imm .arg 2 lc) (.int .i64 x) (.imm .arg 1 rds) (.int .i64 0) (.ptr 2 0 0 1) .undef (.map kb) (.imm .arg 2 r) (.map bb) .undef .undef .undef .undef (.imm .arg 1 rds) (.int .i64 (rds.length : Int)) (.int .i64 (i : Int)) (.imm .arg 2 r) (.int .i64 (r.length : Int)) (.int .i64 (j : Int)) .undef .undef .undef) H (.ret) (polV.keys 29) (env29 (.int .i64 n) (.imm .arg 2 lc) (.int .i64 x) (.imm .arg 1 rds) (.int .i64 10) (.ptr 2 0 0 1) .undef (.map kb) (.imm .arg 2 r) (.map bb) a0 (.int .i64 x2) (.int .i64 x3) .undef (.imm .arg 1 rds) (.int .i64 (rds.length : Int)) (.int .i64 (i : Int)) (.imm .arg 2 r) (.int .i64 (r.length : Int)) (.int .i64 (j : Int)) .undef .undef .undef) H3 :=
  RunsTo.hint 1 60 [⟨10, 0, .bool true, H⟩, ⟨11, 0, .vptr (.agg [.int .i64 x0, .int .i64 x1]), H⟩, ⟨11, 2, a0, H0⟩, ⟨11, 3, .tuple [], H1⟩, ⟨12, 0, a1, H1⟩, ⟨12, 1, .int .i64 x2, H1⟩, ⟨12, 2, a2, H1⟩, ⟨12, 3, .int .i64 x3, H1⟩, ⟨13, 3, .bool true, H2⟩, ⟨13, 7, .sl 0 0 m none m 1, H2⟩, ⟨13, 9, .ptr 0 ((x2).toNat) 0 m, H2⟩, ⟨13, 10, v0, H2⟩, ⟨13, 12, .bool false, H3⟩] fun kf hk => by
    obtain ⟨kf, rfl⟩ : ∃ n, kf = n + 1 := ⟨kf - 1, by omega⟩
    exact ⟨[some (HV.bool (decide ((j : Int) < (r.length : Int))), (H : Heap)) = some (.bool true, H), (idxV Try.prog 22 (.imm .arg 2 r) (.int .i64 (j : Int))).map (fun v => (v, (H : Heap))) = some (.vptr (.agg [.int .i64 x0, .int .i64 x1]), H), some (newV (.agg [.int .i64 0, .int .i64 0]) H) = some (a0, H0), (storeV Try.prog H0 33 (a0) (.agg [.int .i64 x0, .int .i64 x1])).map (fun H => (HV.tuple [], H)) = some (.tuple [], H1), (idxV Try.prog 33 a0 (.int .i64 0)).map (fun v => (v, (H1 : Heap))) = some (a1, H1), (loadV Try.prog H1 3 (a1)).map (fun v => (v, (H1 : Heap))) = some (.int .i64 x2, H1), (idxV Try.prog 33 a0 (.int .i64 1)).map (fun v => (v, (H1 : Heap))) = some (a2, H1), (loadV Try.prog H1 3 (a2)).map (fun v => (v, (H1 : Heap))) = some (.int .i64 x3, H1), callN Try.prog polV (kf + 1) 49 [.int .i64 x2, .int .i64 0, .int .i64 (IntKind.i64.wrap (n - 1))] H1 = some (.bool true, H2), (loadV Try.prog H2 55 (.ptr 2 0 0 1)).map (fun v => (v, (H2 : Heap))) = some (.sl 0 0 m none m 1, H2), (idxV Try.prog 55 (.sl 0 0 m none m 1) (.int .i64 x2)).map (fun v => (v, (H2 : Heap))) = some (.ptr 0 ((x2).toNat) 0 m, H2), (loadV Try.prog H2 24 (.ptr 0 ((x2).toNat) 0 m)).map (fun v => (v, (H2 : Heap))) = some (v0, H2), callN Try.prog polV (kf + 1) 52 [v0, .int .i64 x3] H2 = some (.bool false, H3)], by kernel_rfl, Obls.cons (hintB (decide_eq_true g0)) (Obls.cons (hintOp g1) (Obls.cons (g2) (Obls.cons (hintSt g3) (Obls.cons (hintOp g4) (Obls.cons (hintOp g5) (Obls.cons (hintOp g6) (Obls.cons (hintOp g7) (Obls.cons (g8 kf) (Obls.cons (hintOp g9) (Obls.cons (hintOp g10) (Obls.cons (hintOp g11) (Obls.cons (g12 kf) Obls.nil))))))))))))⟩
theorem ck_l_6 (n : Int) (lc : List HV) (x : Int) (rds : List HV) (H : Heap) (kb : Nat) (i : Nat) (r : List HV) (bb : Nat) (j : Nat) (m : Nat) (x0 : Int) (x1 : Int) (a0 : HV) (H0 : Heap) (H1 : Heap) (a1 : HV) (x2 : Int) (a2 : HV) (x3 : Int) (H2 : Heap) (g0 : (j : Int) < (r.length : Int)) (g1 : idxV Try.prog 22 (.imm .arg 2 r) (.int .i64 (j : Int)) = some (.vptr (.agg [.int .i64 x0, .int .i64 x1]))) (g2 : some (newV (.agg [.int .i64 0, .int .i64 0]) H) = some (a0, H0)) (g3 : storeV Try.prog H0 33 (a0) (.agg [.int .i64 x0, .int .i64 x1]) = some H1) (g4 : idxV Try.prog 33 a0 (.int .i64 0) = some (a1)) (g5 : loadV Try.prog H1 3 (a1) = some (.int .i64 x2)) (g6 : idxV Try.prog 33 a0 (.int .i64 1) = some (a2)) (g7 : loadV Try.prog H1 3 (a2) = some (.int .i64 x3)) (g8 : ∀ kf, callN Try.prog polV (kf + 1) 49 [.int .i64 x2, .int .i64 0, .int .i64 (IntKind.i64.wrap (n - 1))] H1 = some (.bool false, H2)) : RunsTo Try.prog polV 29 (sub [1, 1, 1, 1, 0, 1, 0, 0, 1, 1, 0, 0, 1, 1, 0, 1, 0, 0] B29) (env29 (.int .i64 n) (.imm .arg 2 lc) (.int .i64 x) (.imm .arg 1 rds) (.int .i64 0) (.ptr 2 0 0 1) .undef (.map kb) (.imm .arg 2 r) (.map bb) .undef .undef .undef .undef (.imm .arg 1 rds) (.int .i64 (rds.length : Int)) (.int .i64 (i : Int)) (.imm .arg 2 r) (.int .i64 (r.length : Int)) (.int .i64 (j : Int)) .undef .undef .undef) H (.ret) (polV.keys 29) (env29 (.int .i64 n) (.imm .arg 2 lc) (.int .i64 x) (.imm .arg 1 rds) (.int .i64 10) (.ptr 2 0 0 1) .undef (.map kb) (.imm .arg 2 r) (.map bb) a0 (.int .i64 x2) (.int .i64 x3) .undef (.imm .arg 1 rds) (.int .i64 (rds.length : Int)) (.int .i64 (i : Int)) (.imm .arg 2 r) (.int .i64 (r.length : Int)) (.int .i64 (j : Int)) .undef .undef .undef) H2 :=
  RunsTo.hint 1 60 [⟨10, 0, .bool true, H⟩, ⟨11, 0, .vptr (.agg [.int .i64 x0, .int .i64 x1]), H⟩, ⟨11, 2, a0, H0⟩, ⟨11, 3, .tuple [], H1⟩, ⟨12, 0, a1, H1⟩, ⟨12, 1, .int .i64 x2, H1⟩, ⟨12, 2, a2, H1⟩, ⟨12, 3, .int .i64 x3, H1⟩, ⟨13, 3, .bool false, H2⟩] fun kf hk => by
    obtain ⟨kf, rfl⟩ : ∃ n, kf = n + 1 := ⟨kf - 1, by omega⟩
    exact ⟨[some (HV.bool (decide ((j : Int) < (r.length : Int))), (H : Heap)) = some (.bool true, H), (idxV Try.prog 22 (.imm .arg 2 r) (.int .i64 (j : Int))).map (fun v => (v, (H : Heap))) = some (.vptr (.agg [.int .i64 x0, .int .i64 x1]), H), some (newV (.agg [.int .i64 0, .int .i64 0]) H) = some (a0, H0), (storeV Try.prog H0 33 (a0) (.agg [.int .i64 x0, .int .i64 x1])).map (fun H => (HV.tuple [], H)) = some (.tuple [], H1), (idxV Try.prog 33 a0 (.int .i64 0)).map (fun v => (v, (H1 : Heap))) = some (a1, H1), (loadV Try.prog H1 3 (a1)).map (fun v => (v, (H1 : Heap))) = some (.int .i64 x2, H1), (idxV Try.prog 33 a0 (.int .i64 1)).map (fun v => (v, (H1 : Heap))) = some (a2, H1), (loadV Try.prog H1 3 (a2)).map (fun v => (v, (H1 : Heap))) = some (.int .i64 x3, H1), callN Try.prog polV (kf + 1) 49 [.int .i64 x2, .int .i64 0, .int .i64 (IntKind.i64.wrap (n - 1))] H1 = some (.bool false, H2)], by kernel_rfl, Obls.cons (hintB (decide_eq_true g0)) (Obls.cons (hintOp g1) (Obls.cons (g2) (Obls.cons (hintSt g3) (Obls.cons (hintOp g4) (Obls.cons (hintOp g5) (Obls.cons (hintOp g6) (Obls.cons (hintOp g7) (Obls.cons (g8 kf) Obls.nil))))))))⟩
theorem ck_l_7 (n : Int) (lc : List HV) (x : Int) (rds : List HV) (H : Heap) (kb : Nat) (i : Nat) (r : List HV) (bb : Nat) (j : Nat) (m : Nat)  (g0 : ¬ ((j : Int) < (r.length : Int))) : RunsTo Try.prog polV 29 (sub [1, 1, 1, 1, 0, 1, 0, 0, 1, 1, 0, 0, 1, 1, 0, 1, 0, 0] B29) (env29 (.int .i64 n) (.imm .arg 2 lc) (.int .i64 x) (.imm .arg 1 rds) (.int .i64 0) (.ptr 2 0 0 1) .undef (.map kb) (.imm .arg 2 r) (.map bb) .undef .undef .undef .undef (.imm .arg 1 rds) (.int .i64 (rds.length : Int)) (.int .i64 (i : Int)) (.imm .arg 2 r) (.int .i64 (r.length : Int)) (.int .i64 (j : Int)) .undef .undef .undef) H (.exit 2) (polV.keys 29) (env29 (.int .i64 n) (.imm .arg 2 lc) (.int .i64 x) (.imm .arg 1 rds) (.int .i64 0) (.ptr 2 0 0 1) .undef (.map kb) (.imm .arg 2 r) (.map bb) .undef .undef .undef .undef (.imm .arg 1 rds) (.int .i64 (rds.length : Int)) (.int .i64 (i : Int)) (.imm .arg 2 r) (.int .i64 (r.length : Int)) (.int .i64 (j : Int)) .undef .undef .undef) H :=
  RunsTo.hint 1 60 [⟨10, 0, .bool false, H⟩] fun kf hk => by
    obtain ⟨kf, rfl⟩ : ∃ n, kf = n + 1 := ⟨kf - 1, by omega⟩
    exact ⟨[some (HV.bool (decide ((j : Int) < (r.length : Int))), (H : Heap)) = some (.bool false, H)], by kernel_rfl, Obls.cons (hintB (decide_eq_false g0)) Obls.nil⟩
theorem ck_m_0 (n : Int) (lc : List HV) (x : Int) (rds : List HV) (H : Heap) (kb : Nat) (i : Nat) (r : List HV) (bb : Nat) (j : Nat)   : RunsTo Try.prog polV 29 (sub [1, 1, 1, 1, 0, 1, 0, 0, 1, 1, 0, 0, 1, 1, 1, 0] B29) (env29 (.int .i64 n) (.imm .arg 2 lc) (.int .i64 x) (.imm .arg 1 rds) (.int .i64 0) (.ptr 2 0 0 1) .undef (.map kb) (.imm .arg 2 r) (.map bb) .undef .undef .undef .undef (.imm .arg 1 rds) (.int .i64 (rds.length : Int)) (.int .i64 (i : Int)) (.imm .arg 2 r) (.int .i64 (r.length : Int)) (.int .i64 (j : Int)) .undef .undef .undef) H (.normal) (polV.keys 29) (env29 (.int .i64 n) (.imm .arg 2 lc) (.int .i64 x) (.imm .arg 1 rds) (.int .i64 0) (.ptr 2 0 0 1) .undef (.map kb) (.imm .arg 2 r) (.map bb) .undef .undef .undef .undef (.imm .arg 1 rds) (.int .i64 (rds.length : Int)) (.int .i64 (i : Int)) (.imm .arg 2 r) (.int .i64 (r.length : Int)) (.int .i64 (j : Int)) (.imm .arg 2 r) (.int .i64 (r.length : Int)) (.int .i64 0)) H :=
  RunsTo.hint 1 60 [] fun kf hk => by
    obtain ⟨kf, rfl⟩ : ∃ n, kf = n + 1 := ⟨kf - 1, by omega⟩
    exact ⟨[], by kernel_rfl, Obls.nil⟩
theorem ck_n_0 (n : Int) (lc : List HV) (x : Int) (rds : List HV) (H : Heap) (kb : Nat) (i : Nat) (r : List HV) (j : Nat) (x0 : Int) (x1 : Int) (a0 : HV) (H0 : Heap) (H1 : Heap) (a1 : HV) (x2 : Int) (H2 : Heap) (g0 : (j : Int) < (r.length : Int)) (g1 : idxV Try.prog 22 (.imm .arg 2 r) (.int .i64 (j : Int)) = some (.vptr (.agg [.int .i64 x0, .int .i64 x1]))) (g2 : some (newV (.agg [.int .i64 0, .int .i64 0]) H) = some (a0, H0)) (g3 : storeV Try.prog H0 33 (a0) (.agg [.int .i64 x0, .int .i64 x1]) = some H1) (g4 : idxV Try.prog 33 a0 (.int .i64 1) = some (a1)) (g5 : loadV Try.prog H1 3 (a1) = some (.int .i64 x2)) (g6 : updV Try.prog false 79 (.map kb) (.int .i64 x2) (.bool true) H1 = some H2) : RunsTo Try.prog polV 29 (sub [1, 1, 1, 1, 0, 1, 0, 0, 1, 1, 0, 0, 1, 1, 1, 1, 0, 0] B29) (env29 (.int .i64 n) (.imm .arg 2 lc) (.int .i64 x) (.imm .arg 1 rds) (.int .i64 0) (.ptr 2 0 0 1) .undef (.map kb) .undef .undef .undef .undef .undef .undef (.imm .arg 1 rds) (.int .i64 (rds.length : Int)) (.int .i64 (i : Int)) .undef .undef .undef (.imm .arg 2 r) (.int .i64 (r.length : Int)) (.int .i64 (j : Int))) H (.normal) (polV.keys 29) (env29 (.int .i64 n) (.imm .arg 2 lc) (.int .i64 x) (.imm .arg 1 rds) (.int .i64 0) (.ptr 2 0 0 1) .undef (.map kb) .undef .undef .undef .undef .undef a0 (.imm .arg 1 rds) (.int .i64 (rds.length : Int)) (.int .i64 (i : Int)) .undef .undef .undef (.imm .arg 2 r) (.int .i64 (r.length : Int)) (.int .i64 (IntKind.i64.wrap ((j : Int) + 1)))) H2 :=
  RunsTo.hint 1 60 [⟨18, 0, .bool true, H⟩, ⟨19, 0, .vptr (.agg [.int .i64 x0, .int .i64 x1]), H⟩, ⟨19, 2, a0, H0⟩, ⟨19, 3, .tuple [], H1⟩, ⟨20, 1, a1, H1⟩, ⟨20, 2, .int .i64 x2, H1⟩, ⟨20, 3, .tuple [], H2⟩] fun kf hk => by
    obtain ⟨kf, rfl⟩ : ∃ n, kf = n + 1 := ⟨kf - 1, by omega⟩
    exact ⟨[some (HV.bool (decide ((j : Int) < (r.length : Int))), (H : Heap)) = some (.bool true, H), (idxV Try.prog 22 (.imm .arg 2 r) (.int .i64 (j : Int))).map (fun v => (v, (H : Heap))) = some (.vptr (.agg [.int .i64 x0, .int .i64 x1]), H), some (newV (.agg [.int .i64 0, .int .i64 0]) H) = some (a0, H0), (storeV Try.prog H0 33 (a0) (.agg [.int .i64 x0, .int .i64 x1])).map (fun H => (HV.tuple [], H)) = some (.tuple [], H1), (idxV Try.prog 33 a0 (.int .i64 1)).map (fun v => (v, (H1 : Heap))) = some (a1, H1), (loadV Try.prog H1 3 (a1)).map (fun v => (v, (H1 : Heap))) = some (.int .i64 x2, H1), (updV Try.prog false 79 (.map kb) (.int .i64 x2) (.bool true) H1).map (fun H => (HV.tuple [], H)) = some (.tuple [], H2)], by kernel_rfl, Obls.cons (hintB (decide_eq_true g0)) (Obls.cons (hintOp g1) (Obls.cons (g2) (Obls.cons (hintSt g3) (Obls.cons (hintOp g4) (Obls.cons (hintOp g5) (Obls.cons (hintSt g6) Obls.nil))))))⟩
theorem ck_n_1 (n : Int) (lc : List HV) (x : Int) (rds : List HV) (H : Heap) (kb : Nat) (i : Nat) (r : List HV) (j : Nat)  (g0 : ¬ ((j : Int) < (r.length : Int))) : RunsTo Try.prog polV 29 (sub [1, 1, 1, 1, 0, 1, 0, 0, 1, 1, 0, 0, 1, 1, 1, 1, 0, 0] B29) (env29 (.int .i64 n) (.imm .arg 2 lc) (.int .i64 x) (.imm .arg 1 rds) (.int .i64 0) (.ptr 2 0 0 1) .undef (.map kb) .undef .undef .undef .undef .undef .undef (.imm .arg 1 rds) (.int .i64 (rds.length : Int)) (.int .i64 (i : Int)) .undef .undef .undef (.imm .arg 2 r) (.int .i64 (r.length : Int)) (.int .i64 (j : Int))) H (.exit 4) (polV.keys 29) (env29 (.int .i64 n) (.imm .arg 2 lc) (.int .i64 x) (.imm .arg 1 rds) (.int .i64 0) (.ptr 2 0 0 1) .undef (.map kb) .undef .undef .undef .undef .undef .undef (.imm .arg 1 rds) (.int .i64 (rds.length : Int)) (.int .i64 (i : Int)) .undef .undef .undef (.imm .arg 2 r) (.int .i64 (r.length : Int)) (.int .i64 (j : Int))) H :=
  RunsTo.hint 1 60 [⟨18, 0, .bool false, H⟩] fun kf hk => by
    obtain ⟨kf, rfl⟩ : ∃ n, kf = n + 1 := ⟨kf - 1, by omega⟩
    exact ⟨[some (HV.bool (decide ((j : Int) < (r.length : Int))), (H : Heap)) = some (.bool false, H)], by kernel_rfl, Obls.cons (hintB (decide_eq_false g0)) Obls.nil⟩
theorem ck_o_0 (n : Int) (lc : List HV) (x : Int) (rds : List HV) (H : Heap) (kb : Nat) (i : Nat) (r : List HV) (j : Nat) (v20 : HV)   : RunsTo Try.prog polV 29 (sub [1, 1, 1, 1, 0, 1, 0, 0, 1, 1, 1] B29) (env29 (.int .i64 n) (.imm .arg 2 lc) (.int .i64 x) (.imm .arg 1 rds) (.int .i64 0) (.ptr 2 0 0 1) .undef (.map kb) .undef .undef .undef .undef .undef v20 (.imm .arg 1 rds) (.int .i64 (rds.length : Int)) (.int .i64 (i : Int)) .undef .undef .undef (.imm .arg 2 r) (.int .i64 (r.length : Int)) (.int .i64 (j : Int))) H (.normal) (polV.keys 29) (env29 (.int .i64 n) (.imm .arg 2 lc) (.int .i64 x) (.imm .arg 1 rds) (.int .i64 0) (.ptr 2 0 0 1) .undef (.map kb) .undef .undef .undef .undef .undef v20 (.imm .arg 1 rds) (.int .i64 (rds.length : Int)) (.int .i64 (IntKind.i64.wrap ((i : Int) + 1))) .undef .undef .undef (.imm .arg 2 r) (.int .i64 (r.length : Int)) (.int .i64 (j : Int))) H :=
  RunsTo.hint 1 60 [] fun kf hk => by
    obtain ⟨kf, rfl⟩ : ∃ n, kf = n + 1 := ⟨kf - 1, by omega⟩
    exact ⟨[], by kernel_rfl, Obls.nil⟩
theorem ck_y_0 (n : Int) (lc : List HV) (x : Int) (rds : List HV) (H : Heap) (kb : Nat) (i : Nat) (n0 : Int) (g0 : lenV Try.prog H 79 (.map kb) = some (.int .i64 n0)) (g1 : n0 < n) : RunsTo Try.prog polV 29 (sub [1, 1, 1, 1, 1, 0] B29) (env29 (.int .i64 n) (.imm .arg 2 lc) (.int .i64 x) (.imm .arg 1 rds) (.int .i64 0) (.ptr 2 0 0 1) .undef (.map kb) .undef .undef .undef .undef .undef .undef (.imm .arg 1 rds) (.int .i64 (rds.length : Int)) (.int .i64 (i : Int)) .undef .undef .undef .undef .undef .undef) H (.ret) (polV.keys 29) (env29 (.int .i64 n) (.imm .arg 2 lc) (.int .i64 x) (.imm .arg 1 rds) (.int .i64 10) (.ptr 2 0 0 1) .undef (.map kb) .undef .undef .undef .undef .undef .undef (.imm .arg 1 rds) (.int .i64 (rds.length : Int)) (.int .i64 (i : Int)) .undef .undef .undef .undef .undef .undef) H :=
  RunsTo.hint 1 60 [⟨23, 1, .int .i64 n0, H⟩, ⟨23, 3, .bool true, H⟩] fun kf hk => by
    obtain ⟨kf, rfl⟩ : ∃ n, kf = n + 1 := ⟨kf - 1, by omega⟩
    exact ⟨[(lenV Try.prog H 79 (.map kb)).map (fun v => (v, (H : Heap))) = some (.int .i64 n0, H), some (HV.bool (decide (n0 < n)), (H : Heap)) = some (.bool true, H)], by kernel_rfl, Obls.cons (hintOp g0) (Obls.cons (hintB (decide_eq_true g1)) Obls.nil)⟩
theorem ck_y_1 (n : Int) (lc : List HV) (x : Int) (rds : List HV) (H : Heap) (kb : Nat) (i : Nat) (n0 : Int) (g0 : lenV Try.prog H 79 (.map kb) = some (.int .i64 n0)) (g1 : ¬ (n0 < n)) : RunsTo Try.prog polV 29 (sub [1, 1, 1, 1, 1, 0] B29) (env29 (.int .i64 n) (.imm .arg 2 lc) (.int .i64 x) (.imm .arg 1 rds) (.int .i64 0) (.ptr 2 0 0 1) .undef (.map kb) .undef .undef .undef .undef .undef .undef (.imm .arg 1 rds) (.int .i64 (rds.length : Int)) (.int .i64 (i : Int)) .undef .undef .undef .undef .undef .undef) H (.normal) (polV.keys 29) (env29 (.int .i64 n) (.imm .arg 2 lc) (.int .i64 x) (.imm .arg 1 rds) (.int .i64 0) (.ptr 2 0 0 1) .undef (.map kb) .undef .undef .undef .undef .undef .undef (.imm .arg 1 rds) (.int .i64 (rds.length : Int)) (.int .i64 (i : Int)) .undef .undef .undef .undef .undef .undef) H :=
  RunsTo.hint 1 60 [⟨23, 1, .int .i64 n0, H⟩, ⟨23, 3, .bool false, H⟩] fun kf hk => by
    obtain ⟨kf, rfl⟩ : ∃ n, kf = n + 1 := ⟨kf - 1, by omega⟩
    exact ⟨[(lenV Try.prog H 79 (.map kb)).map (fun v => (v, (H : Heap))) = some (.int .i64 n0, H), some (HV.bool (decide (n0 < n)), (H : Heap)) = some (.bool false, H)], by kernel_rfl, Obls.cons (hintOp g0) (Obls.cons (hintB (decide_eq_false g1)) Obls.nil)⟩
theorem ck_z_0 (n : Int) (lc : List HV) (x : Int) (rds : List HV) (H : Heap) (kb : Nat) (i : Nat)   : RunsTo Try.prog polV 29 (sub [1, 1, 1, 1, 1, 1] B29) (env29 (.int .i64 n) (.imm .arg 2 lc) (.int .i64 x) (.imm .arg 1 rds) (.int .i64 0) (.ptr 2 0 0 1) .undef (.map kb) .undef .undef .undef .undef .undef .undef (.imm .arg 1 rds) (.int .i64 (rds.length : Int)) (.int .i64 (i : Int)) .undef .undef .undef .undef .undef .undef) H (.ret) (polV.keys 29) (env29 (.int .i64 n) (.imm .arg 2 lc) (.int .i64 x) (.imm .arg 1 rds) (.int .i64 0) (.ptr 2 0 0 1) .undef (.map kb) .undef .undef .undef .undef .undef .undef (.imm .arg 1 rds) (.int .i64 (rds.length : Int)) (.int .i64 (i : Int)) .undef .undef .undef .undef .undef .undef) H :=
  RunsTo.hint 1 60 [] fun kf hk => by
    obtain ⟨kf, rfl⟩ : ∃ n, kf = n + 1 := ⟨kf - 1, by omega⟩
    exact ⟨[], by kernel_rfl, Obls.nil⟩
end Go.Proofs.Ytmhfkhlamnapdaa
end
section
open Go Go.HL
namespace Go.Proofs.Ytmhfkhlamnapdaa
def ins (x : Int) (s : List Int) : List Int := if x ∈ s then s else s ++ [x]
def okC (nr : Int → Int → Bool) (kn bz : List Int) (p : Int × Int) : Bool := nr p.1 p.2 && (decide (p.1 ∈ kn) && (decide (p.2 ∉ kn) && (decide (p.1 ∉ bz) && decide (p.2 ∉ bz))))
def rdGo (nr : Int → Int → Bool) (kn : List Int) : List (Int × Int) → List Int → Bool
  | [], _ => true
  | p :: l, bz => okC nr kn bz p && rdGo nr kn l (ins p.2 (ins p.1 bz))
def learn (l : List (Int × Int)) (kn : List Int) : List Int := l.foldl (fun k p => ins p.2 k) kn
def ckGo (nr : Int → Int → Bool) : List (List (Int × Int)) → List Int → Option (List Int)
  | [], kn => some kn
  | r :: R, kn => if rdGo nr kn r [] = true then ckGo nr R (learn r kn) else none
def spOk (nr : Int → Int → Bool) (n : Int) (x : Int) (R : List (List (Int × Int))) : Bool := match ckGo nr R [x] with | some kn => decide (n ≤ (kn.length : Int)) | none => false
abbrev mapB (ks : List Int) (mx : Nat) : Blk := .map (ks.map encI) (ks.map fun _ => .bool true) mx
theorem u79 : Try.prog.underlying 79 = some (.map 3 4) := by kernel_rfl
theorem z4t : tyZero Try.prog 4 = some (.bool false) := by kernel_rfl
theorem key3 (x : Int) : keyTy Try.prog 3 (.int .i64 x) = true := by kernel_rfl
theorem findK_ints (x : Int) : ∀ (ks : List Int) (i : Nat), ∃ r, findK (.int .i64 x) (ks.map encI) i = some r ∧ ((x ∈ ks ∧ ∃ j, r = some (i + j) ∧ j < ks.length) ∨ (x ∉ ks ∧ r = none))
  | [], i => ⟨none, rfl, .inr ⟨by simp, rfl⟩⟩
  | k :: ks, i => by
    by_cases e : x = k
    · subst e
      refine ⟨some i, ?_, .inl ⟨by simp, 0, rfl, by simp⟩⟩
      simp only [List.map_cons, findK, encI, keyEq, scEq, if_true, decide_true]
    · obtain ⟨r, h1, h2⟩ := findK_ints x ks (i + 1)
      refine ⟨r, ?_, ?_⟩
      · simp only [List.map_cons, findK, encI, keyEq, scEq, if_true, decide_eq_false e]
        exact h1
      · rcases h2 with ⟨h3, j, h4, h5⟩ | ⟨h3, h4⟩
        · exact .inl ⟨by simp [h3], j + 1, by rw [h4]; congr 1; omega, by simp; omega⟩
        · exact .inr ⟨by simp [h3, e], h4⟩
theorem map_lk {H : Heap} {b mx : Nat} {ks : List Int} (h : H[b]? = some (mapB ks mx)) (x : Int) : lkH Try.prog 79 H b (.int .i64 x) = some (.bool (decide (x ∈ ks)), H) := by
  obtain ⟨r, h1, h2⟩ := findK_ints x ks 0
  have hk := key3 x
  have hz := z4t
  simp only [lkH, h, lookV, u79, hk, if_true, h1]
  rcases h2 with ⟨h3, j, rfl, h5⟩ | ⟨h3, rfl⟩
  · rw [decide_eq_true h3]
    have : (ks.map fun _ => HV.bool true)[0 + j]? = some (.bool true) := by rw [Nat.zero_add, List.getElem?_map, List.getElem?_eq_getElem h5]; rfl
    simp only [this]
    rfl
  · rw [decide_eq_false h3]
    simp only [hz]
    rfl
theorem map_upd {H : Heap} {b mx : Nat} {ks : List Int} (h : H[b]? = some (mapB ks mx)) (x : Int) : updV Try.prog false 79 (.map b) (.int .i64 x) (.bool true) H = some (H.set b (mapB (ins x ks) mx)) := by
  obtain ⟨r, h1, h2⟩ := findK_ints x ks 0
  have hk := key3 x
  simp only [updV, u79, hk, if_true, h, h1, Bool.false_eq_true, if_false]
  rcases h2 with ⟨h3, j, rfl, h5⟩ | ⟨h3, rfl⟩
  · have hs : (ks.map fun _ => HV.bool true).set (0 + j) (.bool true) = ks.map fun _ => .bool true := by
      apply List.ext_getElem?
      intro i
      rw [List.getElem?_set, List.length_map]
      by_cases e : 0 + j = i
      · subst e
        rw [if_pos rfl, if_pos (by omega), List.getElem?_map, List.getElem?_eq_getElem (by omega)]; rfl
      · rw [if_neg e]
    simp only [hs, ins, if_pos h3, bnd, Nat.max_zero]
  · have ha : (aggEq (cellsOf (.int .i64 x)) (cellsOf (.int .i64 x))).isSome = true := by simp [cellsOf, aggEq, scEq]
    simp only [ha, if_true, ins, if_neg h3, bnd, Nat.max_zero, mapB, List.map_append, List.map_cons, List.map_nil, encI]
theorem map_len {H : Heap} {b mx : Nat} {ks : List Int} (h : H[b]? = some (mapB ks mx)) : lenV Try.prog H 79 (.map b) = some (.int .i64 (ks.length : Int)) := by
  simp only [lenV, u79, h, List.length_map]
end Go.Proofs.Ytmhfkhlamnapdaa
end
section
open Go Go.HL
namespace Go.Proofs.Ytmhfkhlamnapdaa
abbrev kE29 (n : Int) (lc : List HV) (x : Int) (rds : List HV) (v8 v10 v13 v14 v16 v17 v18 v20 v39 v40 v41 v46 v47 v48 v97 v98 v99 : HV) : Env :=
  env29 (.int .i64 n) (.imm .arg 2 lc) (.int .i64 x) (.imm .arg 1 rds) v8 (.ptr 2 0 0 1) v10 (.map 3) v13 v14 v16 v17 v18 v20 v39 v40 v41 v46 v47 v48 v97 v98 v99
def rowI (r : List Nat) : List Int := r.map fun k : Nat => (k : Int)
theorem rowI_enc (r : List Nat) : r.map encN = (rowI r).map encI := by simp [rowI, encN]
def nrA (n : Nat) (adj : List (List Nat)) (a b : Int) : Bool := decide (0 ≤ a ∧ a ≤ (n : Int) - 1) && decide (b ∈ rowI (adj.getD a.toNat []))
structure CS (n : Nat) (adj : List (List Nat)) (kn : List Int) (H : Heap) : Prop where
  near : H[0]? = some (.arr 1 (adj.map rowO) true 0)
  tree : H[2]? = some (.arr 2 [.agg [.sl 0 0 n none n 1, .map 1]] true 2)
  known : ∃ mx, H[3]? = some (mapB kn mx)
theorem CS.ext {n : Nat} {adj : List (List Nat)} {kn : List Int} {H H' : Heap} (h : CS n adj kn H) (hk : ∀ k, k < 4 → H'[k]? = H[k]?) : CS n adj kn H' := by
  obtain ⟨mx, h1⟩ := h.known
  exact ⟨by rw [hk 0 (by omega)]; exact h.near, by rw [hk 2 (by omega)]; exact h.tree, ⟨mx, by rw [hk 3 (by omega)]; exact h1⟩⟩
theorem CS.four {n : Nat} {adj : List (List Nat)} {kn : List Int} {H : Heap} (h : CS n adj kn H) : 4 ≤ H.length := by
  obtain ⟨mx, h1⟩ := h.known
  have := lt_of_get h1; omega
theorem v49 (x lo hi : Int) (b : Bool) (hb : decide (lo ≤ x ∧ x ≤ hi) = b) (H : Heap) : ∀ k, callN Try.prog polV (k + 1) 49 [.int .i64 x, .int .i64 lo, .int .i64 hi] H = some (.bool b, H) := fun k => by
  rw [prim_call (pol := polV) (g := 49) (F := withinF) (by kernel_rfl) (rs := [.int .i64 x, .int .i64 lo, .int .i64 hi]) rfl (res := .bool b) (by simp only [withinF, hb])]; rfl
theorem v52 (r : List Nat) (hr : r.length ≤ 1000) (x : Int) (b : Bool) (hb : decide (x ∈ rowI r) = b) (H : Heap) : ∀ kf, callN Try.prog polV (kf + 1) 52 [rowO r, .int .i64 x] H = some (.bool b, H) := fun kf => by
  have e : toArg H 6 (rowO r) = some (.imm .arg 1 ((rowI r).map encI)) := by
    show argP (.imm .own 1 (r.map encN)) = _
    rw [rowI_enc]
    simp only [argP, argP_ints']
  rw [prim_call (pol := polV) (g := 52) (F := contains52) (by kernel_rfl) (rs := [.imm .arg 1 ((rowI r).map encI), .int .i64 x]) (by simp only [mapO, e]; rfl) (res := .bool b) (by simp only [contains52, mapO_map decI_enc]; rw [if_pos (by simp [rowI]; exact hr), hb])]; rfl
/-- A pair in a block of its own. -/
theorem e_new' (H : Heap) (a b : Int) : ∃ H0 H1, some (newV (.agg [.int .i64 0, .int .i64 0]) H) = some (HV.ptr H.length 0 0 1, H0) ∧ storeV Try.prog H0 33 (.ptr H.length 0 0 1) (.agg [.int .i64 a, .int .i64 b]) = some H1 ∧ H1[H.length]? = some (bE a b) ∧ H1.length = H.length + 1 ∧ (∀ k, k < H.length → H1[k]? = H[k]?) := by
  have hb : (H ++ [bE 0 0])[H.length]? = some (bE 0 0) := by simp
  have hst := store_agg (P := Try.prog) (t := 33) (i := 0) (tot := 1) (new := [.int .i64 a, .int .i64 b]) hb rfl rfl s33c rfl (by simp) rfl rfl
  exact ⟨_, _, rfl, hst, by rw [List.set_cons_zero, List.getElem?_set_self (by simp)], by simp, fun k hk => by rw [List.getElem?_set_ne (by omega), List.getElem?_append_left hk]⟩
theorem ck_calls (n : Nat) (hn : 1 ≤ n ∧ n ≤ 1000) (lc : List HV) (x : Int) (rds : List HV) (i : Nat) (adj : List (List Nat)) (hA : AInv n 1000 adj) (kn : List Int) (r : List (Int × Int)) (hr : r.length ≤ 1000) (bb : Nat) (hbb : 4 ≤ bb) : ∀ (d j : Nat) (bz : List Int) (H : Heap), j + d = r.length → CS n adj kn H → (∃ mx, H[bb]? = some (mapB bz mx)) →
    ∃ X E H', RunsTo Try.prog polV 29 (sub [1, 1, 1, 1, 0, 1, 0, 0, 1, 1, 0, 0, 1, 1, 0, 1, 0] B29) (kE29 (n : Int) lc x rds (.int .i64 0) .undef (.imm .arg 2 (r.map encP)) (.map bb) .undef .undef .undef .undef (.imm .arg 1 rds) (.int .i64 (rds.length : Int)) (.int .i64 (i : Int)) (.imm .arg 2 (r.map encP)) (.int .i64 (r.length : Int)) (.int .i64 (j : Int)) .undef .undef .undef) H X (polV.keys 29) E H' ∧
      ((rdGo (nrA n adj) kn (r.drop j) bz = true ∧ X = .exit 2 ∧ E = kE29 (n : Int) lc x rds (.int .i64 0) .undef (.imm .arg 2 (r.map encP)) (.map bb) .undef .undef .undef .undef (.imm .arg 1 rds) (.int .i64 (rds.length : Int)) (.int .i64 (i : Int)) (.imm .arg 2 (r.map encP)) (.int .i64 (r.length : Int)) (.int .i64 (r.length : Int)) .undef .undef .undef ∧ CS n adj kn H') ∨
       (rdGo (nrA n adj) kn (r.drop j) bz = false ∧ X = .ret ∧ E.get 8 = .int .i64 10)) := by
  intro d
  induction d with
  | zero =>
    intro j bz H hj hC hB
    have hj : j = r.length := by omega
    subst hj
    have s1 := ck_l_7 (n : Int) lc x rds H 3 i (r.map encP) bb r.length n (by simp)
    rw [List.length_map] at s1
    exact ⟨_, _, _, RunsTo.loop_out s1 (by simp) (by kernel_rfl) (by kernel_rfl), .inl ⟨by simp [rdGo], rfl, rfl, hC⟩⟩
  | succ d ih =>
    intro j bz H hj hC hB
    obtain ⟨mxb, hB⟩ := hB
    obtain ⟨mxk, hK⟩ := hC.known
    have h4 := hC.four
    have hbl : bb < H.length := lt_of_get hB
    have hjl : j < r.length := by omega
    rw [List.drop_eq_getElem_cons hjl, rdGo]
    generalize hp : r[j] = p
    obtain ⟨a, b⟩ := p
    have hml : ((r.map encP).length : Int) = (r.length : Int) := by simp
    have g0 : (j : Int) < ((r.map encP).length : Int) := by simp; omega
    have g1 : idxV Try.prog 22 (.imm .arg 2 (r.map encP)) (.int .i64 (j : Int)) = some (.vptr (.agg [.int .i64 a, .int .i64 b])) := idx_imm u22 z33 (by omega) (by rw [Int.toNat_natCast, List.getElem?_map, List.getElem?_eq_getElem hjl, hp]; rfl)
    obtain ⟨H0, H1, g2, g3, hq, hl1, hk1⟩ := e_new' H a b
    obtain ⟨i0, i1⟩ := e_idx H.length
    obtain ⟨la, lb⟩ := e_load hq
    have hC1 := hC.ext (H' := H1) (fun k hk => hk1 k (by omega))
    have hB1 : H1[bb]? = some (mapB bz mxb) := by rw [hk1 bb hbl]; exact hB
    have hK1 : H1[3]? = some (mapB kn mxk) := by rw [hk1 3 (by omega)]; exact hK
    have hwn : IntKind.i64.wrap ((n : Int) - 1) = (n : Int) - 1 := by rw [wrapI64]; omega
    by_cases ca : 0 ≤ a ∧ a ≤ (n : Int) - 1
    · have c49 := v49 a 0 (IntKind.i64.wrap ((n : Int) - 1)) true (by rw [hwn]; exact decide_eq_true ca) H1
      have han : a.toNat < n := by omega
      obtain ⟨row, hrow⟩ : ∃ w, adj[a.toNat]? = some w := ⟨_, List.getElem?_eq_getElem (by rw [hA.len]; exact han)⟩
      have hgd : adj.getD a.toNat [] = row := by simp [List.getD, hrow]
      have hrl := (hA.row _ (List.mem_of_getElem? hrow)).1
      have ln : loadV Try.prog H1 55 (.ptr 2 0 0 1) = some (.sl 0 0 n none n 1) := load_cell (b := 2) (off := 0) hC1.tree rfl rfl a55c i55c rfl
      have ix : idxV Try.prog 55 (.sl 0 0 n none n 1) (.int .i64 a) = some (.ptr 0 a.toNat 0 n) := idx_sl u55b z24b (by omega) han
      have lr : loadV Try.prog H1 24 (.ptr 0 a.toNat 0 n) = some (rowO row) := load_elem (b := 0) hC1.near (by rw [List.length_map, hA.len]) (by rw [List.getElem?_map, hrow]; rfl) rfl a24c i24c
      have hnr : nrA n adj a b = decide (b ∈ rowI row) := by rw [nrA, decide_eq_true ca, Bool.true_and, hgd]
      by_cases cb : b ∈ rowI row
      · have c52 := v52 row hrl b true (decide_eq_true cb) H1
        by_cases ck1 : a ∈ kn
        · have k1 := map_lk hK1 a
          rw [decide_eq_true ck1] at k1
          by_cases ck2 : b ∈ kn
          · have k2 := map_lk hK1 b
            rw [decide_eq_true ck2] at k2
            have s1 := ck_l_0 (n : Int) lc x rds H 3 i (r.map encP) bb j n a b _ H0 H1 _ a _ b H1 _ H1 g0 g1 g2 g3 i0 la i1 lb c49 ln ix lr c52 k1 k2
            rw [hml] at s1
            exact ⟨_, _, _, RunsTo.loop_out s1 (by simp) (by kernel_rfl) (by kernel_rfl), .inr ⟨by simp [okC, ck2], rfl, rfl⟩⟩
          · have k2 := map_lk hK1 b
            rw [decide_eq_false ck2] at k2
            by_cases cz1 : a ∈ bz
            · have z1 := map_lk hB1 a
              rw [decide_eq_true cz1] at z1
              have s1 := ck_l_1 (n : Int) lc x rds H 3 i (r.map encP) bb j n a b _ H0 H1 _ a _ b H1 _ H1 g0 g1 g2 g3 i0 la i1 lb c49 ln ix lr c52 k1 k2 z1
              rw [hml] at s1
              exact ⟨_, _, _, RunsTo.loop_out s1 (by simp) (by kernel_rfl) (by kernel_rfl), .inr ⟨by simp [okC, cz1], rfl, rfl⟩⟩
            · have z1 := map_lk hB1 a
              rw [decide_eq_false cz1] at z1
              by_cases cz2 : b ∈ bz
              · have z2 := map_lk hB1 b
                rw [decide_eq_true cz2] at z2
                have s1 := ck_l_2 (n : Int) lc x rds H 3 i (r.map encP) bb j n a b _ H0 H1 _ a _ b H1 _ H1 g0 g1 g2 g3 i0 la i1 lb c49 ln ix lr c52 k1 k2 z1 z2
                rw [hml] at s1
                exact ⟨_, _, _, RunsTo.loop_out s1 (by simp) (by kernel_rfl) (by kernel_rfl), .inr ⟨by simp [okC, cz2], rfl, rfl⟩⟩
              · have z2 := map_lk hB1 b
                rw [decide_eq_false cz2] at z2
                have hok : okC (nrA n adj) kn bz (a, b) = true := by
                  simp [okC, hnr, cb, ck1, ck2, cz1, cz2]
                rw [hok, Bool.true_and]
                have u1 := map_upd hB1 a
                have hB2 : (H1.set bb (mapB (ins a bz) mxb))[bb]? = some (mapB (ins a bz) mxb) := List.getElem?_set_self (by omega)
                have u2 := map_upd hB2 b
                have s1 := ck_l_3 (n : Int) lc x rds H 3 i (r.map encP) bb j n a b _ H0 H1 _ a _ b H1 _ H1 _ _ g0 g1 g2 g3 i0 la i1 lb c49 ln ix lr c52 k1 k2 z1 z2 u1 u2
                rw [hml, wrap_succ (by omega)] at s1
                have hg := fun (rr k : Nat) (hk : k < H.length) => gc_get (base := H.length) (r := rr) (H := (H1.set bb (mapB (ins a bz) mxb)).set bb (mapB (ins b (ins a bz)) mxb)) (k := k) (by omega)
                have hC8 : ∀ rr, CS n adj kn (gc H.length rr ((H1.set bb (mapB (ins a bz) mxb)).set bb (mapB (ins b (ins a bz)) mxb))) := fun rr => hC1.ext fun k hk => by
                  rw [hg rr k (by omega), List.getElem?_set_ne (by omega), List.getElem?_set_ne (by omega)]
                obtain ⟨X, E, H', r2, h2⟩ := ih (j + 1) (ins b (ins a bz)) _ (by omega) (hC8 _) ⟨mxb, (hg _ bb hbl).trans (List.getElem?_set_self (by rw [List.length_set]; omega))⟩
                exact ⟨X, E, H', RunsTo.loop s1 (by kernel_rfl) rfl r2 rfl (by kernel_rfl) (by kernel_rfl), h2⟩
        · have k1 := map_lk hK1 a
          rw [decide_eq_false ck1] at k1
          have s1 := ck_l_4 (n : Int) lc x rds H 3 i (r.map encP) bb j n a b _ H0 H1 _ a _ b H1 _ H1 g0 g1 g2 g3 i0 la i1 lb c49 ln ix lr c52 k1
          rw [hml] at s1
          exact ⟨_, _, _, RunsTo.loop_out s1 (by simp) (by kernel_rfl) (by kernel_rfl), .inr ⟨by simp [okC, ck1], rfl, rfl⟩⟩
      · have c52 := v52 row hrl b false (decide_eq_false cb) H1
        have s1 := ck_l_5 (n : Int) lc x rds H 3 i (r.map encP) bb j n a b _ H0 H1 _ a _ b H1 _ H1 g0 g1 g2 g3 i0 la i1 lb c49 ln ix lr c52
        rw [hml] at s1
        exact ⟨_, _, _, RunsTo.loop_out s1 (by simp) (by kernel_rfl) (by kernel_rfl), .inr ⟨by simp [okC, hnr, cb], rfl, rfl⟩⟩
    · have c49 := v49 a 0 (IntKind.i64.wrap ((n : Int) - 1)) false (by rw [hwn]; exact decide_eq_false ca) H1
      have hnr : nrA n adj a b = false := by rw [nrA, decide_eq_false ca, Bool.false_and]
      have s1 := ck_l_6 (n : Int) lc x rds H 3 i (r.map encP) bb j n a b _ H0 H1 _ a _ b H1 g0 g1 g2 g3 i0 la i1 lb c49
      rw [hml] at s1
      exact ⟨_, _, _, RunsTo.loop_out s1 (by simp) (by kernel_rfl) (by kernel_rfl), .inr ⟨by simp [okC, hnr], rfl, rfl⟩⟩
theorem ck_learn (n : Nat) (lc : List HV) (x : Int) (rds : List HV) (i : Nat) (adj : List (List Nat)) (r : List (Int × Int)) (hr : r.length ≤ 1000) : ∀ (d j : Nat) (kn : List Int) (H : Heap), j + d = r.length → CS n adj kn H →
    ∃ H', RunsTo Try.prog polV 29 (sub [1, 1, 1, 1, 0, 1, 0, 0, 1, 1, 0, 0, 1, 1, 1, 1, 0] B29) (kE29 (n : Int) lc x rds (.int .i64 0) .undef .undef .undef .undef .undef .undef .undef (.imm .arg 1 rds) (.int .i64 (rds.length : Int)) (.int .i64 (i : Int)) .undef .undef .undef (.imm .arg 2 (r.map encP)) (.int .i64 (r.length : Int)) (.int .i64 (j : Int))) H
      (.exit 4) (polV.keys 29) (kE29 (n : Int) lc x rds (.int .i64 0) .undef .undef .undef .undef .undef .undef .undef (.imm .arg 1 rds) (.int .i64 (rds.length : Int)) (.int .i64 (i : Int)) .undef .undef .undef (.imm .arg 2 (r.map encP)) (.int .i64 (r.length : Int)) (.int .i64 (r.length : Int))) H' ∧ CS n adj (learn (r.drop j) kn) H' ∧ H.length ≤ H'.length := by
  intro d
  induction d with
  | zero =>
    intro j kn H hj hC
    have hj : j = r.length := by omega
    subst hj
    have s1 := ck_n_1 (n : Int) lc x rds H 3 i (r.map encP) r.length (by simp)
    rw [List.length_map] at s1
    exact ⟨_, RunsTo.loop_out s1 (by simp) (by kernel_rfl) (by kernel_rfl), by simpa [learn] using hC, Nat.le_refl _⟩
  | succ d ih =>
    intro j kn H hj hC
    obtain ⟨mxk, hK⟩ := hC.known
    have h4 := hC.four
    have hjl : j < r.length := by omega
    rw [List.drop_eq_getElem_cons hjl]
    generalize hp : r[j] = p
    obtain ⟨a, b⟩ := p
    have hml : ((r.map encP).length : Int) = (r.length : Int) := by simp
    have g0 : (j : Int) < ((r.map encP).length : Int) := by simp; omega
    have g1 : idxV Try.prog 22 (.imm .arg 2 (r.map encP)) (.int .i64 (j : Int)) = some (.vptr (.agg [.int .i64 a, .int .i64 b])) := idx_imm u22 z33 (by omega) (by rw [Int.toNat_natCast, List.getElem?_map, List.getElem?_eq_getElem hjl, hp]; rfl)
    obtain ⟨H0, H1, g2, g3, hq, hl1, hk1⟩ := e_new' H a b
    obtain ⟨i0, i1⟩ := e_idx H.length
    obtain ⟨la, lb⟩ := e_load hq
    have hC1 := hC.ext (H' := H1) (fun k hk => hk1 k (by omega))
    have hK1 : H1[3]? = some (mapB kn mxk) := by rw [hk1 3 (by omega)]; exact hK
    have u1 := map_upd hK1 b
    have s1 := ck_n_0 (n : Int) lc x rds H 3 i (r.map encP) j a b _ H0 H1 _ b _ g0 g1 g2 g3 i1 lb u1
    rw [hml, wrap_succ (by omega)] at s1
    have hg := fun (rr k : Nat) (hk : k < H.length) => gc_get (base := H.length) (r := rr) (H := H1.set 3 (mapB (ins b kn) mxk)) (k := k) (by omega)
    have hC8 : ∀ rr, CS n adj (ins b kn) (gc H.length rr (H1.set 3 (mapB (ins b kn) mxk))) := fun rr =>
      ⟨by rw [hg rr 0 (by omega), List.getElem?_set_ne (by omega)]; exact hC1.near, by rw [hg rr 2 (by omega), List.getElem?_set_ne (by omega)]; exact hC1.tree, ⟨mxk, (hg rr 3 (by omega)).trans (List.getElem?_set_self (by omega))⟩⟩
    obtain ⟨H', r2, h2, h3⟩ := ih (j + 1) (ins b kn) _ (by omega) (hC8 _)
    refine ⟨H', RunsTo.loop s1 (by kernel_rfl) rfl r2 rfl (by kernel_rfl) (by kernel_rfl), h2, Nat.le_trans ?_ h3⟩
    unfold gc
    rw [List.length_take, List.length_set]
    omega
def encRd (r : List (Int × Int)) : HV := .imm .arg 2 (r.map encP)
def decRd : HV → Option (List (Int × Int)) | .imm .arg 2 l => mapO decP l | _ => none
theorem decRd_enc (r : List (Int × Int)) : decRd (encRd r) = some r := mapO_map decP_enc r
theorem decRd_inv (b : HV) (a : List (Int × Int)) (h : decRd b = some a) : b = encRd a := by
  unfold decRd at h
  split at h
  · rw [mapO_inv decP_inv h]; rfl
  · cases h
theorem u44b : Try.prog.underlying 44 = some (.slice 22) := by kernel_rfl
theorem z22b : tySize Try.prog 22 = some 1 := by kernel_rfl
theorem ck_rounds (n : Nat) (hn : 1 ≤ n ∧ n ≤ 1000) (lc : List HV) (x : Int) (R : List (List (Int × Int))) (hR : R.length ≤ 1000) (hRr : ∀ r ∈ R, r.length ≤ 1000) (adj : List (List Nat)) (hA : AInv n 1000 adj) : ∀ (d i : Nat) (kn : List Int) (H : Heap), i + d = R.length → CS n adj kn H →
    ∃ X E H', RunsTo Try.prog polV 29 (sub [1, 1, 1, 1, 0, 1, 0] B29) (kE29 (n : Int) lc x (R.map encRd) (.int .i64 0) .undef .undef .undef .undef .undef .undef .undef (.imm .arg 1 (R.map encRd)) (.int .i64 (R.length : Int)) (.int .i64 (i : Int)) .undef .undef .undef .undef .undef .undef) H X (polV.keys 29) E H' ∧
      ((∃ kn', ckGo (nrA n adj) (R.drop i) kn = some kn' ∧ X = .exit 0 ∧ E = kE29 (n : Int) lc x (R.map encRd) (.int .i64 0) .undef .undef .undef .undef .undef .undef .undef (.imm .arg 1 (R.map encRd)) (.int .i64 (R.length : Int)) (.int .i64 (R.length : Int)) .undef .undef .undef .undef .undef .undef ∧ CS n adj kn' H') ∨
       (ckGo (nrA n adj) (R.drop i) kn = none ∧ X = .ret ∧ E.get 8 = .int .i64 10)) := by
  intro d
  induction d with
  | zero =>
    intro i kn H hi hC
    have hi : i = R.length := by omega
    subst hi
    have f1 := ck_f_1 (n : Int) lc x (R.map encRd) H 3 R.length (by simp)
    have h1 := ck_h_0 (n : Int) lc x (R.map encRd) H 3 R.length
    rw [List.length_map] at f1 h1
    have t1 := RunsTo.seq f1 (RunsTo.seq_out h1 (by simp) (c := sub [1, 1, 1, 1, 0, 1, 0, 0, 1] B29) (b := sub [1, 1, 1, 1, 0, 1, 0, 0, 1, 1] B29) (by kernel_rfl)) (c := sub [1, 1, 1, 1, 0, 1, 0, 0] B29) (by kernel_rfl) (by kernel_rfl)
    exact ⟨_, _, _, RunsTo.loop_out t1 (by simp) (by kernel_rfl) (by kernel_rfl), .inl ⟨kn, by simp [ckGo], rfl, rfl, hC⟩⟩
  | succ d ih =>
    intro i kn H hi hC
    have hil : i < R.length := by omega
    have h4 := hC.four
    rw [List.drop_eq_getElem_cons hil, ckGo]
    have hrl := hRr _ (List.getElem_mem hil)
    generalize hr : R[i] = r at hrl
    have hml : ((R.map encRd).length : Int) = (R.length : Int) := by simp
    have f1 := ck_f_0 (n : Int) lc x (R.map encRd) H 3 i (by simp; omega)
    have g1 := ck_g_0 (n : Int) lc x (R.map encRd) H 3 i
    have i1 := ck_i_0 (n : Int) lc x (R.map encRd) H 3 i (r.map encP) (idx_imm u44b z22b (by omega) (by rw [Int.toNat_natCast, List.getElem?_map, List.getElem?_eq_getElem hil, hr]; rfl))
    have j1 := ck_j_0 (n : Int) lc x (R.map encRd) H 3 i (r.map encP) H.length _ rfl
    have k1 := ck_k_0 (n : Int) lc x (R.map encRd) (H ++ [.map [] [] 0]) 3 i (r.map encP) H.length
    rw [hml] at f1 g1 i1 j1 k1
    rw [List.length_map] at k1
    have hC1 : CS n adj kn (H ++ [.map [] [] 0]) := hC.ext fun k hk => by rw [List.getElem?_append_left (by omega)]
    obtain ⟨X, E, H', r1, h1⟩ := ck_calls n hn lc x (R.map encRd) i adj hA kn r hrl H.length h4 r.length 0 [] (H ++ [.map [] [] 0]) (by omega) hC1 ⟨0, by simp⟩
    rw [hml] at r1
    rw [List.drop_zero, hml] at h1
    rcases h1 with ⟨e, rfl, rfl, hC2⟩ | ⟨e, rfl, hE⟩
    · rw [if_pos e]
      have m1 := ck_m_0 (n : Int) lc x (R.map encRd) H' 3 i (r.map encP) H.length r.length
      rw [hml, List.length_map] at m1
      obtain ⟨H2, r2, hC3, hl2⟩ := ck_learn n lc x (R.map encRd) i adj r hrl r.length 0 kn H' (by omega) hC2
      have r2' := RunsTo.loop_in (e0 := kE29 (n : Int) lc x (R.map encRd) (.int .i64 0) .undef (.imm .arg 2 (r.map encP)) (.map H.length) .undef .undef .undef .undef (.imm .arg 1 (R.map encRd)) (.int .i64 (R.length : Int)) (.int .i64 (i : Int)) (.imm .arg 2 (r.map encP)) (.int .i64 (r.length : Int)) (.int .i64 (r.length : Int)) (.imm .arg 2 (r.map encP)) (.int .i64 (r.length : Int)) (.int .i64 0)) (by rw [hml] at r2; exact r2) (b := sub [1, 1, 1, 1, 0, 1, 0, 0, 1, 1, 0, 0, 1, 1, 1, 1, 0, 0] B29) (by kernel_rfl) (by kernel_rfl) (by kernel_rfl)
      have o1 := ck_o_0 (n : Int) lc x (R.map encRd) H2 3 i (r.map encP) r.length .undef
      rw [hml, List.length_map, wrap_succ (by omega)] at o1
      have hg := fun (rr k : Nat) (hk : k < H.length) => gc_get (base := H.length) (r := rr) (H := H2) (k := k) (by omega)
      have hC8 : ∀ rr, CS n adj (learn r kn) (gc H.length rr H2) := fun rr => by
        rw [List.drop_zero] at hC3
        exact hC3.ext fun k hk => hg rr k (by omega)
      obtain ⟨X, E, H3, r3, h3⟩ := ih (i + 1) (learn r kn) _ (by omega) (hC8 _)
      refine ⟨X, E, H3, ?_, h3⟩
      have t1 := RunsTo.seq k1 (RunsTo.block_exit (c := sub [1, 1, 1, 1, 0, 1, 0, 0, 1, 1, 0, 0, 1, 1, 0, 1] B29) r1 (by kernel_rfl)) (c := sub [1, 1, 1, 1, 0, 1, 0, 0, 1, 1, 0, 0, 1, 1, 0] B29) (by kernel_rfl) (by kernel_rfl)
      have t2 := RunsTo.seq m1 (RunsTo.block_exit (c := sub [1, 1, 1, 1, 0, 1, 0, 0, 1, 1, 0, 0, 1, 1, 1, 1] B29) r2' (by kernel_rfl)) (c := sub [1, 1, 1, 1, 0, 1, 0, 0, 1, 1, 0, 0, 1, 1, 1] B29) (by kernel_rfl) (by kernel_rfl)
      have t3 := RunsTo.seq t1 t2 (c := sub [1, 1, 1, 1, 0, 1, 0, 0, 1, 1, 0, 0, 1, 1] B29) (by kernel_rfl) (by kernel_rfl)
      have t4 := RunsTo.seq j1 t3 (c := sub [1, 1, 1, 1, 0, 1, 0, 0, 1, 1, 0, 0, 1] B29) (by kernel_rfl) (by kernel_rfl)
      have t5 := RunsTo.seq i1 t4 (c := sub [1, 1, 1, 1, 0, 1, 0, 0, 1, 1, 0, 0] B29) (by kernel_rfl) (by kernel_rfl)
      have t6 := RunsTo.block_normal (i := 1) (c := sub [1, 1, 1, 1, 0, 1, 0, 0, 1, 1, 0] B29) t5 (by kernel_rfl)
      have t7 := RunsTo.seq t6 o1 (c := sub [1, 1, 1, 1, 0, 1, 0, 0, 1, 1] B29) (by kernel_rfl) (by kernel_rfl)
      have t8 := RunsTo.seq g1 t7 (c := sub [1, 1, 1, 1, 0, 1, 0, 0, 1] B29) (by kernel_rfl) (by kernel_rfl)
      have t9 := RunsTo.seq f1 t8 (c := sub [1, 1, 1, 1, 0, 1, 0, 0] B29) (by kernel_rfl) (by kernel_rfl)
      exact RunsTo.loop t9 (by kernel_rfl) rfl r3 rfl (by kernel_rfl) (by kernel_rfl)
    · rw [if_neg (by rw [e]; simp)]
      refine ⟨_, E, H', ?_, .inr ⟨rfl, rfl, hE⟩⟩
      have t1 := RunsTo.seq k1 (RunsTo.block_ret (i := 2) (c := sub [1, 1, 1, 1, 0, 1, 0, 0, 1, 1, 0, 0, 1, 1, 0, 1] B29) r1 (by kernel_rfl)) (c := sub [1, 1, 1, 1, 0, 1, 0, 0, 1, 1, 0, 0, 1, 1, 0] B29) (by kernel_rfl) (by kernel_rfl)
      have t3 := RunsTo.seq_out t1 (by simp) (c := sub [1, 1, 1, 1, 0, 1, 0, 0, 1, 1, 0, 0, 1, 1] B29) (b := sub [1, 1, 1, 1, 0, 1, 0, 0, 1, 1, 0, 0, 1, 1, 1] B29) (by kernel_rfl)
      have t4 := RunsTo.seq j1 t3 (c := sub [1, 1, 1, 1, 0, 1, 0, 0, 1, 1, 0, 0, 1] B29) (by kernel_rfl) (by kernel_rfl)
      have t5 := RunsTo.seq i1 t4 (c := sub [1, 1, 1, 1, 0, 1, 0, 0, 1, 1, 0, 0] B29) (by kernel_rfl) (by kernel_rfl)
      have t6 := RunsTo.block_ret (i := 1) (c := sub [1, 1, 1, 1, 0, 1, 0, 0, 1, 1, 0] B29) t5 (by kernel_rfl)
      have t7 := RunsTo.seq_out t6 (by simp) (c := sub [1, 1, 1, 1, 0, 1, 0, 0, 1, 1] B29) (b := sub [1, 1, 1, 1, 0, 1, 0, 0, 1, 1, 1] B29) (by kernel_rfl)
      have t8 := RunsTo.seq g1 t7 (c := sub [1, 1, 1, 1, 0, 1, 0, 0, 1] B29) (by kernel_rfl) (by kernel_rfl)
      have t9 := RunsTo.seq f1 t8 (c := sub [1, 1, 1, 1, 0, 1, 0, 0] B29) (by kernel_rfl) (by kernel_rfl)
      exact RunsTo.loop_out t9 (by simp) (by kernel_rfl) (by kernel_rfl)
end Go.Proofs.Ytmhfkhlamnapdaa
end
section
open Go Go.HL
namespace Go.Proofs.Ytmhfkhlamnapdaa
theorem adjGo_inv {n : Nat} : ∀ (l : List (Int × Int)) (k : Nat) (adj : List (List Nat)), (∀ p ∈ l, validB (n : Int) p = true) → AInv n k adj → AInv n (k + 2 * l.length) (adjGo l adj)
  | [], k, adj, _, h => by simpa [adjGo] using h
  | p :: l, k, adj, hv, h => by
    have h1 := hv p (by simp)
    rw [validB, decide_eq_true_eq] at h1
    have hA := (h.add (a := p.1.toNat) (b := p.2.toNat) (by omega) (by omega)).add (a := p.2.toNat) (b := p.1.toNat) (by omega) (by omega)
    have := adjGo_inv l (k + 1 + 1) (adjStep adj p) (fun q hq => hv q (by simp [hq])) hA
    have e : k + 1 + 1 + 2 * l.length = k + 2 * (p :: l).length := by simp; omega
    rw [e] at this
    exact this
theorem AInv.mono {n k k' : Nat} {adj : List (List Nat)} (h : AInv n k adj) (hk : k ≤ k') : AInv n k' adj := ⟨h.len, fun r hr => ⟨by have := (h.row r hr).1; omega, (h.row r hr).2⟩⟩
theorem adjOf_inv {n : Nat} {l : List (Int × Int)} (hv : ∀ p ∈ l, validB (n : Int) p = true) : AInv n (2 * l.length) (adjOf n l) := by
  have := adjGo_inv l 0 _ hv (AInv.init n)
  rw [Nat.zero_add] at this
  exact this
def treeOk (n : Int) (l : List (Int × Int)) : Bool := decide (((1 ≤ n ∧ n ≤ 30) ∧ (l.length : Int) = n - 1) ∧ l.all (validB n) = true) && farOk (adjOf n.toNat l)
def checkF (n : Int) (l : List (Int × Int)) (x : Int) (R : List (List (Int × Int))) : Int :=
  if treeOk n l = true ∧ (0 ≤ x ∧ x ≤ n - 1) then (if spOk (nrA n.toNat (adjOf n.toNat l)) n x R = true then 0 else 10) else 2
def check29 : List HV → Option HV
  | [.int .i64 n, .imm .arg 2 lc, .int .i64 x, .imm .arg 1 rv] =>
    match mapO decP lc, mapO decRd rv with
    | some l, some R => if R.length ≤ 1000 ∧ (R.all fun r => decide (r.length ≤ 1000)) = true then some (.int .i64 (checkF n l x R)) else none
    | _, _ => none
  | _ => none
theorem res29 : Try.f29.results.toList = [.tmp 8] := by kernel_rfl
theorem rowO_any (adj : List (List Nat)) : (adj.map rowO).any isOwn = false := by
  rw [List.any_eq_false]
  intro v hv
  obtain ⟨k, _, rfl⟩ := List.mem_map.1 hv
  simp [rowO, isOwn]
theorem v46_ok {n : Nat} {l : List (Int × Int)} (hg : ((1 ≤ (n : Int) ∧ (n : Int) ≤ 30) ∧ (l.length : Int) = (n : Int) - 1) ∧ l.all (validB (n : Int)) = true) (b : Bool) (hb : farOk (adjOf n l) = b) : ∀ kf, callN Try.prog polV (kf + 1) 46 [.int .i64 (n : Int), .imm .arg 2 (l.map encP)] [] = some (.tuple [.agg [.sl 0 0 n none n 1, .map 1], .bool b], [.arr 1 ((adjOf n l).map rowO) true 0, .map [] [] 0]) := fun kf => by
  have hl : (adjOf n l).length = n := (adjOf_inv (List.all_eq_true.1 hg.2)).len
  rw [prim_call (pol := polV) (g := 46) (F := newTree46) (by kernel_rfl) (rs := [.int .i64 (n : Int), .imm .arg 2 (l.map encP)]) (by simp only [mapO, arg_pairs']; rfl) (res := .tuple [treeV (adjOf n l), .bool b]) (by simp only [newTree46, mapO_map decP_enc, newTreeF]; rw [if_pos hg, Int.toNat_natCast, hb])]
  have hno := rowO_any (adjOf n l)
  simp only [recv, recvVals, recvVal, treeV, recvCells, recvCell, hno, List.length_map, hl]
  rfl
theorem v46_bad {n : Int} {l : List (Int × Int)} (hg : ¬ (((1 ≤ n ∧ n ≤ 30) ∧ (l.length : Int) = n - 1) ∧ l.all (validB n) = true)) : ∀ kf, callN Try.prog polV (kf + 1) 46 [.int .i64 n, .imm .arg 2 (l.map encP)] [] = some (.tuple [.agg [.sl 0 0 0 none 0 0, .nilmap], .bool false], [.arr 0 [] true 0]) := fun kf => by
  rw [prim_call (pol := polV) (g := 46) (F := newTree46) (by kernel_rfl) (rs := [.int .i64 n, .imm .arg 2 (l.map encP)]) (by simp only [mapO, arg_pairs']; rfl) (res := .tuple [.agg [.own 0 [], .nilmap], .bool false]) (by simp only [newTree46, mapO_map decP_enc, newTreeF]; rw [if_neg hg])]
  rfl
theorem check_ok : PrimOk Try.prog 29 check29 := by
  refine primOk_pure (pol := polV) (fn := Try.f29) (cd := B29) follows_mixed soundV (by kernel_rfl) (by kernel_rfl) (fnok polV.prim _ _ (by kernel_rfl)) (by kernel_rfl) ?_
  intro args res h
  unfold check29 at h
  split at h
  · rename_i n lc x rv
    split at h
    · rename_i l R hlc hrv
      split at h
      · rename_i hg
        cases h
        rw [mapO_inv decP_inv hlc, mapO_inv decRd_inv hrv]
        have hRr : ∀ r ∈ R, r.length ≤ 1000 := fun r hr => of_decide_eq_true (List.all_eq_true.1 hg.2 r hr)
        have a1 := ck_a_0 n (l.map encP) x (R.map encRd)
        have fin : ∀ E H, RunsTo Try.prog polV 29 (sub [1] B29) (env29 (.int .i64 n) (.imm .arg 2 (l.map encP)) (.int .i64 x) (.imm .arg 1 (R.map encRd)) (.int .i64 0) .undef .undef .undef .undef .undef .undef .undef .undef .undef .undef .undef .undef .undef .undef .undef .undef .undef .undef) [] .ret (polV.keys 29) E H → E.get 8 = .int .i64 (checkF n l x R) →
            ∃ X E H' v, RunsTo Try.prog polV 29 B29 (args0 [.int .i64 n, .imm .arg 2 (l.map encP), .int .i64 x, .imm .arg 1 (R.map encRd)]) [] X (polV.keys 29) E H' ∧ (∀ i, X ≠ .exit i) ∧ resultsV Try.prog Try.f29 E H' = some v ∧ toRes H' (polV.deep 29) v = some (.int .i64 (checkF n l x R)) := by
          intro E H t hE
          exact ⟨_, _, _, .int .i64 (checkF n l x R), RunsTo.seq a1 t (c := B29) (by kernel_rfl) (by kernel_rfl), by simp, by simp only [resultsV, res29, mapO, resultV, hE], rfl⟩
        by_cases hT : (((1 ≤ n ∧ n ≤ 30) ∧ (l.length : Int) = n - 1) ∧ l.all (validB n) = true)
        · obtain ⟨m, rfl⟩ : ∃ m : Nat, n = (m : Int) := ⟨n.toNat, by omega⟩
          have hinv := adjOf_inv (List.all_eq_true.1 hT.2)
          have hA : AInv m 1000 (adjOf m l) := hinv.mono (by omega)
          have hwn : IntKind.i64.wrap ((m : Int) - 1) = (m : Int) - 1 := by rw [wrapI64]; omega
          by_cases hf : farOk (adjOf m l) = true
          · have b1 := ck_b_0 (m : Int) (l.map encP) x (R.map encRd) m ((adjOf m l).map rowO) (v46_ok hT true hf)
            have hTo : treeOk (m : Int) l = true := by rw [treeOk, decide_eq_true hT, Int.toNat_natCast, hf]; rfl
            by_cases hx : 0 ≤ x ∧ x ≤ (m : Int) - 1
            · have c1 := ck_c_0 (m : Int) (l.map encP) x (R.map encRd) m ((adjOf m l).map rowO) (v49 _ _ _ true (by rw [hwn]; exact decide_eq_true hx) _)
              have hF : checkF (m : Int) l x R = if spOk (nrA m (adjOf m l)) (m : Int) x R = true then 0 else 10 := by rw [checkF, if_pos ⟨hTo, hx⟩, Int.toNat_natCast]
              have hk0 : ([.arr 1 ((adjOf m l).map rowO) true 0, .map [] [] 0, .arr 2 [.agg [.sl 0 0 m none m 1, .map 1]] true 2, .map [] [] 0] : Heap)[3]? = some (mapB [] 0) := rfl
              have u1 := map_upd hk0 x
              have d1 := ck_d_0 (m : Int) (l.map encP) x (R.map encRd) [.arr 1 ((adjOf m l).map rowO) true 0, .map [] [] 0, .arr 2 [.agg [.sl 0 0 m none m 1, .map 1]] true 2] 3 _ _ rfl u1
              have hC : CS m (adjOf m l) [x] (([.arr 1 ((adjOf m l).map rowO) true 0, .map [] [] 0, .arr 2 [.agg [.sl 0 0 m none m 1, .map 1]] true 2, .map [] [] 0] : Heap).set 3 (mapB (ins x []) 0)) := ⟨rfl, rfl, ⟨0, rfl⟩⟩
              have e1 := ck_e_0 (m : Int) (l.map encP) x (R.map encRd) (([.arr 1 ((adjOf m l).map rowO) true 0, .map [] [] 0, .arr 2 [.agg [.sl 0 0 m none m 1, .map 1]] true 2, .map [] [] 0] : Heap).set 3 (mapB (ins x []) 0)) 3
              have hml : ((R.map encRd).length : Int) = (R.length : Int) := by simp
              rw [hml] at e1
              obtain ⟨X, E, H', r1, h1⟩ := ck_rounds m (by omega) (l.map encP) x R hg.1 hRr (adjOf m l) hA R.length 0 [x] _ (by omega) hC
              have r1' := RunsTo.loop_in (e0 := kE29 (m : Int) (l.map encP) x (R.map encRd) (.int .i64 0) (.bool true) .undef .undef .undef .undef .undef .undef (.imm .arg 1 (R.map encRd)) (.int .i64 (R.length : Int)) (.int .i64 0) .undef .undef .undef .undef .undef .undef) r1 (b := sub [1, 1, 1, 1, 0, 1, 0, 0] B29) (by kernel_rfl) (by kernel_rfl) (by kernel_rfl)
              have up : ∀ E H, RunsTo Try.prog polV 29 (sub [1, 1, 1, 1] B29) (kE29 (m : Int) (l.map encP) x (R.map encRd) (.int .i64 0) (.bool true) .undef .undef .undef .undef .undef .undef .undef .undef .undef .undef .undef .undef .undef .undef .undef) (([.arr 1 ((adjOf m l).map rowO) true 0, .map [] [] 0, .arr 2 [.agg [.sl 0 0 m none m 1, .map 1]] true 2, .map [] [] 0] : Heap).set 3 (mapB (ins x []) 0)) .ret (polV.keys 29) E H → _ := fun E H t =>
                RunsTo.seq b1 (RunsTo.seq c1 (RunsTo.seq d1 t (c := sub [1, 1, 1] B29) (by kernel_rfl) (by kernel_rfl)) (c := sub [1, 1] B29) (by kernel_rfl) (by kernel_rfl)) (c := sub [1] B29) (by kernel_rfl) (by kernel_rfl)
              rw [List.drop_zero] at h1
              rcases h1 with ⟨kn', hgo, rfl, rfl, hC2⟩ | ⟨hgo, rfl, hE⟩
              · obtain ⟨mx, hk⟩ := hC2.known
                have hln := map_len hk
                have t1 := RunsTo.seq e1 (RunsTo.block_exit (c := sub [1, 1, 1, 1, 0, 1] B29) r1' (by kernel_rfl)) (c := sub [1, 1, 1, 1, 0] B29) (by kernel_rfl) (by kernel_rfl)
                by_cases hlt : (kn'.length : Int) < (m : Int)
                · have y1 := ck_y_0 (m : Int) (l.map encP) x (R.map encRd) H' 3 R.length _ hln hlt
                  rw [hml] at y1
                  have t2 := RunsTo.seq_out y1 (by simp) (c := sub [1, 1, 1, 1, 1] B29) (b := sub [1, 1, 1, 1, 1, 1] B29) (by kernel_rfl)
                  have t3 := RunsTo.seq t1 t2 (c := sub [1, 1, 1, 1] B29) (by kernel_rfl) (by kernel_rfl)
                  refine fin _ _ (up _ _ t3) ?_
                  have : spOk (nrA m (adjOf m l)) (m : Int) x R = false := by rw [spOk, hgo]; exact decide_eq_false (by omega)
                  rw [hF, this]; rfl
                · have y1 := ck_y_1 (m : Int) (l.map encP) x (R.map encRd) H' 3 R.length _ hln hlt
                  have z1 := ck_z_0 (m : Int) (l.map encP) x (R.map encRd) H' 3 R.length
                  rw [hml] at y1 z1
                  have t2 := RunsTo.seq y1 z1 (c := sub [1, 1, 1, 1, 1] B29) (by kernel_rfl) (by kernel_rfl)
                  have t3 := RunsTo.seq t1 t2 (c := sub [1, 1, 1, 1] B29) (by kernel_rfl) (by kernel_rfl)
                  refine fin _ _ (up _ _ t3) ?_
                  have : spOk (nrA m (adjOf m l)) (m : Int) x R = true := by rw [spOk, hgo]; exact decide_eq_true (by omega)
                  rw [hF, this]; rfl
              · have t1 := RunsTo.seq e1 (RunsTo.block_ret (i := 0) (c := sub [1, 1, 1, 1, 0, 1] B29) r1' (by kernel_rfl)) (c := sub [1, 1, 1, 1, 0] B29) (by kernel_rfl) (by kernel_rfl)
                have t3 := RunsTo.seq_out t1 (by simp) (c := sub [1, 1, 1, 1] B29) (b := sub [1, 1, 1, 1, 1] B29) (by kernel_rfl)
                refine fin _ _ (up _ _ t3) ?_
                have : spOk (nrA m (adjOf m l)) (m : Int) x R = false := by rw [spOk, hgo]
                rw [hF, this, hE]; rfl
            · have c1 := ck_c_1 (m : Int) (l.map encP) x (R.map encRd) m ((adjOf m l).map rowO) (v49 _ _ _ false (by rw [hwn]; exact decide_eq_false hx) _)
              refine fin _ _ (RunsTo.seq b1 (RunsTo.seq_out c1 (by simp) (c := sub [1, 1] B29) (b := sub [1, 1, 1] B29) (by kernel_rfl)) (c := sub [1] B29) (by kernel_rfl) (by kernel_rfl)) ?_
              rw [checkF, if_neg (fun h => hx h.2)]; rfl
          · have hf' : farOk (adjOf m l) = false := by cases h : farOk (adjOf m l) with | true => exact absurd h hf | false => rfl
            have b1 := ck_b_1 (m : Int) (l.map encP) x (R.map encRd) m ((adjOf m l).map rowO) (v46_ok hT false hf')
            have c1 := ck_cf_0 (m : Int) (l.map encP) x (R.map encRd) m ((adjOf m l).map rowO)
            refine fin _ _ (RunsTo.seq b1 (RunsTo.seq_out c1 (by simp) (c := sub [1, 1] B29) (b := sub [1, 1, 1] B29) (by kernel_rfl)) (c := sub [1] B29) (by kernel_rfl) (by kernel_rfl)) ?_
            have hTo : treeOk (m : Int) l = false := by rw [treeOk, Int.toNat_natCast, hf', Bool.and_false]
            rw [checkF, if_neg (fun h => by rw [hTo] at h; exact absurd h.1 (by simp))]; rfl
        · have b1 := ck_b_2 n (l.map encP) x (R.map encRd) (v46_bad hT)
          have c1 := ck_cb_0 n (l.map encP) x (R.map encRd)
          refine fin _ _ (RunsTo.seq b1 (RunsTo.seq_out c1 (by simp) (c := sub [1, 1] B29) (b := sub [1, 1, 1] B29) (by kernel_rfl)) (c := sub [1] B29) (by kernel_rfl) (by kernel_rfl)) ?_
          have hTo : treeOk n l = false := by rw [treeOk, decide_eq_false hT, Bool.false_and]
          rw [checkF, if_neg (fun h => by rw [hTo] at h; exact absurd h.1 (by simp))]; rfl
      · cases h
    · cases h
  · cases h
end Go.Proofs.Ytmhfkhlamnapdaa
end
section
open Go Go.HL
namespace Go.Proofs.Ytmhfkhlamnapdaa
set_option maxRecDepth 100000
noncomputable def B53 : Code := Try.f53.body.getD .skip
abbrev env53 (v0 v1 v2 v6 v7 : HV) : Env := [(0, v0), (1, v1), (2, v2), (6, v6), (7, v7)]
theorem nr_a_0 (lc : List HV) (a b : Int)   : RunsTo Try.prog pol 53 (sub [0] B53) [(0, .imm .arg 2 lc), (1, .int .i64 a), (2, .int .i64 b)] [] (.normal) (pol.keys 53) (env53 (.imm .arg 2 lc) (.int .i64 a) (.int .i64 b) (.bool false) .undef) [] :=
  RunsTo.hint 1 60 [] fun kf hk => by
    obtain ⟨kf, rfl⟩ : ∃ n, kf = n + 1 := ⟨kf - 1, by omega⟩
    exact ⟨[], by kernel_rfl, Obls.nil⟩
theorem nr_b_0 (lc : List HV) (a b : Int)   : RunsTo Try.prog pol 53 (sub [1, 0, 0] B53) (env53 (.imm .arg 2 lc) (.int .i64 a) (.int .i64 b) (.bool false) .undef) [] (.normal) (pol.keys 53) (env53 (.imm .arg 2 lc) (.int .i64 a) (.int .i64 b) (.bool false) (.int .i64 0)) [] :=
  RunsTo.hint 1 60 [] fun kf hk => by
    obtain ⟨kf, rfl⟩ : ∃ n, kf = n + 1 := ⟨kf - 1, by omega⟩
    exact ⟨[], by kernel_rfl, Obls.nil⟩
theorem nr_l_0 (lc : List HV) (a b : Int) (j : Nat) (x0 : Int) (x1 : Int) (g0 : (j : Int) < (lc.length : Int)) (g1 : idxV Try.prog 22 (.imm .arg 2 lc) (.int .i64 (j : Int)) = some (.vptr (.agg [.int .i64 x0, .int .i64 x1]))) (g2 : binV Try.prog .eql 33 (.agg [.int .i64 x0, .int .i64 x1]) (.agg [.int .i64 a, .int .i64 b]) = some (.bool true)) : RunsTo Try.prog pol 53 (sub [1, 0, 1, 0, 0] B53) (env53 (.imm .arg 2 lc) (.int .i64 a) (.int .i64 b) (.bool false) (.int .i64 (j : Int))) [] (.ret) (pol.keys 53) (env53 (.imm .arg 2 lc) (.int .i64 a) (.int .i64 b) (.bool true) (.int .i64 (j : Int))) [] :=
  RunsTo.hint 1 60 [⟨2, 3, .bool true, []⟩, ⟨4, 2, .vptr (.agg [.int .i64 x0, .int .i64 x1]), []⟩, ⟨4, 7, .bool true, []⟩] fun kf hk => by
    obtain ⟨kf, rfl⟩ : ∃ n, kf = n + 1 := ⟨kf - 1, by omega⟩
    exact ⟨[some (HV.bool (decide ((j : Int) < (lc.length : Int))), ([] : Heap)) = some (.bool true, []), (idxV Try.prog 22 (.imm .arg 2 lc) (.int .i64 (j : Int))).map (fun v => (v, ([] : Heap))) = some (.vptr (.agg [.int .i64 x0, .int .i64 x1]), []), (binV Try.prog .eql 33 (.agg [.int .i64 x0, .int .i64 x1]) (.agg [.int .i64 a, .int .i64 b])).map (fun v => (v, ([] : Heap))) = some (.bool true, [])], by kernel_rfl, Obls.cons (hintB (decide_eq_true g0)) (Obls.cons (hintOp g1) (Obls.cons (hintOp g2) Obls.nil))⟩
theorem nr_l_1 (lc : List HV) (a b : Int) (j : Nat) (x0 : Int) (x1 : Int) (x2 : Int) (x3 : Int) (g0 : (j : Int) < (lc.length : Int)) (g1 : idxV Try.prog 22 (.imm .arg 2 lc) (.int .i64 (j : Int)) = some (.vptr (.agg [.int .i64 x0, .int .i64 x1]))) (g2 : binV Try.prog .eql 33 (.agg [.int .i64 x0, .int .i64 x1]) (.agg [.int .i64 a, .int .i64 b]) = some (.bool false)) (g3 : idxV Try.prog 22 (.imm .arg 2 lc) (.int .i64 (j : Int)) = some (.vptr (.agg [.int .i64 x2, .int .i64 x3]))) (g4 : binV Try.prog .eql 33 (.agg [.int .i64 x2, .int .i64 x3]) (.agg [.int .i64 b, .int .i64 a]) = some (.bool true)) : RunsTo Try.prog pol 53 (sub [1, 0, 1, 0, 0] B53) (env53 (.imm .arg 2 lc) (.int .i64 a) (.int .i64 b) (.bool false) (.int .i64 (j : Int))) [] (.ret) (pol.keys 53) (env53 (.imm .arg 2 lc) (.int .i64 a) (.int .i64 b) (.bool true) (.int .i64 (j : Int))) [] :=
  RunsTo.hint 1 60 [⟨2, 3, .bool true, []⟩, ⟨4, 2, .vptr (.agg [.int .i64 x0, .int .i64 x1]), []⟩, ⟨4, 7, .bool false, []⟩, ⟨4, 11, .vptr (.agg [.int .i64 x2, .int .i64 x3]), []⟩, ⟨4, 16, .bool true, []⟩] fun kf hk => by
    obtain ⟨kf, rfl⟩ : ∃ n, kf = n + 1 := ⟨kf - 1, by omega⟩
    exact ⟨[some (HV.bool (decide ((j : Int) < (lc.length : Int))), ([] : Heap)) = some (.bool true, []), (idxV Try.prog 22 (.imm .arg 2 lc) (.int .i64 (j : Int))).map (fun v => (v, ([] : Heap))) = some (.vptr (.agg [.int .i64 x0, .int .i64 x1]), []), (binV Try.prog .eql 33 (.agg [.int .i64 x0, .int .i64 x1]) (.agg [.int .i64 a, .int .i64 b])).map (fun v => (v, ([] : Heap))) = some (.bool false, []), (idxV Try.prog 22 (.imm .arg 2 lc) (.int .i64 (j : Int))).map (fun v => (v, ([] : Heap))) = some (.vptr (.agg [.int .i64 x2, .int .i64 x3]), []), (binV Try.prog .eql 33 (.agg [.int .i64 x2, .int .i64 x3]) (.agg [.int .i64 b, .int .i64 a])).map (fun v => (v, ([] : Heap))) = some (.bool true, [])], by kernel_rfl, Obls.cons (hintB (decide_eq_true g0)) (Obls.cons (hintOp g1) (Obls.cons (hintOp g2) (Obls.cons (hintOp g3) (Obls.cons (hintOp g4) Obls.nil))))⟩
theorem nr_l_2 (lc : List HV) (a b : Int) (j : Nat) (x0 : Int) (x1 : Int) (x2 : Int) (x3 : Int) (g0 : (j : Int) < (lc.length : Int)) (g1 : idxV Try.prog 22 (.imm .arg 2 lc) (.int .i64 (j : Int)) = some (.vptr (.agg [.int .i64 x0, .int .i64 x1]))) (g2 : binV Try.prog .eql 33 (.agg [.int .i64 x0, .int .i64 x1]) (.agg [.int .i64 a, .int .i64 b]) = some (.bool false)) (g3 : idxV Try.prog 22 (.imm .arg 2 lc) (.int .i64 (j : Int)) = some (.vptr (.agg [.int .i64 x2, .int .i64 x3]))) (g4 : binV Try.prog .eql 33 (.agg [.int .i64 x2, .int .i64 x3]) (.agg [.int .i64 b, .int .i64 a]) = some (.bool false)) : RunsTo Try.prog pol 53 (sub [1, 0, 1, 0, 0] B53) (env53 (.imm .arg 2 lc) (.int .i64 a) (.int .i64 b) (.bool false) (.int .i64 (j : Int))) [] (.normal) (pol.keys 53) (env53 (.imm .arg 2 lc) (.int .i64 a) (.int .i64 b) (.bool false) (.int .i64 (IntKind.i64.wrap ((j : Int) + 1)))) [] :=
  RunsTo.hint 1 60 [⟨2, 3, .bool true, []⟩, ⟨4, 2, .vptr (.agg [.int .i64 x0, .int .i64 x1]), []⟩, ⟨4, 7, .bool false, []⟩, ⟨4, 11, .vptr (.agg [.int .i64 x2, .int .i64 x3]), []⟩, ⟨4, 16, .bool false, []⟩] fun kf hk => by
    obtain ⟨kf, rfl⟩ : ∃ n, kf = n + 1 := ⟨kf - 1, by omega⟩
    exact ⟨[some (HV.bool (decide ((j : Int) < (lc.length : Int))), ([] : Heap)) = some (.bool true, []), (idxV Try.prog 22 (.imm .arg 2 lc) (.int .i64 (j : Int))).map (fun v => (v, ([] : Heap))) = some (.vptr (.agg [.int .i64 x0, .int .i64 x1]), []), (binV Try.prog .eql 33 (.agg [.int .i64 x0, .int .i64 x1]) (.agg [.int .i64 a, .int .i64 b])).map (fun v => (v, ([] : Heap))) = some (.bool false, []), (idxV Try.prog 22 (.imm .arg 2 lc) (.int .i64 (j : Int))).map (fun v => (v, ([] : Heap))) = some (.vptr (.agg [.int .i64 x2, .int .i64 x3]), []), (binV Try.prog .eql 33 (.agg [.int .i64 x2, .int .i64 x3]) (.agg [.int .i64 b, .int .i64 a])).map (fun v => (v, ([] : Heap))) = some (.bool false, [])], by kernel_rfl, Obls.cons (hintB (decide_eq_true g0)) (Obls.cons (hintOp g1) (Obls.cons (hintOp g2) (Obls.cons (hintOp g3) (Obls.cons (hintOp g4) Obls.nil))))⟩
theorem nr_l_3 (lc : List HV) (a b : Int) (j : Nat)  (g0 : ¬ ((j : Int) < (lc.length : Int))) : RunsTo Try.prog pol 53 (sub [1, 0, 1, 0, 0] B53) (env53 (.imm .arg 2 lc) (.int .i64 a) (.int .i64 b) (.bool false) (.int .i64 (j : Int))) [] (.exit 0) (pol.keys 53) (env53 (.imm .arg 2 lc) (.int .i64 a) (.int .i64 b) (.bool false) (.int .i64 (j : Int))) [] :=
  RunsTo.hint 1 60 [⟨2, 3, .bool false, []⟩] fun kf hk => by
    obtain ⟨kf, rfl⟩ : ∃ n, kf = n + 1 := ⟨kf - 1, by omega⟩
    exact ⟨[some (HV.bool (decide ((j : Int) < (lc.length : Int))), ([] : Heap)) = some (.bool false, [])], by kernel_rfl, Obls.cons (hintB (decide_eq_false g0)) Obls.nil⟩
theorem nr_z_0 (lc : List HV) (a b : Int) (j : Nat)   : RunsTo Try.prog pol 53 (sub [1, 1] B53) (env53 (.imm .arg 2 lc) (.int .i64 a) (.int .i64 b) (.bool false) (.int .i64 (j : Int))) [] (.ret) (pol.keys 53) (env53 (.imm .arg 2 lc) (.int .i64 a) (.int .i64 b) (.bool false) (.int .i64 (j : Int))) [] :=
  RunsTo.hint 1 60 [] fun kf hk => by
    obtain ⟨kf, rfl⟩ : ∃ n, kf = n + 1 := ⟨kf - 1, by omega⟩
    exact ⟨[], by kernel_rfl, Obls.nil⟩
end Go.Proofs.Ytmhfkhlamnapdaa
end
section
open Go Go.HL
namespace Go.Proofs.Ytmhfkhlamnapdaa
def isNear (a b : Int) (p : Int × Int) : Bool := decide (p = (a, b) ∨ p = (b, a))
theorem pair_eql (a b c d : Int) : binV Try.prog .eql 33 (.agg [.int .i64 a, .int .i64 b]) (.agg [.int .i64 c, .int .i64 d]) = some (.bool (decide ((a, b) = (c, d)))) := by
  have h1 : plainCells Try.prog 33 [.int .i64 a, .int .i64 b] = true := by kernel_rfl
  have h2 : Try.prog.eqGuardType Try.prog.depth 33 = false := by kernel_rfl
  have h3 : tyAgg Try.prog 33 = true := by kernel_rfl
  simp only [binV, h1, h2, h3, aggEq, scEq]
  simp only [Bool.not_false, Bool.and_self, if_true, Bool.and_true, Prod.mk.injEq]
  by_cases e1 : a = c <;> by_cases e2 : b = d <;> simp [e1, e2]
theorem near_loop (l : List (Int × Int)) (hl : l.length ≤ 1000) (a b : Int) : ∀ (d j : Nat), j + d = l.length →
    ∃ x E, RunsTo Try.prog pol 53 (sub [1, 0, 1, 0] B53) (env53 (.imm .arg 2 (l.map encP)) (.int .i64 a) (.int .i64 b) (.bool false) (.int .i64 (j : Int))) [] x (pol.keys 53) E [] ∧
      (((l.drop j).any (isNear a b) = false ∧ x = .exit 0 ∧ E = env53 (.imm .arg 2 (l.map encP)) (.int .i64 a) (.int .i64 b) (.bool false) (.int .i64 (l.length : Int))) ∨ ((l.drop j).any (isNear a b) = true ∧ x = .ret ∧ E.get 6 = .bool true)) := by
  intro d
  induction d with
  | zero =>
    intro j hj
    have hj : j = l.length := by omega
    subst hj
    exact ⟨_, _, RunsTo.loop_out (nr_l_3 (l.map encP) a b l.length (by simp)) (by simp) (by kernel_rfl) (by kernel_rfl), .inl ⟨by simp, rfl, rfl⟩⟩
  | succ d ih =>
    intro j hj
    have hjl : j < l.length := by omega
    rw [List.drop_eq_getElem_cons hjl, List.any_cons]
    have g1 : idxV Try.prog 22 (.imm .arg 2 (l.map encP)) (.int .i64 (j : Int)) = some (.vptr (.agg [.int .i64 l[j].1, .int .i64 l[j].2])) := idx_imm u22 z33 (by omega) (by rw [Int.toNat_natCast, List.getElem?_map, List.getElem?_eq_getElem hjl]; rfl)
    have g0 : (j : Int) < ((l.map encP).length : Int) := by simp; omega
    by_cases h1 : (l[j].1, l[j].2) = (a, b)
    · have e : isNear a b l[j] = true := decide_eq_true (.inl h1)
      rw [e, Bool.true_or]
      exact ⟨_, _, RunsTo.loop_out (nr_l_0 (l.map encP) a b j _ _ g0 g1 (by rw [pair_eql, decide_eq_true h1])) (by simp) (by kernel_rfl) (by kernel_rfl), .inr ⟨rfl, rfl, rfl⟩⟩
    · by_cases h2 : (l[j].1, l[j].2) = (b, a)
      · have e : isNear a b l[j] = true := decide_eq_true (.inr h2)
        rw [e, Bool.true_or]
        exact ⟨_, _, RunsTo.loop_out (nr_l_1 (l.map encP) a b j _ _ _ _ g0 g1 (by rw [pair_eql, decide_eq_false h1]) g1 (by rw [pair_eql, decide_eq_true h2])) (by simp) (by kernel_rfl) (by kernel_rfl), .inr ⟨rfl, rfl, rfl⟩⟩
      · have e : isNear a b l[j] = false := decide_eq_false (fun h => h.elim h1 h2)
        rw [e, Bool.false_or]
        obtain ⟨x, E, r, h⟩ := ih (j + 1) (by omega)
        have s1 := nr_l_2 (l.map encP) a b j _ _ _ _ g0 g1 (by rw [pair_eql, decide_eq_false h1]) g1 (by rw [pair_eql, decide_eq_false h2])
        rw [wrap_succ (by omega)] at s1
        exact ⟨x, E, RunsTo.loop s1 (by kernel_rfl) rfl r rfl (by kernel_rfl) (by kernel_rfl), h⟩
def near53 : List HV → Option HV
  | [.imm .arg 2 lc, .int .i64 a, .int .i64 b] => match mapO decP lc with | some l => if l.length ≤ 1000 then some (.bool (l.any (isNear a b))) else none | none => none
  | _ => none
theorem res53 : Try.f53.results.toList = [.tmp 6] := by kernel_rfl
theorem near_ok : PrimOk Try.prog 53 near53 := by
  refine primOk_pure (pol := pol) (fn := Try.f53) (cd := B53) follows_mixed sound (by kernel_rfl) (by kernel_rfl) (fnok pol.prim _ _ (by kernel_rfl)) (by kernel_rfl) ?_
  intro args res h
  unfold near53 at h
  split at h
  · rename_i lc a b
    split at h
    · rename_i l hlc
      split at h
      · rename_i hl
        cases h
        rw [mapO_inv decP_inv hlc]
        have a1 := nr_a_0 (l.map encP) a b
        have b1 := nr_b_0 (l.map encP) a b
        obtain ⟨x, E, r, h⟩ := near_loop l hl a b l.length 0 (by omega)
        rw [List.drop_zero] at h
        rcases h with ⟨e, rfl, rfl⟩ | ⟨e, rfl, hE⟩
        · have t1 := RunsTo.seq b1 (RunsTo.block_exit (c := sub [1, 0, 1] B53) r (by kernel_rfl)) (c := sub [1, 0] B53) (by kernel_rfl) (by kernel_rfl)
          have t2 := RunsTo.seq t1 (nr_z_0 (l.map encP) a b l.length) (c := sub [1] B53) (by kernel_rfl) (by kernel_rfl)
          have t3 := RunsTo.seq a1 t2 (c := B53) (by kernel_rfl) (by kernel_rfl)
          rw [e]
          exact ⟨_, _, _, _, t3, by simp, by simp only [resultsV, res53]; rfl, rfl⟩
        · have t1 := RunsTo.seq b1 (RunsTo.block_ret (i := 0) (c := sub [1, 0, 1] B53) r (by kernel_rfl)) (c := sub [1, 0] B53) (by kernel_rfl) (by kernel_rfl)
          have t2 := RunsTo.seq_out t1 (by simp) (c := sub [1] B53) (b := sub [1, 1] B53) (by kernel_rfl)
          have t3 := RunsTo.seq a1 t2 (c := B53) (by kernel_rfl) (by kernel_rfl)
          rw [e]
          exact ⟨_, _, _, .bool true, t3, by simp, by simp only [resultsV, res53, mapO, resultV, hE], rfl⟩
      · cases h
    · cases h
  · cases h
end Go.Proofs.Ytmhfkhlamnapdaa
end
section
open Go Go.HL
namespace Go.Proofs.Ytmhfkhlamnapdaa
/-- The policy of Complete. -/
def primY (g : FuncId) : Option (List HV → Option HV) := if g == 53 then some near53 else none
def polY : Pol := { pol with prim := primY }
theorem primY_ok (g : FuncId) (f : List HV → Option HV) (h : primY g = some f) : PrimOk Try.prog g f := by
  unfold primY at h
  split at h
  · rename_i hg; cases h; rw [eq_of_beq hg]; exact near_ok
  · cases h
theorem soundY (n : Nat) : CallSound Try.prog (callN Try.prog polY n) := sound_prim primY primY_ok n
end Go.Proofs.Ytmhfkhlamnapdaa
end
