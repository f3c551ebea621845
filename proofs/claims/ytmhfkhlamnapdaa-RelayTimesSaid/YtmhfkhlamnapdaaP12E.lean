/- A part of the proof. -/
import Derived.Test.YtmhfkhlamnapdaaP12D
set_option linter.unusedVariables false
set_option linter.unusedSimpArgs false
section
namespace Go.HL
open Go.ChangeShapes Go.WideShapes Go.ChangeAt Go.RowKit Go.Deep
theorem okNil (w : World) (r : Nat) : okOf Ctx.nil w.heap.size false r := by
  refine ⟨fun hM => ?_, by simp⟩
  obtain ⟨b, y, h1, _, _⟩ := M_iff.1 hM
  simp [Ctx.nil] at h1
theorem cell_lt {w : World} {a : Addr} {v : Value} (h : w.cell? a = some v) : a.block < w.heap.size := by
  rcases Nat.lt_or_ge a.block w.heap.size with hl | hl
  · exact hl
  · have : w.heap[a.block]? = none := by simp [hl]
    simp [World.cell?, this] at h
theorem arg_pairs_ok {H : Type} {enc : TypeId × Value → H} {P : Program} {W : World} {base : Nat} {t e q : TypeId} {v : Value} {d : DataW H} {ps : List MemPlace} (ht : P.underlying t = some (.slice e)) (he : P.underlying e = some (.array 2 q)) (hq : P.underlying q = some (.int .i64)) (ce : P.cellsOf e = 2) (cq : P.cellsOf q = 1)
    (hval : Value.okWide P W .any base t v) (hd : DataW.Trod enc P W 0 (fun _ => true) true t v d ps) : ∃ l : List (Int × Int), V W (okOf Ctx.nil W.heap.size) Ctx.nil (.imm .arg 2 (l.map encP)) v := by
  obtain ⟨a, len, cap, rfl⟩ := okWide_slice ht hval
  obtain ⟨fuel, hf⟩ := hd
  rcases open_slice ht hf with ⟨h0, _⟩ | ⟨a', len', cap', m, n, D, Pl, h0, hb, hl, hm, hmm, hx, hel⟩
  · simp [Value.cells] at h0
    obtain ⟨rfl, rfl, rfl⟩ := h0
    exact ⟨[], .imm .arg 2 [] none 0 (fun _ => .bool false) (by simp) (by simp) (by simp) (by simp) (by simp) (by simp)⟩
  · simp [Value.cells] at h0
    obtain ⟨rfl, rfl, rfl⟩ := h0
    have hlm : len ≤ m := by rw [hmm]; split <;> omega
    have each : ∀ i, i < len → ∃ p : Int × Int, W.cell? (a'.add (i * 2)) = some (.int .i64 p.1) ∧ W.cell? (a'.add (i * 2 + 1)) = some (.int .i64 p.2) := by
      intro i hi
      obtain ⟨cs', h1, h2⟩ := hel i (by omega)
      rw [ce] at h1
      obtain ⟨_, hlen, hcell⟩ := World.cells?_some h1
      obtain ⟨xs, k, _, _, _, hxl, hxs⟩ := DataW.trod_array he h2
      match cs', hlen with
      | [v0, v1], _ =>
        have g0 := hxs 0 (by omega)
        have g1 := hxs 1 (by omega)
        have hx0 : xs[0]? = some xs[0] := List.getElem?_eq_getElem (by omega)
        have hx1 : xs[1]? = some xs[1] := List.getElem?_eq_getElem (by omega)
        rw [cq, hx0] at g0
        rw [cq, hx1] at g1
        simp at g0 g1
        obtain ⟨z0, e0, _, _⟩ := DataW.trod_int hq g0
        obtain ⟨z1, e1, _, _⟩ := DataW.trod_int hq g1
        simp at e0 e1
        subst e0; subst e1
        have c0 := hcell 0 (by omega)
        have c1 := hcell 1 (by omega)
        rw [add_add] at c0 c1
        exact ⟨(z0, z1), by simpa using c0, by simpa using c1⟩
    obtain ⟨f, hf⟩ := choose_lt each
    refine ⟨(List.range len).map f, ?_⟩
    have hlen : (((List.range len).map f).map encP).length = len := by simp
    have key := V.imm (w := W) (ok := okOf Ctx.nil W.heap.size) (c := Ctx.nil) .arg 2 (((List.range len).map f).map encP) (some a') cap (fun j => if j % 2 = 0 then .int .i64 (f (j / 2)).1 else .int .i64 (f (j / 2)).2)
      (by rw [hlen]; exact hl) (by simp) ?_ ?_ ?_ ?_
    · rw [hlen] at key; exact key
    · intro hne
      have h0 : 0 < len := by
        rcases Nat.eq_zero_or_pos len with h | h
        · subst h; simp at hne
        · exact h
      obtain ⟨b, off, spot⟩ := a'
      have hspot : spot = none := by simpa [Addr.add] using World.cell?_spot (hf 0 h0).1
      subst hspot
      refine ⟨b, off, rfl, by simpa [Addr.add] using cell_lt (hf 0 h0).1, okNil W b, fun j hj => ?_⟩
      rw [hlen] at hj
      have hj2 : j / 2 < len := by omega
      obtain ⟨c0, c1⟩ := hf (j / 2) hj2
      by_cases hp : j % 2 = 0
      · rw [if_pos hp]
        have : j / 2 * 2 = j := by omega
        rw [this, add_plain] at c0
        exact c0
      · rw [if_neg hp]
        have : j / 2 * 2 + 1 = j := by omega
        rw [this, add_plain] at c1
        exact c1
    · intro v hv
      obtain ⟨p, _, rfl⟩ := List.mem_map.1 hv
      rfl
    · intro v hv
      obtain ⟨p, _, rfl⟩ := List.mem_map.1 hv
      rfl
    · intro i v j x hi hj
      have hil : i < len := by have := lt_of_get hi; rw [hlen] at this; exact this
      have : v = encP (f i) := by
        rw [List.getElem?_map, List.getElem?_map, List.getElem?_range hil] at hi
        simpa using hi.symm
      subst this
      have hjx : j < 2 := lt_of_get hj
      match j, hjx, hj with
      | 0, _, hj =>
        simp [encP, cellsOf] at hj
        subst hj
        have e1 : (i * 2 + 0) % 2 = 0 := by omega
        have e2 : (i * 2 + 0) / 2 = i := by omega
        rw [if_pos e1, e2]
        exact V.int _ _
      | 1, _, hj =>
        simp [encP, cellsOf] at hj
        subst hj
        have e1 : ¬ (i * 2 + 1) % 2 = 0 := by omega
        have e2 : (i * 2 + 1) / 2 = i := by omega
        rw [if_neg e1, e2]
        exact V.int _ _
end Go.HL
end
