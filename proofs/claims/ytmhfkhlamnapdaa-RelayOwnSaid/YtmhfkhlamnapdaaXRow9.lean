/- RelayOwn: for every int, every list of ints and every int the law 'lampboxlaw09.RelayOwn' returns true, and changes nothing. Without conditions. -/
import Derived.Test.YtmhfkhlamnapdaaP9E
import Derived.Test.YtmhfkhlamnapdaaRows
set_option linter.unusedVariables false
set_option linter.unusedSimpArgs false
open Go Go.HL Go.ChangeShapes Go.WideShapes Go.ChangeAt Go.RowKit
namespace Go.Proofs.Ytmhfkhlamnapdaa
theorem Try.own : ownKnob Try.prog.godebug = none := by kernel_rfl
theorem Try.laidOut : laidOutB Try.prog = true := by kernel_rfl
theorem arg_intsR (l : List Int) : toArg [] 6 (.imm .arg 1 (l.map encI)) = some (.imm .arg 1 (l.map encI)) := by
  show argP (.imm .arg 1 (l.map encI)) = _
  simp only [argP, argP_ints']
theorem relayOwn_run (n : Int) (l : List Int) (b : Int) : ∃ k H', callN Try.prog pol9 k 9 [.int .i64 n, .imm .arg 1 (l.map encI), .int .i64 b] [] = some (.bool true, H') := by
  obtain ⟨E, H, t, hv⟩ := relayOwn_law n l b
  obtain ⟨k, h⟩ := CallsTo.pure (pol := pol9) (g := 9) (fn := Try.f9) (cd := B9) (args := [.int .i64 n, .imm .arg 1 (l.map encI), .int .i64 b]) (rs := [.int .i64 n, .imm .arg 1 (l.map encI), .int .i64 b]) (H := []) (v := .bool true) (r := .bool true) (by kernel_rfl) (by kernel_rfl) (by kernel_rfl) (by kernel_rfl) (by kernel_rfl) (by simp only [mapO, arg_intsR]; rfl) t (by kernel_rfl) (by simp) (by simp only [resultsV, res9, mapO, resultV, hv]) rfl
  exact ⟨k, _, h k (Nat.le_refl k)⟩
theorem u33a : Try.prog.underlying 33 = some (.array 2 3) := by kernel_rfl
theorem u3a : Try.prog.underlying 3 = some (.int .i64) := by kernel_rfl
theorem c33a : Try.prog.cellsOf 33 = 2 := by kernel_rfl
theorem c3a : Try.prog.cellsOf 3 = 1 := by kernel_rfl

set_option maxRecDepth 100000 in
theorem relayOwn_lifted (os : Os) (started : os.Started) (H : Type) (enc : TypeId × Value → H) :
    ReturnsInHanded {} Try.checked os 9 .any (Rows.relayOwnSpec.pre6 enc Try.prog Try.f9 Rows.relayOwnRow.domain false) (Rows.relayOwnSpec.post enc Try.prog Try.f9 false true false false) := by
  refine returnsInHanded_of_change (C := Try.checked) Try.own started (by kernel_rfl) Try.func9
    (ChangeSpec.witness6 (enc := enc) (C := Try.checked) false ⟨#[], #[.int .i64 0, .slice none 0 0, .int .i64 0], []⟩ 8 (by kernel_rfl) (by kernel_rfl) (by kernel_rfl) (by kernel_rfl)) ?_
  intro W base args ds gs before hval0 hW hcnd _
  have hval : ∀ (j : Nat) t v, Try.f9.params[j]? = some t → args[j]? = some v → Value.okWide Try.prog W .any base t v := hval0
  have hW' := hW
  obtain ⟨p, q, hA0, hV, rfl, hfz, hnd⟩ := hW
  have hA : DataW.TrodAll enc Try.prog W 0 (fun _ => true) true Try.f9.params.toList args.toList ds p := hA0
  rw [Try.params9] at hA hval
  obtain ⟨v0, v1, v2, d0, d1, d2, p0, p1, p2, rfl, rfl, rfl, h0, h1, h2⟩ := trodAll_three hA
  obtain ⟨rfl, rfl⟩ := trodVars_none hV
  obtain ⟨a, rfl, rfl, rfl, wa⟩ := open_int Try.underlying3 (hval 0 3 v0 rfl rfl) h0
  obtain ⟨l, hl⟩ := arg_ints_ok u24b u3a c3a (hval 1 24 v1 rfl rfl) h1
  obtain ⟨b, rfl, rfl, rfl, wb⟩ := open_int Try.underlying3 (hval 2 3 v2 rfl rfl) h2
  clear hA0 hval0
  simp only [List.append_nil, List.nil_append] at hW'
  obtain ⟨n, hrun⟩ := relayOwn_run a l b
  refine (law_calls (sound9 n) (by kernel_rfl) rfl ?_ hrun).mono fun e W' ⟨he, hw⟩ => ?_
  · intro i v x hi hx
    match i, hi, hx with
    | 0, hi, hx =>
      simp at hi hx
      subst hi; subst hx
      exact V.int _ _
    | 1, hi, hx =>
      simp at hi hx
      subst hi; subst hx
      exact hl
    | 2, hi, hx =>
      simp at hi hx
      subst hi; subst hx
      exact V.int _ _
  subst he
  have hlt := hW'.lt
  exact ⟨_, rfl, post_of_below (pa := p1) (pv := []) hW' (fun _ _ _ => trodAll_mk1 (shut_bool Try.underlying4 true))
    (fun sp hsp => by
      have h : DataW.TrodAll enc Try.prog W' 0 sp true [3, 24, 3] [Value.int IntKind.i64 a, v1, Value.int IntKind.i64 b] [DataW.lit (Lit.int IntKind.i64 a), d1, DataW.lit (Lit.int IntKind.i64 b)] ([] ++ (p1 ++ [])) :=
        trodAll_mk3 (shut_int Try.underlying3 wa) (WideElems.Trod_stays (sp' := sp) Try.laidOut (by kernel_rfl) (of_decide_eq_true (by kernel_rfl)) h1 (fun x hx => hw.same (hlt x hx)) (fun x hx => hsp x hx)) (shut_int Try.underlying3 wb)
      rw [List.append_nil, List.nil_append] at h
      exact h) (fun _ _ => rfl) (by simp)
    hw (ok_one (by kernel_rfl) rfl (okWide_bool_mk Try.underlying4 true))⟩

theorem relayOwn_holds : Rows.RelayOwnSaid :=
  OpenClaim.holds_of_wide 9 Try.f9 rfl rfl rfl rfl rfl rfl rfl ⟨rfl, rfl, rfl, rfl, rfl⟩ rfl rfl rfl rfl rfl (by kernel_rfl) Try.func9 (by kernel_rfl)
    (of_decide_eq_true (by kernel_rfl)) (by unfold Func.isWrapper; first | (rw [if_pos (by decide +kernel)]; kernel_rfl) | (rw [if_neg (by decide +kernel)]; exact ⟨rfl, rfl⟩))
    (fun os started H enc _ => relayOwn_lifted os started H enc)
end Go.Proofs.Ytmhfkhlamnapdaa
