/- RelayCenters: for every int and every list of pairs the law 'lampboxlaw09.RelayCenters' returns true, and changes nothing. Without conditions. -/
import Derived.Test.YtmhfkhlamnapdaaP3D
import Derived.Test.YtmhfkhlamnapdaaRows
set_option linter.unusedVariables false
set_option linter.unusedSimpArgs false
open Go Go.HL Go.ChangeShapes Go.WideShapes Go.ChangeAt Go.RowKit
namespace Go.Proofs.Ytmhfkhlamnapdaa
theorem Try.own : ownKnob Try.prog.godebug = none := by kernel_rfl
theorem Try.laidOut : laidOutB Try.prog = true := by kernel_rfl
theorem relayCenters_run (n : Int) (l : List (Int × Int)) : ∃ k H', callN Try.prog polH k 3 [.int .i64 n, .imm .arg 2 (l.map encP)] [] = some (.bool true, H') := by
  obtain ⟨E, H, t, hv⟩ := relayCenters_law n l
  obtain ⟨k, h⟩ := CallsTo.pure (pol := polH) (g := 3) (fn := Try.f3) (cd := B3) (args := [.int .i64 n, .imm .arg 2 (l.map encP)]) (rs := [.int .i64 n, .imm .arg 2 (l.map encP)]) (H := []) (v := .bool true) (r := .bool true) (by kernel_rfl) (by kernel_rfl) (by kernel_rfl) (by kernel_rfl) (by kernel_rfl) (by simp only [mapO, arg_pairs']; rfl) t (by kernel_rfl) (by simp) (by simp only [resultsV, res3, mapO, resultV, hv]) rfl
  exact ⟨k, _, h k (Nat.le_refl k)⟩
theorem u33a : Try.prog.underlying 33 = some (.array 2 3) := by kernel_rfl
theorem u3a : Try.prog.underlying 3 = some (.int .i64) := by kernel_rfl
theorem c33a : Try.prog.cellsOf 33 = 2 := by kernel_rfl
theorem c3a : Try.prog.cellsOf 3 = 1 := by kernel_rfl

set_option maxRecDepth 100000 in
theorem relayCenters_lifted (os : Os) (started : os.Started) (H : Type) (enc : TypeId × Value → H) :
    ReturnsInHanded {} Try.checked os 3 .any (Rows.relayCentersSpec.pre6 enc Try.prog Try.f3 Rows.relayCentersRow.domain false) (Rows.relayCentersSpec.post enc Try.prog Try.f3 false true false false) := by
  refine returnsInHanded_of_change (C := Try.checked) Try.own started (by kernel_rfl) Try.func3
    (ChangeSpec.witness6 (enc := enc) (C := Try.checked) false ⟨#[], #[.int .i64 0, .slice none 0 0], []⟩ 8 (by kernel_rfl) (by kernel_rfl) (by kernel_rfl) (by kernel_rfl)) ?_
  intro W base args ds gs before hval0 hW hcnd _
  have hval : ∀ (j : Nat) t v, Try.f3.params[j]? = some t → args[j]? = some v → Value.okWide Try.prog W .any base t v := hval0
  have hW' := hW
  obtain ⟨p, q, hA0, hV, rfl, hfz, hnd⟩ := hW
  have hA : DataW.TrodAll enc Try.prog W 0 (fun _ => true) true Try.f3.params.toList args.toList ds p := hA0
  rw [Try.params3] at hA hval
  obtain ⟨v0, v1, d0, d1, p0, p1, rfl, rfl, rfl, h0, h1⟩ := trodAll_two hA
  obtain ⟨rfl, rfl⟩ := trodVars_none hV
  obtain ⟨a, rfl, rfl, rfl, wa⟩ := open_int Try.underlying3 (hval 0 3 v0 rfl rfl) h0
  obtain ⟨l, hl⟩ := arg_pairs_ok u22 u33a u3a c33a c3a (hval 1 22 v1 rfl rfl) h1
  clear hA0 hval0
  simp only [List.append_nil, List.nil_append] at hW'
  obtain ⟨n, hrun⟩ := relayCenters_run a l
  refine (law_calls (soundH n) (by kernel_rfl) rfl ?_ hrun).mono fun e W' ⟨he, hw⟩ => ?_
  · intro i v x hi hx
    match i, hi, hx with
    | 0, hi, hx =>
      simp at hi hx
      subst hi; subst hx
      exact V.int _ _
    | 1, hi, hx =>
      simp at hi hx
      subst hi; subst hx
      exact hl
  subst he
  have hlt := hW'.lt
  exact ⟨_, rfl, post_of_below (pa := p1) (pv := []) hW' (fun _ _ _ => trodAll_mk1 (shut_bool Try.underlying4 true))
    (fun sp hsp => trodAll_mk2 (p := []) (p' := p1) (shut_int Try.underlying3 wa)
      (WideElems.Trod_stays (sp' := sp) Try.laidOut (by kernel_rfl) (of_decide_eq_true (by kernel_rfl)) h1 (fun x hx => hw.same (hlt x hx)) (fun x hx => hsp x hx))) (fun _ _ => rfl) (by simp)
    hw (ok_one (by kernel_rfl) rfl (okWide_bool_mk Try.underlying4 true))⟩

theorem relayCenters_holds : Rows.RelayCentersSaid :=
  OpenClaim.holds_of_wide 3 Try.f3 rfl rfl rfl rfl rfl rfl rfl ⟨rfl, rfl, rfl, rfl, rfl⟩ rfl rfl rfl rfl rfl (by kernel_rfl) Try.func3 (by kernel_rfl)
    (of_decide_eq_true (by kernel_rfl)) (by unfold Func.isWrapper; first | (rw [if_pos (by decide +kernel)]; kernel_rfl) | (rw [if_neg (by decide +kernel)]; exact ⟨rfl, rfl⟩))
    (fun os started H enc _ => relayCenters_lifted os started H enc)
end Go.Proofs.Ytmhfkhlamnapdaa
