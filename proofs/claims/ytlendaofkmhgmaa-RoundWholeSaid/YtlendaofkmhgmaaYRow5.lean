/- RoundWhole: for every list of lists of ints the law 'lampboxlaw08.RoundWhole' returns true, and changes nothing. Without conditions. -/
import Derived.Test.YtlendaofkmhgmaaP5B
import Derived.Test.YtlendaofkmhgmaaRows
set_option linter.unusedVariables false
set_option linter.unusedSimpArgs false
open Go Go.HL Go.ChangeShapes Go.WideShapes Go.ChangeAt Go.RowKit
namespace Go.Proofs.Ytlendaofkmhgmaa
theorem Try.own : ownKnob Try.prog.godebug = none := by kernel_rfl
theorem Try.laidOut : laidOutB Try.prog = true := by kernel_rfl
theorem roundWhole_run (R : List (List Int)) : ∃ k H', callN Try.prog polJ k 5 [.imm .arg 1 (R.map encR)] [] = some (.bool true, H') := by
  obtain ⟨E, H, t, hv⟩ := roundWhole_law R
  obtain ⟨k, h⟩ := CallsTo.pure (pol := polJ) (g := 5) (fn := Try.f5) (cd := B5) (args := [.imm .arg 1 (R.map encR)]) (rs := [.imm .arg 1 (R.map encR)]) (H := []) (v := .bool true) (r := .bool true) (by kernel_rfl) (by kernel_rfl) (by kernel_rfl) (by kernel_rfl) (by kernel_rfl) (by simp only [mapO, arg_rw]) t (by kernel_rfl) (by simp) (by simp only [resultsV, res5, mapO, resultV, hv]) rfl
  exact ⟨k, _, h k (Nat.le_refl k)⟩
theorem u22a : Try.prog.underlying 22 = some (.slice 23) := by kernel_rfl
theorem u23a : Try.prog.underlying 23 = some (.slice 3) := by kernel_rfl
theorem u3a : Try.prog.underlying 3 = some (.int .i64) := by kernel_rfl
theorem c23a : Try.prog.cellsOf 23 = 1 := by kernel_rfl
theorem c3a : Try.prog.cellsOf 3 = 1 := by kernel_rfl

set_option maxRecDepth 100000 in
theorem roundWhole_lifted (os : Os) (started : os.Started) (H : Type) (enc : TypeId × Value → H) :
    ReturnsInHanded {} Try.checked os 5 .any (Rows.roundWholeSpec.pre6 enc Try.prog Try.f5 Rows.roundWholeRow.domain false) (Rows.roundWholeSpec.post enc Try.prog Try.f5 false true false false) := by
  refine returnsInHanded_of_change (C := Try.checked) Try.own started (by kernel_rfl) Try.func5
    (ChangeSpec.witness6 (enc := enc) (C := Try.checked) false ⟨#[], #[.slice none 0 0], []⟩ 8 (by kernel_rfl) (by kernel_rfl) (by kernel_rfl) (by kernel_rfl)) ?_
  intro W base args ds gs before hval0 hW hcnd _
  have hval : ∀ (j : Nat) t v, Try.f5.params[j]? = some t → args[j]? = some v → Value.okWide Try.prog W .any base t v := hval0
  have hW' := hW
  obtain ⟨p, q, hA0, hV, rfl, hfz, hnd⟩ := hW
  have hA : DataW.TrodAll enc Try.prog W 0 (fun _ => true) true Try.f5.params.toList args.toList ds p := hA0
  rw [Try.params5] at hA hval
  obtain ⟨v0, d0, rfl, rfl, h0⟩ := trodAll_one hA
  obtain ⟨rfl, rfl⟩ := trodVars_none hV
  obtain ⟨R, hR⟩ := arg_rows_ok u22a c23a u23a u3a c3a (hval 0 22 v0 rfl rfl) h0
  clear hA0 hval0
  simp only [List.append_nil, List.nil_append] at hW'
  obtain ⟨n, hrun⟩ := roundWhole_run R
  refine (law_calls (soundJ n) (by kernel_rfl) rfl ?_ hrun).mono fun e W' ⟨he, hw⟩ => ?_
  · intro i v x hi hx
    match i, hi, hx with
    | 0, hi, hx =>
      simp at hi hx
      subst hi; subst hx
      exact hR
  subst he
  have hlt := hW'.lt
  exact ⟨_, rfl, post_of_below (pa := p) (pv := []) hW' (fun _ _ _ => trodAll_mk1 (shut_bool Try.underlying4 true))
    (fun sp hsp => trodAll_mk1 (WideElems.Trod_stays (sp' := sp) Try.laidOut (by kernel_rfl) (of_decide_eq_true (by kernel_rfl)) h0 (fun x hx => hw.same (hlt x (by simp [hx]))) (fun x hx => hsp x (by simp [hx])))) (fun _ _ => rfl) (by simp)
    hw (ok_one (by kernel_rfl) rfl (okWide_bool_mk Try.underlying4 true))⟩

theorem roundWhole_holds : Rows.RoundWholeSaid :=
  OpenClaim.holds_of_wide 5 Try.f5 rfl rfl rfl rfl rfl rfl rfl ⟨rfl, rfl, rfl, rfl, rfl⟩ rfl rfl rfl rfl rfl (by kernel_rfl) Try.func5 (by kernel_rfl)
    (of_decide_eq_true (by kernel_rfl)) (by unfold Func.isWrapper; first | (rw [if_pos (by decide +kernel)]; kernel_rfl) | (rw [if_neg (by decide +kernel)]; exact ⟨rfl, rfl⟩))
    (fun os started H enc _ => roundWhole_lifted os started H enc)
end Go.Proofs.Ytlendaofkmhgmaa
