/- RoundImproves: for every list of lists of ints, every list of ints and every pair of ints the law 'lampboxlaw08.RoundImproves' returns true, and changes nothing. Without conditions. -/
import Derived.Test.YtlendaofkmhgmaaP11B
import Derived.Test.YtlendaofkmhgmaaRows
set_option linter.unusedVariables false
set_option linter.unusedSimpArgs false
open Go Go.HL Go.ChangeShapes Go.WideShapes Go.ChangeAt Go.RowKit
namespace Go.Proofs.Ytlendaofkmhgmaa
theorem Try.own : ownKnob Try.prog.godebug = none := by kernel_rfl
theorem Try.laidOut : laidOutB Try.prog = true := by kernel_rfl
theorem roundImproves_run (R : List (List Int)) (l : List Int) (p q : Int) : ∃ k H', callN Try.prog polE k 11 [.imm .arg 1 (R.map encR), .imm .arg 1 (l.map encI), .agg [.int .i64 p, .int .i64 q]] [] = some (.bool true, H') := by
  obtain ⟨E, H, t, hv⟩ := roundImproves_law R l p q
  obtain ⟨k, h⟩ := CallsTo.pure (pol := polE) (g := 11) (fn := Try.f11) (cd := B11) (args := [.imm .arg 1 (R.map encR), .imm .arg 1 (l.map encI), .agg [.int .i64 p, .int .i64 q]]) (rs := [.imm .arg 1 (R.map encR), .imm .arg 1 (l.map encI), .agg [.int .i64 p, .int .i64 q]]) (H := []) (v := .bool true) (r := .bool true) (by kernel_rfl) (by kernel_rfl) (by kernel_rfl) (by kernel_rfl) (by kernel_rfl) (by simp only [mapO, arg_rw, arg_li]; rfl) t (by kernel_rfl) (by simp) (by simp only [resultsV, res11, mapO, resultV, hv]) rfl
  exact ⟨k, _, h k (Nat.le_refl k)⟩
theorem u22a : Try.prog.underlying 22 = some (.slice 23) := by kernel_rfl
theorem u23a : Try.prog.underlying 23 = some (.slice 3) := by kernel_rfl
theorem u3a : Try.prog.underlying 3 = some (.int .i64) := by kernel_rfl
theorem c23a : Try.prog.cellsOf 23 = 1 := by kernel_rfl
theorem u34a : Try.prog.underlying 34 = some (.array 2 3) := by kernel_rfl
theorem c34a : Try.prog.cellsOf 34 = 2 := by kernel_rfl
theorem c3a : Try.prog.cellsOf 3 = 1 := by kernel_rfl

set_option maxRecDepth 100000 in
theorem roundImproves_lifted (os : Os) (started : os.Started) (H : Type) (enc : TypeId × Value → H) :
    ReturnsInHanded {} Try.checked os 11 .any (Rows.roundImprovesSpec.pre6 enc Try.prog Try.f11 Rows.roundImprovesRow.domain false) (Rows.roundImprovesSpec.post enc Try.prog Try.f11 false true false false) := by
  refine returnsInHanded_of_change (C := Try.checked) Try.own started (by kernel_rfl) Try.func11
    (ChangeSpec.witness6 (enc := enc) (C := Try.checked) false ⟨#[], #[.slice none 0 0, .slice none 0 0, .agg #[.int .i64 0, .int .i64 0]], []⟩ 8 (by kernel_rfl) (by kernel_rfl) (by kernel_rfl) (by kernel_rfl)) ?_
  intro W base args ds gs before hval0 hW hcnd _
  have hval : ∀ (j : Nat) t v, Try.f11.params[j]? = some t → args[j]? = some v → Value.okWide Try.prog W .any base t v := hval0
  have hW' := hW
  obtain ⟨p, q, hA0, hV, rfl, hfz, hnd⟩ := hW
  have hA : DataW.TrodAll enc Try.prog W 0 (fun _ => true) true Try.f11.params.toList args.toList ds p := hA0
  rw [Try.params11] at hA hval
  obtain ⟨v0, v1, v2, d0, d1, d2, p0, p1, p2, rfl, rfl, rfl, h0, h1, h2⟩ := trodAll_three hA
  obtain ⟨rfl, rfl⟩ := trodVars_none hV
  obtain ⟨R, hR⟩ := arg_rows_ok u22a c23a u23a u3a c3a (hval 0 22 v0 rfl rfl) h0
  obtain ⟨l, hl⟩ := arg_ints_ok u23a u3a c3a (hval 1 23 v1 rfl rfl) h1
  obtain ⟨a, b, hP⟩ := arg_pair_ok u34a u3a c34a c3a (hval 2 34 v2 rfl rfl) h2
  clear hA0 hval0
  simp only [List.append_nil, List.nil_append] at hW'
  obtain ⟨n, hrun⟩ := roundImproves_run R l a b
  refine (law_calls (soundE n) (by kernel_rfl) rfl ?_ hrun).mono fun e W' ⟨he, hw⟩ => ?_
  · intro i v x hi hx
    match i, hi, hx with
    | 0, hi, hx =>
      simp at hi hx
      subst hi; subst hx
      exact hR
    | 1, hi, hx =>
      simp at hi hx
      subst hi; subst hx
      exact hl
    | 2, hi, hx =>
      simp at hi hx
      subst hi; subst hx
      exact hP
  subst he
  have hlt := hW'.lt
  exact ⟨_, rfl, post_of_below (pa := p0 ++ (p1 ++ p2)) (pv := []) hW' (fun _ _ _ => trodAll_mk1 (shut_bool Try.underlying4 true))
    (fun sp hsp => trodAll_mk3 (WideElems.Trod_stays (sp' := sp) Try.laidOut (by kernel_rfl) (of_decide_eq_true (by kernel_rfl)) h0 (fun x hx => hw.same (hlt x (by simp [hx]))) (fun x hx => hsp x (by simp [hx])))
        (WideElems.Trod_stays (sp' := sp) Try.laidOut (by kernel_rfl) (of_decide_eq_true (by kernel_rfl)) h1 (fun x hx => hw.same (hlt x (by simp [hx]))) (fun x hx => hsp x (by simp [hx])))
        (WideElems.Trod_stays (sp' := sp) Try.laidOut (by kernel_rfl) (of_decide_eq_true (by kernel_rfl)) h2 (fun x hx => hw.same (hlt x (by simp [hx]))) (fun x hx => hsp x (by simp [hx])))) (fun _ _ => rfl) (by simp)
    hw (ok_one (by kernel_rfl) rfl (okWide_bool_mk Try.underlying4 true))⟩

theorem roundImproves_holds : Rows.RoundImprovesSaid :=
  OpenClaim.holds_of_wide 11 Try.f11 rfl rfl rfl rfl rfl rfl rfl ⟨rfl, rfl, rfl, rfl, rfl⟩ rfl rfl rfl rfl rfl (by kernel_rfl) Try.func11 (by kernel_rfl)
    (of_decide_eq_true (by kernel_rfl)) (by unfold Func.isWrapper; first | (rw [if_pos (by decide +kernel)]; kernel_rfl) | (rw [if_neg (by decide +kernel)]; exact ⟨rfl, rfl⟩))
    (fun os started H enc _ => roundImproves_lifted os started H enc)
end Go.Proofs.Ytlendaofkmhgmaa
