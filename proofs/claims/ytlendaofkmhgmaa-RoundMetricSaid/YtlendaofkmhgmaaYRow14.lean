/- RoundMetric: for every list of lists of ints and every pair of ints the law returns true, and changes nothing. Without conditions. -/
import Derived.Test.YtlendaofkmhgmaaP2E
import Derived.Test.YtlendaofkmhgmaaRows
set_option linter.unusedVariables false
set_option linter.unusedSimpArgs false
set_option linter.unnecessarySimpa false
open Go Go.HL Go.ChangeShapes Go.WideShapes Go.ChangeAt Go.RowKit
namespace Go.Proofs.Ytlendaofkmhgmaa
theorem Try.own : ownKnob Try.prog.godebug = none := by kernel_rfl
theorem Try.laidOut : laidOutB Try.prog = true := by kernel_rfl
theorem roundMetric_run (R0 : List (List Int)) (a1 b1 : Int) : ∃ k H', Qa Try.prog QF k 14 [.imm .arg 1 (R0.map Qb), .agg [.int .i64 a1, .int .i64 b1]] [] = some (.bool true, H') := by
  obtain ⟨E, H, t, hv⟩ := YE R0 a1 b1
  obtain ⟨k, h⟩ := CallsTo.pure (pol := QF) (g := 14) (fn := Try.f14) (cd := B14) (args := [.imm .arg 1 (R0.map Qb), .agg [.int .i64 a1, .int .i64 b1]]) (rs := [.imm .arg 1 (R0.map Qb), .agg [.int .i64 a1, .int .i64 b1]]) (H := []) (v := .bool true) (r := .bool true) (by kernel_rfl) (by kernel_rfl) (by kernel_rfl) (by kernel_rfl) (by kernel_rfl) (by first | (simp only [mapO, JN]; done) | (simp only [mapO, JN]; rfl)) t (by kernel_rfl) (by simp) (by simp only [Qf, QoA, mapO, Q3, hv]) rfl
  exact ⟨k, _, h k (Nat.le_refl k)⟩
theorem u22a : Try.prog.underlying 22 = some (.slice 23) := by kernel_rfl
theorem c22a : Try.prog.cellsOf 22 = 1 := by kernel_rfl
theorem u23a : Try.prog.underlying 23 = some (.slice 3) := by kernel_rfl
theorem c23a : Try.prog.cellsOf 23 = 1 := by kernel_rfl
theorem u34a : Try.prog.underlying 34 = some (.array 2 3) := by kernel_rfl
theorem c34a : Try.prog.cellsOf 34 = 2 := by kernel_rfl
theorem u3a : Try.prog.underlying 3 = some (.int .i64) := by kernel_rfl
theorem c3a : Try.prog.cellsOf 3 = 1 := by kernel_rfl

set_option maxRecDepth 100000 in
theorem roundMetric_lifted (os : Os) (started : os.Started) (H : Type) (enc : TypeId × Value → H) :
    ReturnsInHanded {} Try.checked os 14 .any (Rows.roundMetricSpec.pre6 enc Try.prog Try.f14 Rows.roundMetricRow.domain false) (Rows.roundMetricSpec.post enc Try.prog Try.f14 false true false false) := by
  refine returnsInHanded_of_change (C := Try.checked) Try.own started (by kernel_rfl) Try.func14
    (ChangeSpec.witness6 (enc := enc) (C := Try.checked) false ⟨#[], #[.slice none 0 0, .agg #[.int .i64 0, .int .i64 0]], []⟩ 8 (by kernel_rfl) (by kernel_rfl) (by kernel_rfl) (by kernel_rfl)) ?_
  intro W base args ds gs before hval0 hW hcnd _
  have hval : ∀ (j : Nat) t v, Try.f14.params[j]? = some t → args[j]? = some v → Value.okWide Try.prog W .any base t v := hval0
  have hW' := hW
  obtain ⟨p, q, hA0, hV, rfl, hfz, hnd⟩ := hW
  have hA : DataW.TrodAll enc Try.prog W 0 (fun _ => true) true Try.f14.params.toList args.toList ds p := hA0
  rw [Try.params14] at hA hval
  obtain ⟨v0, v1, d0, d1, p0, p1, rfl, rfl, rfl, h0, h1⟩ := trodAll_two hA
  obtain ⟨rfl, rfl⟩ := trodVars_none hV
  obtain ⟨R0, g0⟩ := CS u22a c23a u23a u3a c3a (hval 0 22 v0 rfl rfl) h0
  obtain ⟨a1, b1, g1⟩ := CT u34a u3a c34a c3a (hval 1 34 v1 rfl rfl) h1
  clear hA0 hval0
  simp only [List.append_nil, List.nil_append] at hW'
  obtain ⟨n, hrun⟩ := roundMetric_run R0 a1 b1
  refine (Qa6 (Qgf n) (by kernel_rfl) rfl ?_ hrun).mono fun e W' ⟨he, hw⟩ => ?_
  · intro i v x hi hx
    match i, hi, hx with
    | 0, hi, hx =>
      simp at hi hx
      subst hi; subst hx
      exact g0
    | 1, hi, hx =>
      simp at hi hx
      subst hi; subst hx
      exact g1
  subst he
  have hlt := hW'.lt
  exact ⟨_, rfl, UT (pa := p0 ++ p1) (pv := []) hW' (fun _ _ _ => trodAll_mk1 (shut_bool Try.underlying4 true))
    (fun sp hsp => trodAll_mk2 (WideElems.Trod_stays (sp' := sp) Try.laidOut (by kernel_rfl) (of_decide_eq_true (by kernel_rfl)) h0 (fun x hx => hw.same (hlt x (by simp [hx]))) (fun x hx => hsp x (by simp [hx]))) (WideElems.Trod_stays (sp' := sp) Try.laidOut (by kernel_rfl) (of_decide_eq_true (by kernel_rfl)) h1 (fun x hx => hw.same (hlt x (by simp [hx]))) (fun x hx => hsp x (by simp [hx])))) (fun _ _ => rfl) (by simp)
    hw (ok_one (by kernel_rfl) rfl (okWide_bool_mk Try.underlying4 true))⟩

theorem roundMetric_holds : Rows.RoundMetricSaid :=
  OpenClaim.holds_of_wide 14 Try.f14 rfl rfl rfl rfl rfl rfl rfl ⟨rfl, rfl, rfl, rfl, rfl⟩ rfl rfl rfl rfl rfl (by kernel_rfl) Try.func14 (by kernel_rfl)
    (of_decide_eq_true (by kernel_rfl)) (by unfold Func.isWrapper; first | (rw [if_pos (by decide +kernel)]; kernel_rfl) | (rw [if_neg (by decide +kernel)]; exact ⟨rfl, rfl⟩))
    (fun os started H enc _ => roundMetric_lifted os started H enc)
end Go.Proofs.Ytlendaofkmhgmaa
