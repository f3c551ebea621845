/- SumsBounds: for every list of ints, list of lists of ints and list of ints the law returns true, and changes nothing. Without conditions. -/
import Derived.Test.YtaibmipamkaljaaSnE
import Derived.Test.YtaibmipamkaljaaRows
set_option linter.unusedVariables false
set_option linter.unusedSimpArgs false
set_option linter.unnecessarySimpa false
open Go Go.HL Go.ChangeShapes Go.WideShapes Go.ChangeAt Go.RowKit
namespace Go.Proofs.Ytaibmipamkaljaa
theorem Try.own : ownKnob Try.prog.godebug = none := by kernel_rfl
theorem Try.laidOut : laidOutB Try.prog = true := by kernel_rfl
theorem sumsBounds_run (l0 : List Int) (R1 : List (List Int)) (l2 : List Int) : ∃ k H', callN Try.prog polL11 k 11 [.imm .arg 1 (l0.map encI), .imm .arg 1 (R1.map encR), .imm .arg 1 (l2.map encI)] [] = some (.bool true, H') := by
  obtain ⟨E, H, t, hv⟩ := sumsBounds_law l0 R1 l2
  obtain ⟨k, h⟩ := CallsTo.pure (pol := polL11) (g := 11) (fn := Try.f11) (cd := B11) (args := [.imm .arg 1 (l0.map encI), .imm .arg 1 (R1.map encR), .imm .arg 1 (l2.map encI)]) (rs := [.imm .arg 1 (l0.map encI), .imm .arg 1 (R1.map encR), .imm .arg 1 (l2.map encI)]) (H := []) (v := .bool true) (r := .bool true) (by kernel_rfl) (by kernel_rfl) (by kernel_rfl) (by kernel_rfl) (by kernel_rfl) (by first | (simp only [mapO, arg_rw, arg_li]; done) | (simp only [mapO, arg_rw, arg_li]; rfl)) t (by kernel_rfl) (by simp) (by simp only [resultsV, res11, mapO, resultV, hv]) rfl
  exact ⟨k, _, h k (Nat.le_refl k)⟩
theorem u35a : Try.prog.underlying 35 = some (.slice 22) := by kernel_rfl
theorem c35a : Try.prog.cellsOf 35 = 1 := by kernel_rfl
theorem u22a : Try.prog.underlying 22 = some (.slice 3) := by kernel_rfl
theorem c22a : Try.prog.cellsOf 22 = 1 := by kernel_rfl
theorem u3a : Try.prog.underlying 3 = some (.int .i64) := by kernel_rfl
theorem c3a : Try.prog.cellsOf 3 = 1 := by kernel_rfl

set_option maxRecDepth 100000 in
theorem sumsBounds_lifted (os : Os) (started : os.Started) (H : Type) (enc : TypeId × Value → H) :
    ReturnsInHanded {} Try.checked os 11 .any (Rows.sumsBoundsSpec.pre6 enc Try.prog Try.f11 Rows.sumsBoundsRow.domain false) (Rows.sumsBoundsSpec.post enc Try.prog Try.f11 false true false false) := by
  refine returnsInHanded_of_change (C := Try.checked) Try.own started (by kernel_rfl) Try.func11
    (ChangeSpec.witness6 (enc := enc) (C := Try.checked) false ⟨#[], #[.slice none 0 0, .slice none 0 0, .slice none 0 0], []⟩ 8 (by kernel_rfl) (by kernel_rfl) (by kernel_rfl) (by kernel_rfl)) ?_
  intro W base args ds gs before hval0 hW hcnd _
  have hval : ∀ (j : Nat) t v, Try.f11.params[j]? = some t → args[j]? = some v → Value.okWide Try.prog W .any base t v := hval0
  have hW' := hW
  obtain ⟨p, q, hA0, hV, rfl, hfz, hnd⟩ := hW
  have hA : DataW.TrodAll enc Try.prog W 0 (fun _ => true) true Try.f11.params.toList args.toList ds p := hA0
  rw [Try.params11] at hA hval
  obtain ⟨v0, v1, v2, d0, d1, d2, p0, p1, p2, rfl, rfl, rfl, h0, h1, h2⟩ := trodAll_three hA
  obtain ⟨rfl, rfl⟩ := trodVars_none hV
  obtain ⟨l0, g0⟩ := arg_ints_ok u22a u3a c3a (hval 0 22 v0 rfl rfl) h0
  obtain ⟨R1, g1⟩ := arg_rows_ok u35a c22a u22a u3a c3a (hval 1 35 v1 rfl rfl) h1
  obtain ⟨l2, g2⟩ := arg_ints_ok u22a u3a c3a (hval 2 22 v2 rfl rfl) h2
  clear hA0 hval0
  simp only [List.append_nil, List.nil_append] at hW'
  obtain ⟨n, hrun⟩ := sumsBounds_run l0 R1 l2
  refine (law_calls (soundL11 n) (by kernel_rfl) rfl ?_ hrun).mono fun e W' ⟨he, hw⟩ => ?_
  · intro i v x hi hx
    match i, hi, hx with
    | 0, hi, hx =>
      simp at hi hx
      subst hi; subst hx
      exact g0
    | 1, hi, hx =>
      simp at hi hx
      subst hi; subst hx
      exact g1
    | 2, hi, hx =>
      simp at hi hx
      subst hi; subst hx
      exact g2
  subst he
  have hlt := hW'.lt
  exact ⟨_, rfl, post_of_below (pa := p0 ++ (p1 ++ p2)) (pv := []) hW' (fun _ _ _ => trodAll_mk1 (shut_bool Try.underlying4 true))
    (fun sp hsp => trodAll_mk3 (WideElems.Trod_stays (sp' := sp) Try.laidOut (by kernel_rfl) (of_decide_eq_true (by kernel_rfl)) h0 (fun x hx => hw.same (hlt x (by simp [hx]))) (fun x hx => hsp x (by simp [hx]))) (WideElems.Trod_stays (sp' := sp) Try.laidOut (by kernel_rfl) (of_decide_eq_true (by kernel_rfl)) h1 (fun x hx => hw.same (hlt x (by simp [hx]))) (fun x hx => hsp x (by simp [hx]))) (WideElems.Trod_stays (sp' := sp) Try.laidOut (by kernel_rfl) (of_decide_eq_true (by kernel_rfl)) h2 (fun x hx => hw.same (hlt x (by simp [hx]))) (fun x hx => hsp x (by simp [hx])))) (fun _ _ => rfl) (by simp)
    hw (ok_one (by kernel_rfl) rfl (okWide_bool_mk Try.underlying4 true))⟩

theorem sumsBounds_holds : Rows.SumsBoundsSaid :=
  OpenClaim.holds_of_wide 11 Try.f11 rfl rfl rfl rfl rfl rfl rfl ⟨rfl, rfl, rfl, rfl, rfl⟩ rfl rfl rfl rfl rfl (by kernel_rfl) Try.func11 (by kernel_rfl)
    (of_decide_eq_true (by kernel_rfl)) (by unfold Func.isWrapper; first | (rw [if_pos (by decide +kernel)]; kernel_rfl) | (rw [if_neg (by decide +kernel)]; exact ⟨rfl, rfl⟩))
    (fun os started H enc _ => sumsBounds_lifted os started H enc)
end Go.Proofs.Ytaibmipamkaljaa
