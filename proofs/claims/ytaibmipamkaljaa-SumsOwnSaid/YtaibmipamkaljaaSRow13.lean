/- SumsOwn: for every list of ints and list of lists of ints the law returns true, and changes nothing. Without conditions. -/
import Derived.Test.YtaibmipamkaljaaSzD
import Derived.Test.YtaibmipamkaljaaRows
set_option linter.unusedVariables false
set_option linter.unusedSimpArgs false
set_option linter.unnecessarySimpa false
open Go Go.HL Go.ChangeShapes Go.WideShapes Go.ChangeAt Go.RowKit
namespace Go.Proofs.Ytaibmipamkaljaa
theorem Try.own : ownKnob Try.prog.godebug = none := by kernel_rfl
theorem Try.laidOut : laidOutB Try.prog = true := by kernel_rfl
theorem sumsOwn_run (l0 : List Int) (R1 : List (List Int)) : ∃ k H', callN Try.prog polL13 k 13 [.imm .arg 1 (l0.map encI), .imm .arg 1 (R1.map encR)] [] = some (.bool true, H') := by
  obtain ⟨E, H, t, hv⟩ := sumsOwn_law l0 R1
  obtain ⟨k, h⟩ := CallsTo.pure (pol := polL13) (g := 13) (fn := Try.f13) (cd := B13) (args := [.imm .arg 1 (l0.map encI), .imm .arg 1 (R1.map encR)]) (rs := [.imm .arg 1 (l0.map encI), .imm .arg 1 (R1.map encR)]) (H := []) (v := .bool true) (r := .bool true) (by kernel_rfl) (by kernel_rfl) (by kernel_rfl) (by kernel_rfl) (by kernel_rfl) (by first | (simp only [mapO, arg_rw, arg_li]; done) | (simp only [mapO, arg_rw, arg_li]; rfl)) t (by kernel_rfl) (by simp) (by simp only [resultsV, res13, mapO, resultV, hv]) rfl
  exact ⟨k, _, h k (Nat.le_refl k)⟩
theorem u35a : Try.prog.underlying 35 = some (.slice 22) := by kernel_rfl
theorem c35a : Try.prog.cellsOf 35 = 1 := by kernel_rfl
theorem u22a : Try.prog.underlying 22 = some (.slice 3) := by kernel_rfl
theorem c22a : Try.prog.cellsOf 22 = 1 := by kernel_rfl
theorem u3a : Try.prog.underlying 3 = some (.int .i64) := by kernel_rfl
theorem c3a : Try.prog.cellsOf 3 = 1 := by kernel_rfl

set_option maxRecDepth 100000 in
theorem sumsOwn_lifted (os : Os) (started : os.Started) (H : Type) (enc : TypeId × Value → H) :
    ReturnsInHanded {} Try.checked os 13 .any (Rows.sumsOwnSpec.pre6 enc Try.prog Try.f13 Rows.sumsOwnRow.domain false) (Rows.sumsOwnSpec.post enc Try.prog Try.f13 false true false false) := by
  refine returnsInHanded_of_change (C := Try.checked) Try.own started (by kernel_rfl) Try.func13
    (ChangeSpec.witness6 (enc := enc) (C := Try.checked) false ⟨#[], #[.slice none 0 0, .slice none 0 0], []⟩ 8 (by kernel_rfl) (by kernel_rfl) (by kernel_rfl) (by kernel_rfl)) ?_
  intro W base args ds gs before hval0 hW hcnd _
  have hval : ∀ (j : Nat) t v, Try.f13.params[j]? = some t → args[j]? = some v → Value.okWide Try.prog W .any base t v := hval0
  have hW' := hW
  obtain ⟨p, q, hA0, hV, rfl, hfz, hnd⟩ := hW
  have hA : DataW.TrodAll enc Try.prog W 0 (fun _ => true) true Try.f13.params.toList args.toList ds p := hA0
  rw [Try.params13] at hA hval
  obtain ⟨v0, v1, d0, d1, p0, p1, rfl, rfl, rfl, h0, h1⟩ := trodAll_two hA
  obtain ⟨rfl, rfl⟩ := trodVars_none hV
  obtain ⟨l0, g0⟩ := arg_ints_ok u22a u3a c3a (hval 0 22 v0 rfl rfl) h0
  obtain ⟨R1, g1⟩ := arg_rows_ok u35a c22a u22a u3a c3a (hval 1 35 v1 rfl rfl) h1
  clear hA0 hval0
  simp only [List.append_nil, List.nil_append] at hW'
  obtain ⟨n, hrun⟩ := sumsOwn_run l0 R1
  refine (law_calls (soundL13 n) (by kernel_rfl) rfl ?_ hrun).mono fun e W' ⟨he, hw⟩ => ?_
  · intro i v x hi hx
    match i, hi, hx with
    | 0, hi, hx =>
      simp at hi hx
      subst hi; subst hx
      exact g0
    | 1, hi, hx =>
      simp at hi hx
      subst hi; subst hx
      exact g1
  subst he
  have hlt := hW'.lt
  exact ⟨_, rfl, post_of_below (pa := p0 ++ p1) (pv := []) hW' (fun _ _ _ => trodAll_mk1 (shut_bool Try.underlying4 true))
    (fun sp hsp => trodAll_mk2 (WideElems.Trod_stays (sp' := sp) Try.laidOut (by kernel_rfl) (of_decide_eq_true (by kernel_rfl)) h0 (fun x hx => hw.same (hlt x (by simp [hx]))) (fun x hx => hsp x (by simp [hx]))) (WideElems.Trod_stays (sp' := sp) Try.laidOut (by kernel_rfl) (of_decide_eq_true (by kernel_rfl)) h1 (fun x hx => hw.same (hlt x (by simp [hx]))) (fun x hx => hsp x (by simp [hx])))) (fun _ _ => rfl) (by simp)
    hw (ok_one (by kernel_rfl) rfl (okWide_bool_mk Try.underlying4 true))⟩

theorem sumsOwn_holds : Rows.SumsOwnSaid :=
  OpenClaim.holds_of_wide 13 Try.f13 rfl rfl rfl rfl rfl rfl rfl ⟨rfl, rfl, rfl, rfl, rfl⟩ rfl rfl rfl rfl rfl (by kernel_rfl) Try.func13 (by kernel_rfl)
    (of_decide_eq_true (by kernel_rfl)) (by unfold Func.isWrapper; first | (rw [if_pos (by decide +kernel)]; kernel_rfl) | (rw [if_neg (by decide +kernel)]; exact ⟨rfl, rfl⟩))
    (fun os started H enc _ => sumsOwn_lifted os started H enc)
end Go.Proofs.Ytaibmipamkaljaa
