/- StreetsTrees: for every number and every list of streets the law returns true, and changes nothing. Without conditions. -/
import Derived.Test.YtiejmoglooaalaaP3E
import Derived.Test.YtiejmoglooaalaaRows
set_option linter.unusedVariables false
set_option linter.unusedSimpArgs false
set_option linter.unnecessarySimpa false
open Go Go.HL Go.ChangeShapes Go.WideShapes Go.ChangeAt Go.RowKit
namespace Go.Proofs.Ytiejmoglooaalaa
theorem Try.own : ownKnob Try.prog.godebug = none := by kernel_rfl
theorem Try.laidOut : laidOutB Try.prog = true := by kernel_rfl
theorem streetsTrees_run (a0 : Int) (l1 : List St) : ∃ k H', Qs Try.prog QfS k 3 [.int .i64 a0, .imm .arg 3 (l1.map Qa)] [] = some (.bool true, H') := by
  obtain ⟨E, H, t, hv⟩ := Yt a0 l1
  obtain ⟨k, h⟩ := CallsTo.pure (pol := QfS) (g := 3) (fn := Try.f3) (cd := B3) (args := [.int .i64 a0, .imm .arg 3 (l1.map Qa)]) (rs := [.int .i64 a0, .imm .arg 3 (l1.map Qa)]) (H := []) (v := .bool true) (r := .bool true) (by kernel_rfl) (by kernel_rfl) (by kernel_rfl) (by kernel_rfl) (by kernel_rfl) (by first | (simp only [mapO, VS]; done) | (simp only [mapO, VS]; rfl) | (simp only [mapO, VS, G7]; done) | (simp only [mapO, VS, G7]; rfl)) t (by kernel_rfl) (by simp) (by simp only [Qc, QrS, mapO, Wv, hv]) rfl
  exact ⟨k, _, h k (Nat.le_refl k)⟩
theorem u22a : Try.prog.underlying 22 = some (.slice 42) := by kernel_rfl
theorem c22a : Try.prog.cellsOf 22 = 1 := by kernel_rfl
theorem c42a : Try.prog.cellsOf 42 = 3 := by kernel_rfl
theorem u3a : Try.prog.underlying 3 = some (.int .i64) := by kernel_rfl
theorem c3a : Try.prog.cellsOf 3 = 1 := by kernel_rfl

set_option maxRecDepth 100000 in
theorem streetsTrees_lifted (os : Os) (started : os.Started) (H : Type) (enc : TypeId × Value → H) :
    ReturnsInHanded {} Try.checked os 3 .any (Rows.streetsTreesSpec.pre6 enc Try.prog Try.f3 Rows.streetsTreesRow.domain false) (Rows.streetsTreesSpec.post enc Try.prog Try.f3 false true false false) := by
  refine returnsInHanded_of_change (C := Try.checked) Try.own started (by kernel_rfl) Try.func3
    (ChangeSpec.witness6 (enc := enc) (C := Try.checked) false ⟨#[], #[.int .i64 0, .slice none 0 0], []⟩ 8 (by kernel_rfl) (by kernel_rfl) (by kernel_rfl) (by kernel_rfl)) ?_
  intro W base args ds gs before hval0 hW hcnd _
  have hval : ∀ (j : Nat) t v, Try.f3.params[j]? = some t → args[j]? = some v → Value.okWide Try.prog W .any base t v := hval0
  have hW' := hW
  obtain ⟨p, q, hA0, hV, rfl, hfz, hnd⟩ := hW
  have hA : DataW.TrodAll enc Try.prog W 0 (fun _ => true) true Try.f3.params.toList args.toList ds p := hA0
  rw [Try.params3] at hA hval
  obtain ⟨v0, v1, d0, d1, p0, p1, rfl, rfl, rfl, h0, h1⟩ := trodAll_two hA
  obtain ⟨rfl, rfl⟩ := trodVars_none hV
  obtain ⟨a0, rfl, rfl, rfl, w0⟩ := open_int Try.underlying3 (hval 0 3 v0 rfl rfl) h0
  obtain ⟨l1, g1⟩ := CO u22a Try.underlying42 rfl rfl rfl rfl rfl rfl u3a c42a c3a (hval 1 22 v1 rfl rfl) h1
  clear hA0 hval0
  simp only [List.append_nil, List.nil_append] at hW'
  obtain ⟨n, hrun⟩ := streetsTrees_run a0 l1
  refine (QcN (Qid n) (by kernel_rfl) rfl ?_ hrun).mono fun e W' ⟨he, hw⟩ => ?_
  · intro i v x hi hx
    match i, hi, hx with
    | 0, hi, hx =>
      simp at hi hx
      subst hi; subst hx
      exact V.int _ _
    | 1, hi, hx =>
      simp at hi hx
      subst hi; subst hx
      exact g1
  subst he
  have hlt := hW'.lt
  exact ⟨_, rfl, DO (pa := p1) (pv := []) hW' (fun _ _ _ => trodAll_mk1 (shut_bool Try.underlying4 true))
    (fun sp hsp => by
      have h : DataW.TrodAll enc Try.prog W' 0 sp true [3, 22] [Value.int IntKind.i64 a0, v1] [DataW.lit (Lit.int IntKind.i64 a0), d1] ([] ++ (p1)) :=
        trodAll_mk2 (shut_int Try.underlying3 w0) (WideElems.Trod_stays (sp' := sp) Try.laidOut (by kernel_rfl) (of_decide_eq_true (by kernel_rfl)) h1 (fun x hx => hw.same (hlt x (by simp [hx]))) (fun x hx => hsp x (by simp [hx])))
      simp only [List.append_nil, List.nil_append] at h
      exact h) (fun _ _ => rfl) (by simp)
    hw (ok_one (by kernel_rfl) rfl (okWide_bool_mk Try.underlying4 true))⟩

theorem streetsTrees_holds : Rows.StreetsTreesSaid :=
  OpenClaim.holds_of_wide 3 Try.f3 rfl rfl rfl rfl rfl rfl rfl ⟨rfl, rfl, rfl, rfl, rfl⟩ rfl rfl rfl rfl rfl (by kernel_rfl) Try.func3 (by kernel_rfl)
    (of_decide_eq_true (by kernel_rfl)) (by unfold Func.isWrapper; first | (rw [if_pos (by decide +kernel)]; kernel_rfl) | (rw [if_neg (by decide +kernel)]; exact ⟨rfl, rfl⟩))
    (fun os started H enc _ => streetsTrees_lifted os started H enc)
end Go.Proofs.Ytiejmoglooaalaa
