/- StreetsLeast: for every number, every list of streets and every list of numbers the law returns true, and changes nothing. Without conditions. -/
import Derived.Test.YtiejmoglooaalaaP8F
import Derived.Test.YtiejmoglooaalaaRows
set_option linter.unusedVariables false
set_option linter.unusedSimpArgs false
set_option linter.unnecessarySimpa false
open Go Go.HL Go.ChangeShapes Go.WideShapes Go.ChangeAt Go.RowKit
namespace Go.Proofs.Ytiejmoglooaalaa
theorem Try.own : ownKnob Try.prog.godebug = none := by kernel_rfl
theorem Try.laidOut : laidOutB Try.prog = true := by kernel_rfl
theorem streetsLeast_run (a0 : Int) (l1 : List St) (l2 : List Int) : ∃ k H', Qc Try.prog Zh k 11 [.int .i64 a0, .imm .arg 3 (l1.map Qa), .imm .arg 1 (l2.map Qb)] [] = some (.bool true, H') := by
  obtain ⟨E, H, t, hv⟩ := YT a0 l1 l2
  obtain ⟨k, h⟩ := CallsTo.pure (pol := Zh) (g := 11) (fn := Try.f11) (cd := B11) (args := [.int .i64 a0, .imm .arg 3 (l1.map Qa), .imm .arg 1 (l2.map Qb)]) (rs := [.int .i64 a0, .imm .arg 3 (l1.map Qa), .imm .arg 1 (l2.map Qb)]) (H := []) (v := .bool true) (r := .bool true) (by kernel_rfl) (by kernel_rfl) (by kernel_rfl) (by kernel_rfl) (by kernel_rfl) (by first | (simp only [mapO, V8]; done) | (simp only [mapO, V8]; rfl) | (simp only [mapO, V8, Cj]; done) | (simp only [mapO, V8, Cj]; rfl)) t (by kernel_rfl) (by simp) (by simp only [Qd, Qtc, mapO, Wz, hv]) rfl
  exact ⟨k, _, h k (Nat.le_refl k)⟩
theorem u22a : Try.prog.underlying 22 = some (.slice 42) := by kernel_rfl
theorem c22a : Try.prog.cellsOf 22 = 1 := by kernel_rfl
theorem c42a : Try.prog.cellsOf 42 = 3 := by kernel_rfl
theorem u24a : Try.prog.underlying 24 = some (.slice 3) := by kernel_rfl
theorem c24a : Try.prog.cellsOf 24 = 1 := by kernel_rfl
theorem u3a : Try.prog.underlying 3 = some (.int .i64) := by kernel_rfl
theorem c3a : Try.prog.cellsOf 3 = 1 := by kernel_rfl

set_option maxRecDepth 100000 in
theorem streetsLeast_lifted (os : Os) (started : os.Started) (H : Type) (enc : TypeId × Value → H) :
    ReturnsInHanded {} Try.checked os 11 .any (Rows.streetsLeastSpec.pre6 enc Try.prog Try.f11 Rows.streetsLeastRow.domain false) (Rows.streetsLeastSpec.post enc Try.prog Try.f11 false true false false) := by
  refine returnsInHanded_of_change (C := Try.checked) Try.own started (by kernel_rfl) Try.func11
    (ChangeSpec.witness6 (enc := enc) (C := Try.checked) false ⟨#[], #[.int .i64 0, .slice none 0 0, .slice none 0 0], []⟩ 8 (by kernel_rfl) (by kernel_rfl) (by kernel_rfl) (by kernel_rfl)) ?_
  intro W base args ds gs before hval0 hW hcnd _
  have hval : ∀ (j : Nat) t v, Try.f11.params[j]? = some t → args[j]? = some v → Value.okWide Try.prog W .any base t v := hval0
  have hW' := hW
  obtain ⟨p, q, hA0, hV, rfl, hfz, hnd⟩ := hW
  have hA : DataW.TrodAll enc Try.prog W 0 (fun _ => true) true Try.f11.params.toList args.toList ds p := hA0
  rw [Try.params11] at hA hval
  obtain ⟨v0, v1, v2, d0, d1, d2, p0, p1, p2, rfl, rfl, rfl, h0, h1, h2⟩ := trodAll_three hA
  obtain ⟨rfl, rfl⟩ := trodVars_none hV
  obtain ⟨a0, rfl, rfl, rfl, w0⟩ := open_int Try.underlying3 (hval 0 3 v0 rfl rfl) h0
  obtain ⟨l1, g1⟩ := C2 u22a Try.underlying42 rfl rfl rfl rfl rfl rfl u3a c42a c3a (hval 1 22 v1 rfl rfl) h1
  obtain ⟨l2, g2⟩ := Qan u24a u3a c3a (hval 2 24 v2 rfl rfl) h2
  clear hA0 hval0
  simp only [List.append_nil, List.nil_append] at hW'
  obtain ⟨n, hrun⟩ := streetsLeast_run a0 l1 l2
  refine (QcT (Qgh n) (by kernel_rfl) rfl ?_ hrun).mono fun e W' ⟨he, hw⟩ => ?_
  · intro i v x hi hx
    match i, hi, hx with
    | 0, hi, hx =>
      simp at hi hx
      subst hi; subst hx
      exact V.int _ _
    | 1, hi, hx =>
      simp at hi hx
      subst hi; subst hx
      exact g1
    | 2, hi, hx =>
      simp at hi hx
      subst hi; subst hx
      exact g2
  subst he
  have hlt := hW'.lt
  exact ⟨_, rfl, Gb (pa := p1 ++ p2) (pv := []) hW' (fun _ _ _ => trodAll_mk1 (shut_bool Try.underlying4 true))
    (fun sp hsp => by
      have h : DataW.TrodAll enc Try.prog W' 0 sp true [3, 22, 24] [Value.int IntKind.i64 a0, v1, v2] [DataW.lit (Lit.int IntKind.i64 a0), d1, d2] ([] ++ (p1 ++ (p2))) :=
        trodAll_mk3 (shut_int Try.underlying3 w0) (WideElems.Trod_stays (sp' := sp) Try.laidOut (by kernel_rfl) (of_decide_eq_true (by kernel_rfl)) h1 (fun x hx => hw.same (hlt x (by simp [hx]))) (fun x hx => hsp x (by simp [hx]))) (WideElems.Trod_stays (sp' := sp) Try.laidOut (by kernel_rfl) (of_decide_eq_true (by kernel_rfl)) h2 (fun x hx => hw.same (hlt x (by simp [hx]))) (fun x hx => hsp x (by simp [hx])))
      simp only [List.append_nil, List.nil_append] at h
      exact h) (fun _ _ => rfl) (by simp)
    hw (ok_one (by kernel_rfl) rfl (okWide_bool_mk Try.underlying4 true))⟩

theorem streetsLeast_holds : Rows.StreetsLeastSaid :=
  OpenClaim.holds_of_wide 11 Try.f11 rfl rfl rfl rfl rfl rfl rfl ⟨rfl, rfl, rfl, rfl, rfl⟩ rfl rfl rfl rfl rfl (by kernel_rfl) Try.func11 (by kernel_rfl)
    (of_decide_eq_true (by kernel_rfl)) (by unfold Func.isWrapper; first | (rw [if_pos (by decide +kernel)]; kernel_rfl) | (rw [if_neg (by decide +kernel)]; exact ⟨rfl, rfl⟩))
    (fun os started H enc _ => streetsLeast_lifted os started H enc)
end Go.Proofs.Ytiejmoglooaalaa
