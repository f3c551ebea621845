/- RelayChecks: for every record of an int, a list of pairs and an int, and every list of lists of pairs, the law 'lampboxlaw09.RelayChecks' returns true, and changes nothing. Without conditions. -/
import Derived.Test.YtmhfkhlamnapdaaP8C
import Derived.Test.YtmhfkhlamnapdaaRows
set_option linter.unusedVariables false
set_option linter.unusedSimpArgs false
open Go Go.HL Go.ChangeShapes Go.WideShapes Go.ChangeAt Go.RowKit Go.Deep
namespace Go.Proofs.Ytmhfkhlamnapdaa
theorem Try.own : ownKnob Try.prog.godebug = none := by kernel_rfl
theorem Try.laidOut : laidOutB Try.prog = true := by kernel_rfl
theorem relayChecks_run (n : Int) (l : List (Int × Int)) (x : Int) (R : List (List (Int × Int))) : ∃ k H', callN Try.prog polG k 8 [.agg [.int .i64 n, .imm .arg 2 (l.map encP), .int .i64 x], .imm .arg 1 (R.map encRd)] [] = some (.bool true, H') := by
  obtain ⟨E, H, t, hv⟩ := relayChecks_law n l x R
  have e0 : toArg [] 6 (.agg [.int .i64 n, .imm .arg 2 (l.map encP), .int .i64 x]) = some (.agg [.int .i64 n, .imm .arg 2 (l.map encP), .int .i64 x]) := by
    have e1 : toArg [] 5 (.imm .arg 2 (l.map encP)) = some (.imm .arg 2 (l.map encP)) := by
      show argP (.imm .arg 2 (l.map encP)) = _
      simp only [argP, argP_pairs8]
    have e : toArg [] 6 (.agg [.int .i64 n, .imm .arg 2 (l.map encP), .int .i64 x]) = match mapO (toArg [] 5) [.int .i64 n, .imm .arg 2 (l.map encP), .int .i64 x] with | some l => some (.agg l) | none => none := rfl
    rw [e]
    simp only [mapO, e1]
    rfl
  obtain ⟨k, h⟩ := CallsTo.pure (pol := polG) (g := 8) (fn := Try.f8) (cd := B8) (args := [.agg [.int .i64 n, .imm .arg 2 (l.map encP), .int .i64 x], .imm .arg 1 (R.map encRd)]) (rs := [.agg [.int .i64 n, .imm .arg 2 (l.map encP), .int .i64 x], .imm .arg 1 (R.map encRd)]) (H := []) (v := .bool true) (r := .bool true) (by kernel_rfl) (by kernel_rfl) (by kernel_rfl) (by kernel_rfl) (by kernel_rfl) (by simp only [mapO, e0, arg_imm_rds]) t (by kernel_rfl) (by simp) (by simp only [resultsV, res8, mapO, resultV, hv]) rfl
  exact ⟨k, _, h k (Nat.le_refl k)⟩
theorem str49 : ∃ f0 f1 f2 : Field, Try.prog.underlying 49 = some (.struct #[f0, f1, f2]) ∧ f0.type = 3 ∧ f0.offset = 0 ∧ f1.type = 22 ∧ f1.offset = 1 ∧ f2.type = 3 ∧ f2.offset = 2 := by
  have h1 : ((Try.prog.underlying 49).map fun u => match u with | .struct fs => fs.toList.map (fun f => (f.type, f.offset)) | _ => []) = some [(3, 0), (22, 1), (3, 2)] := by kernel_rfl
  cases hu : Try.prog.underlying 49 with
  | none => rw [hu] at h1; cases h1
  | some u =>
    rw [hu] at h1
    simp only [Option.map_some, Option.some.injEq] at h1
    split at h1
    · rename_i fs
      obtain ⟨l⟩ := fs
      match l, h1 with
      | [f0, f1, f2], h1 =>
        simp at h1
        exact ⟨f0, f1, f2, rfl, h1.1.1, h1.1.2, h1.2.1.1, h1.2.1.2, h1.2.2.1, h1.2.2.2⟩
    · cases h1
theorem u33a : Try.prog.underlying 33 = some (.array 2 3) := by kernel_rfl
theorem u3a : Try.prog.underlying 3 = some (.int .i64) := by kernel_rfl
theorem c33a : Try.prog.cellsOf 33 = 2 := by kernel_rfl
theorem c3a : Try.prog.cellsOf 3 = 1 := by kernel_rfl
theorem c22a : Try.prog.cellsOf 22 = 1 := by kernel_rfl
theorem c49a : Try.prog.cellsOf 49 = 3 := by kernel_rfl
theorem open_task {H : Type} {enc : TypeId × Value → H} {W : World} {base : Nat} {v : Value} {d : DataW H} {ps : List MemPlace} (hval : Value.okWide Try.prog W .any base 49 v) (hd : DataW.Trod enc Try.prog W 0 (fun _ => true) true 49 v d ps) : ∃ (n : Int) (l : List (Int × Int)) (x : Int), V W (okOf Ctx.nil W.heap.size) Ctx.nil (.agg [.int .i64 n, .imm .arg 2 (l.map encP), .int .i64 x]) v := by
  obtain ⟨f0, f1, f2, hu, t0, o0, t1, o1, t2, o2⟩ := str49
  obtain ⟨cs, rfl, hcs⟩ := okWide_struct hu hval
  rw [c49a] at hcs
  obtain ⟨fuel, hf⟩ := hd
  obtain ⟨y0, y1, y2, k, _, hl, h0, h1, h2⟩ := trod_struct3 hu hf
  obtain ⟨csl⟩ := cs
  match csl, hcs with
  | [w0, w1, w2], _ =>
    rw [t0, o0, c3a] at h0
    rw [t1, o1, c22a] at h1
    rw [t2, o2, c3a] at h2
    simp [Value.cells] at h0 h1 h2
    obtain ⟨z0, e0, _, _⟩ := DataW.trod_int u3a h0
    obtain ⟨z2, e2, _, _⟩ := DataW.trod_int u3a h2
    obtain ⟨l, u, e1, hV⟩ := pairs_cells u22 u33a u3a c33a c3a h1
    simp at e0 e1 e2
    subst e0; subst e1; subst e2
    refine ⟨z0, l, z2, V.agg _ _ rfl (fun v hv => ?_) fun i v r hi hr => ?_⟩
    · simp at hv
      rcases hv with rfl | rfl | rfl <;> rfl
    · match i, hi, hr with
      | 0, hi, hr => simp at hi hr; subst hi; subst hr; exact V.int _ _
      | 1, hi, hr => simp at hi hr; subst hi; subst hr; exact hV
      | 2, hi, hr => simp at hi hr; subst hi; subst hr; exact V.int _ _
theorem open_rounds {H : Type} {enc : TypeId × Value → H} {W : World} {base : Nat} {v : Value} {d : DataW H} {ps : List MemPlace} (hval : Value.okWide Try.prog W .any base 44 v) (hd : DataW.Trod enc Try.prog W 0 (fun _ => true) true 44 v d ps) : ∃ (R : List (List (Int × Int))), V W (okOf Ctx.nil W.heap.size) Ctx.nil (.imm .arg 1 (R.map encRd)) v := by
  obtain ⟨a, len, cap, rfl⟩ := okWide_slice u44b hval
  obtain ⟨fuel, hf⟩ := hd
  obtain ⟨R, u, e, hV⟩ := rounds_cells u44b c22a u22 u33a u3a c33a c3a hf
  simp [Value.cells] at e
  subst e
  exact ⟨R, hV⟩


set_option maxRecDepth 100000 in
theorem relayChecks_lifted (os : Os) (started : os.Started) (H : Type) (enc : TypeId × Value → H) :
    ReturnsInHanded {} Try.checked os 8 .any (Rows.relayChecksSpec.pre6 enc Try.prog Try.f8 Rows.relayChecksRow.domain false) (Rows.relayChecksSpec.post enc Try.prog Try.f8 false true false false) := by
  refine returnsInHanded_of_change (C := Try.checked) Try.own started (by kernel_rfl) Try.func8
    (ChangeSpec.witness6 (enc := enc) (C := Try.checked) false ⟨#[], #[.agg #[.int .i64 0, .slice none 0 0, .int .i64 0], .slice none 0 0], []⟩ 8 (by kernel_rfl) (by kernel_rfl) (by kernel_rfl) (by kernel_rfl)) ?_
  intro W base args ds gs before hval0 hW hcnd _
  have hval : ∀ (j : Nat) t v, Try.f8.params[j]? = some t → args[j]? = some v → Value.okWide Try.prog W .any base t v := hval0
  have hW' := hW
  obtain ⟨p, q, hA0, hV, rfl, hfz, hnd⟩ := hW
  have hA : DataW.TrodAll enc Try.prog W 0 (fun _ => true) true Try.f8.params.toList args.toList ds p := hA0
  rw [Try.params8] at hA hval
  obtain ⟨v0, v1, d0, d1, p0, p1, rfl, rfl, rfl, h0, h1⟩ := trodAll_two hA
  obtain ⟨rfl, rfl⟩ := trodVars_none hV
  obtain ⟨n0, l, x0, hl⟩ := open_task (hval 0 49 v0 rfl rfl) h0
  obtain ⟨R, hR⟩ := open_rounds (hval 1 44 v1 rfl rfl) h1
  clear hA0 hval0
  simp only [List.append_nil, List.nil_append] at hW'
  obtain ⟨n, hrun⟩ := relayChecks_run n0 l x0 R
  refine (law_calls (soundG n) (by kernel_rfl) rfl ?_ hrun).mono fun e W' ⟨he, hw⟩ => ?_
  · intro i v x hi hx
    match i, hi, hx with
    | 0, hi, hx =>
      simp at hi hx
      subst hi; subst hx
      exact hl
    | 1, hi, hx =>
      simp at hi hx
      subst hi; subst hx
      exact hR
  subst he
  have hlt := hW'.lt
  exact ⟨_, rfl, post_of_below (pa := p0 ++ p1) (pv := []) hW' (fun _ _ _ => trodAll_mk1 (shut_bool Try.underlying4 true))
    (fun sp hsp => trodAll_mk2 (p := p0) (p' := p1)
      (WideElems.Trod_stays (sp' := sp) Try.laidOut (by kernel_rfl) (of_decide_eq_true (by kernel_rfl)) h0 (fun x hx => hw.same (hlt x (by simp [hx]))) (fun x hx => hsp x (by simp [hx])))
      (WideElems.Trod_stays (sp' := sp) Try.laidOut (by kernel_rfl) (of_decide_eq_true (by kernel_rfl)) h1 (fun x hx => hw.same (hlt x (by simp [hx]))) (fun x hx => hsp x (by simp [hx])))) (fun _ _ => rfl) (by simp)
    hw (ok_one (by kernel_rfl) rfl (okWide_bool_mk Try.underlying4 true))⟩

theorem relayChecks_holds : Rows.RelayChecksSaid :=
  OpenClaim.holds_of_wide 8 Try.f8 rfl rfl rfl rfl rfl rfl rfl ⟨rfl, rfl, rfl, rfl, rfl⟩ rfl rfl rfl rfl rfl (by kernel_rfl) Try.func8 (by kernel_rfl)
    (of_decide_eq_true (by kernel_rfl)) (by unfold Func.isWrapper; first | (rw [if_pos (by decide +kernel)]; kernel_rfl) | (rw [if_neg (by decide +kernel)]; exact ⟨rfl, rfl⟩))
    (fun os started H enc _ => relayChecks_lifted os started H enc)
end Go.Proofs.Ytmhfkhlamnapdaa
