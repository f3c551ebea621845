/- A part of the proof: X16. -/
import Derived.Test.YtmhfkhlamnapdaaRBase
import Derived.Test.YtmhfkhlamnapdaaHlF
set_option linter.unusedVariables false
set_option linter.unusedSimpArgs false
open Go Go.HL
namespace Go.Proofs.Ytmhfkhlamnapdaa
set_option maxRecDepth 100000
noncomputable def B16 : Code := Try.f16.body.getD .skip
abbrev env16 (v0 v2 v3 : HV) : Env := [(0, v0), (2, v2), (3, v3)]
theorem fw_0 (lc : List HV) (m : Nat)  (g0 : sliceV Try.prog 22 (.imm .arg 2 lc) none (some (.int .i64 (min (lc.length : Int) 201))) none = some (.imm .arg 2 (lc.take m))) (g1 : appV [.arr 2 [] true 0] 2 16 (.sl 0 0 0 none 0 2) (lc.take m) = some (.sl 0 0 ((lc.take m).length) none ((lc.take m).length) 2, [.arr 2 (lc.take m) true 0])) : RunsTo Try.prog pol 16 (sub [] B16) [(0, .imm .arg 2 lc)] [] (.ret) (pol.keys 16) (env16 (.imm .arg 2 lc) (.sl 0 0 ((lc.take m).length) none ((lc.take m).length) 2) (.sl 0 0 0 none 0 2)) [.arr 2 (lc.take m) true 0] :=
  RunsTo.hint 1 60 [⟨2, 5, .imm .arg 2 (lc.take m), [.arr 2 [] true 0]⟩, ⟨2, 6, .sl 0 0 ((lc.take m).length) none ((lc.take m).length) 2, [.arr 2 (lc.take m) true 0]⟩] fun kf hk => by
    obtain ⟨kf, rfl⟩ : ∃ n, kf = n + 1 := ⟨kf - 1, by omega⟩
    exact ⟨[(sliceV Try.prog 22 (.imm .arg 2 lc) none (some (.int .i64 (min (lc.length : Int) 201))) none).map (fun v => (v, ([.arr 2 [] true 0] : Heap))) = some (.imm .arg 2 (lc.take m), [.arr 2 [] true 0]), appV [.arr 2 [] true 0] 2 16 (.sl 0 0 0 none 0 2) (lc.take m) = some (.sl 0 0 ((lc.take m).length) none ((lc.take m).length) 2, [.arr 2 (lc.take m) true 0])], by kernel_rfl, Obls.cons (hintOp g0) (Obls.cons (g1) Obls.nil)⟩

noncomputable def B37 : Code := Try.f37.body.getD .skip
abbrev env37 (v0 v2 : HV) : Env := [(0, v0), (2, v2)]
theorem rf_0 (n : Int)  (g0 : n < 4) : RunsTo Try.prog pol 37 (sub [] B37) [(0, .int .i64 n)] [] (.ret) (pol.keys 37) (env37 (.int .i64 n) (.int .i64 (IntKind.i64.wrap ((IntKind.i64.wrap (n * IntKind.i64.wrap (n - 1)) : Int).tdiv 2)))) [] :=
  RunsTo.hint 1 60 [⟨1, 1, .bool true, []⟩] fun kf hk => by
    obtain ⟨kf, rfl⟩ : ∃ n, kf = n + 1 := ⟨kf - 1, by omega⟩
    exact ⟨[some (HV.bool (decide (n < 4)), ([] : Heap)) = some (.bool true, [])], by kernel_rfl, Obls.cons (hintB (decide_eq_true g0)) Obls.nil⟩

theorem rf_1 (n : Int)  (g0 : ¬ (n < 4)) : RunsTo Try.prog pol 37 (sub [] B37) [(0, .int .i64 n)] [] (.ret) (pol.keys 37) (env37 (.int .i64 n) (.int .i64 (IntKind.i64.wrap (IntKind.i64.wrap (2 * n) - 4)))) [] :=
  RunsTo.hint 1 60 [⟨1, 1, .bool false, []⟩] fun kf hk => by
    obtain ⟨kf, rfl⟩ : ∃ n, kf = n + 1 := ⟨kf - 1, by omega⟩
    exact ⟨[some (HV.bool (decide (n < 4)), ([] : Heap)) = some (.bool false, [])], by kernel_rfl, Obls.cons (hintB (decide_eq_false g0)) Obls.nil⟩

end Go.Proofs.Ytmhfkhlamnapdaa
