/- A part of the proof: X45c. -/
import Derived.Test.YtmhfkhlamnapdaaX45
import Derived.Test.YtmhfkhlamnapdaaX43c
import Derived.Test.YtmhfkhlamnapdaaX27c
set_option linter.unusedVariables false
set_option linter.unusedSimpArgs false
open Go Go.HL
namespace Go.Proofs.Ytmhfkhlamnapdaa
def talkGo (n : Int) : List (Int × Int) → List (Int × Int) → List (Int × Int)
  | [], acc => acc
  | p :: l, acc => talkGo n l (if modW p.1 n = modW p.2 n then acc else acc ++ [(modW p.1 n, modW p.2 n)])
abbrev tkE (lc : List HV) (n : Int) (p j : Nat) : Env := env45 (.imm .arg 2 lc) (.int .i64 n) (.imm .lit 2 []) (.sl 0 0 p none p 2) (.int .i64 (j : Int)) .undef .undef
theorem ints_bs (l : List (Int × Int)) : sameL (l.map encP) (l.map encP) = true := by
  induction l with
  | nil => rfl
  | cons p l ih => simp only [List.map_cons, sameL, encP, same, ih, beq_self_eq_true, Bool.and_self]
theorem talked_loop (n : Int) (hn : 0 < n ∧ n < 9223372036854775808) (l : List (Int × Int)) : ∀ (d j : Nat) (acc : List (Int × Int)), j + d = min l.length 100 → acc.length ≤ j →
    RunsTo Try.prog polC 45 (sub [1, 1, 0, 1, 0] B45) (tkE (l.map encP) n acc.length j) [bPs acc]
      (.exit 0) (polC.keys 45) (tkE (l.map encP) n (talkGo n ((l.take 100).drop j) acc).length (min l.length 100)) [bPs (talkGo n ((l.take 100).drop j) acc)] := by
  intro d
  induction d with
  | zero =>
    intro j acc hj ha
    have hd : (l.take 100).drop j = [] := List.drop_eq_nil_of_le (by rw [List.length_take]; omega)
    rw [hd, talkGo]
    have hj2 : j = min l.length 100 := by omega
    by_cases h : l.length ≤ 100
    · have s1 := tk_l_3 (l.map encP) n (acc.map encP) acc.length j (by rw [List.length_map]; omega)
      rw [← hj2]
      exact RunsTo.loop_out s1 (by simp) (by kernel_rfl) (by kernel_rfl)
    · have s1 := tk_l_2 (l.map encP) n (acc.map encP) acc.length j (by rw [List.length_map]; omega) (by omega)
      rw [← hj2]
      exact RunsTo.loop_out s1 (by simp) (by kernel_rfl) (by kernel_rfl)
  | succ d ih =>
    intro j acc hj ha
    have hjl : j < l.length := by omega
    have hj100 : j < 100 := by omega
    have hlt : j < (l.take 100).length := by rw [List.length_take]; omega
    have hd : (l.take 100).drop j = l[j] :: (l.take 100).drop (j + 1) := by
      rw [List.drop_eq_getElem_cons hlt, List.getElem_take]
    rw [hd, talkGo]
    have hpk : (l.map encP)[j]? = some (encP l[j]) := by rw [List.getElem?_map, List.getElem?_eq_getElem hjl]; rfl
    have g2 : idxV Try.prog 22 (.imm .arg 2 (l.map encP)) (.int .i64 (j : Int)) = some (.vptr (.agg [.int .i64 l[j].1, .int .i64 l[j].2])) := idx_imm u22 z33 (by omega) (by rw [Int.toNat_natCast]; exact hpk)
    have gm : ∀ (x : Int) (k : Nat), callN Try.prog polC (k + 1) 22 [.int .i64 x, .int .i64 n] [bPs acc] = some (.int .i64 (modW x n), [bPs acc]) := fun x k => by
      rw [prim_call (pol := polC) (g := 22) (F := modF) (by kernel_rfl) (rs := [.int .i64 x, .int .i64 n]) rfl (res := .int .i64 (modW x n)) (by simp only [modF]; rw [if_pos hn])]; rfl
    have gS : ((same (.int .i64 l[j].2) (.int .i64 l[j].2) && sameH ([bPs acc] : Heap) [bPs acc] && sameH ([bPs acc] : Heap) [bPs acc]) && true) = true := by
      simp only [same, sameH, ints_bs, beq_self_eq_true, Bool.and_self]
    have g0 : (j : Int) < ((l.map encP).length : Int) := by rw [List.length_map]; omega
    by_cases he : modW l[j].1 n = modW l[j].2 n
    · rw [if_pos he]
      have h := ih (j + 1) acc (by omega) (by omega)
      have s1 := tk_l_0 (l.map encP) n (acc.map encP) acc.length j _ _ _ _ _ _ g0 (by omega) g2 (gm _) g2 (gm _) gS he
      rw [wrap_succ (by omega)] at s1
      exact RunsTo.loop s1 (by kernel_rfl) (gc_same (by simp)) h rfl (by kernel_rfl) (by kernel_rfl)
    · rw [if_neg he]
      have h := ih (j + 1) (acc ++ [(modW l[j].1 n, modW l[j].2 n)]) (by omega) (by simp only [List.length_append, List.length_singleton]; omega)
      have hap := app_sl (H := [bPs acc]) (k := 2) (bytes := 16) (b := 0) (n := acc.length) (mx := 0) (els := acc.map encP) (xs := [encP (modW l[j].1 n, modW l[j].2 n)]) rfl (by simp) (by simp) (by simp only [List.length_singleton, roomMax]; omega) rfl
      have s1 := tk_l_1 (l.map encP) n (acc.map encP) acc.length j _ _ _ _ _ _ g0 (by omega) g2 (gm _) g2 (gm _) gS he hap
      rw [wrap_succ (by omega)] at s1
      have e1 : (acc ++ [(modW l[j].1 n, modW l[j].2 n)]).map encP = acc.map encP ++ [encP (modW l[j].1 n, modW l[j].2 n)] := by simp
      have e2 : (acc ++ [(modW l[j].1 n, modW l[j].2 n)]).length = acc.length + 1 := by simp
      unfold bPs at h
      rw [e1, e2] at h
      exact RunsTo.loop s1 (by kernel_rfl) (gc_same (by simp)) h rfl (by kernel_rfl) (by kernel_rfl)
def talkedL (n : Int) (l : List (Int × Int)) : List (Int × Int) := talkGo n (l.take 100) []
def talked45 : List HV → Option HV
  | [.imm .arg 2 lc, .int .i64 n] => match mapO decP lc with | some l => if 0 < n ∧ n < 9223372036854775808 then some (.own 2 ((talkedL n l).map encP)) else none | none => none
  | _ => none
theorem res45 : Try.f45.results.toList = [.tmp 4] := by kernel_rfl
theorem talked_ok : PrimOk Try.prog 45 talked45 := by
  refine primOk_pure (pol := polC) (fn := Try.f45) (cd := B45) follows_mixed soundC (by kernel_rfl) (by kernel_rfl) (fnok polC.prim _ _ (by kernel_rfl)) (by kernel_rfl) ?_
  intro args res h
  unfold talked45 at h
  split at h
  · rename_i lc n
    split at h
    · rename_i l hl
      split at h
      · rename_i hn
        cases h
        rw [mapO_inv decP_inv hl]
        have a1 := tk_a_0 (l.map encP) n
        have b1 := tk_b_0 (l.map encP) n
        have c1 := tk_c_0 (l.map encP) n [] 0
        have l1 := talked_loop n hn l (min l.length 100) 0 [] (by omega) (by simp)
        rw [List.drop_zero] at l1
        have z1 := tk_z_0 (l.map encP) n ((talkedL n l).map encP) (talkedL n l).length (min l.length 100)
        have t1 := RunsTo.seq c1 (RunsTo.block_exit (c := sub [1, 1, 0, 1] B45) l1 (by kernel_rfl)) (c := sub [1, 1, 0] B45) (by kernel_rfl) (by kernel_rfl)
        have t2 := RunsTo.seq t1 z1 (c := sub [1, 1] B45) (by kernel_rfl) (by kernel_rfl)
        have t3 := RunsTo.seq b1 t2 (c := sub [1] B45) (by kernel_rfl) (by kernel_rfl)
        have t4 := RunsTo.seq a1 t3 (c := B45) (by kernel_rfl) (by kernel_rfl)
        have hr := resCell_sl (H := [bPs (talkedL n l)]) (no := [0]) (b := 0) (k := 2) (m := (talkedL n l).length) (cap := none) (els := (talkedL n l).map encP) rfl (by simp) (mapO_self (fun r => frz_pair r) _)
        have ho : ownedAll [bPs (talkedL n l)] false (.sl 0 0 (talkedL n l).length none (talkedL n l).length 2) = [0] := rfl
        refine ⟨_, _, _, .sl 0 0 (talkedL n l).length none (talkedL n l).length 2, t4, by simp, by simp only [resultsV, res45]; rfl, ?_⟩
        show toRes _ false _ = _
        simp only [toRes, ho, List.nodup_cons, List.not_mem_nil, not_false_eq_true, List.nodup_nil, and_self, if_true, resVal, hr]
      · cases h
    · cases h
  · cases h
end Go.Proofs.Ytmhfkhlamnapdaa
