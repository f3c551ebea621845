/- A part of the proof. -/
import Derived.Test.YtmhfkhlamnapdaaP9A
set_option linter.unusedVariables false
set_option linter.unusedSimpArgs false
section
open Go Go.HL
namespace Go.Proofs.Ytmhfkhlamnapdaa
set_option maxRecDepth 100000
def nan70 : List HV → Option HV | [.int .i64 _] => some (.bool false) | _ => none
def polNa : Pol := { pol with prim := fun g => if g == 70 then some nan70 else none }
noncomputable def B70 : Code := Try.f70.body.getD .skip
abbrev env70 (v0 v2 : HV) : Env := [(0, v0), (2, v2)]
theorem nan_0 (x : Int)(g0 : x = x) : RunsTo Try.prog pol 70 (sub [] B70) [(0, .i x)] [] .ret (pol.keys 70) (env70 (.i x) (.bool false)) [] :=
  RunsTo.hin 0 60 [⟨1, 2, .bool false, []⟩] fun kf hk => ⟨_, by kernel_rfl, (oB [] (congrArg not (decide_eq_true g0)) .nil)⟩
noncomputable def B68 : Code := Try.f68.body.getD .skip
abbrev env68 (v0 v1 v4 v5 v6 : HV) : Env := [(0, v0), (1, v1), (4, v4), (5, v5), (6, v6)]
theorem cmp_0 (x y : Int)(g0 : ∀ kf, callN Try.prog polNa (kf + 1) 70 [.i x] [] = some (.bool false, [])) (g1 : ∀ kf, callN Try.prog polNa (kf + 1) 70 [.i y] [] = some (.bool false, [])) (g2 : x < y) : RunsTo Try.prog polNa 68 (sub [] B68) [(0, .i x), (1, .i y)] [] .ret (polNa.keys 68) (env68 (.i x) (.i y) (.i (-1)) (.bool false) (.bool false)) [] :=
  RunsTo.hin 0 60 [⟨1, 1, .bool false, []⟩, ⟨2, 1, .bool false, []⟩, ⟨9, 2, .bool true, []⟩] fun kf hk => ⟨_, by kernel_rfl, (oC (g0 kf) (oC (g1 kf) (oB [] (decide_eq_true g2) .nil)))⟩
theorem cmp_1 (x y : Int)(g0 : ∀ kf, callN Try.prog polNa (kf + 1) 70 [.i x] [] = some (.bool false, [])) (g1 : ∀ kf, callN Try.prog polNa (kf + 1) 70 [.i y] [] = some (.bool false, [])) (g2 : ¬ (x < y)) (g3 : y < x) : RunsTo Try.prog polNa 68 (sub [] B68) [(0, .i x), (1, .i y)] [] .ret (polNa.keys 68) (env68 (.i x) (.i y) (.i 1) (.bool false) (.bool false)) [] :=
  RunsTo.hin 0 60 [⟨1, 1, .bool false, []⟩, ⟨2, 1, .bool false, []⟩, ⟨9, 2, .bool false, []⟩, ⟨11, 2, .bool true, []⟩] fun kf hk => ⟨_, by kernel_rfl, (oC (g0 kf) (oC (g1 kf) (oB [] (decide_eq_false g2) (oB [] (decide_eq_true g3) .nil))))⟩
theorem cmp_2 (x y : Int)(g0 : ∀ kf, callN Try.prog polNa (kf + 1) 70 [.i x] [] = some (.bool false, [])) (g1 : ∀ kf, callN Try.prog polNa (kf + 1) 70 [.i y] [] = some (.bool false, [])) (g2 : ¬ (x < y)) (g3 : ¬ (y < x)) : RunsTo Try.prog polNa 68 (sub [] B68) [(0, .i x), (1, .i y)] [] .ret (polNa.keys 68) (env68 (.i x) (.i y) (.i 0) (.bool false) (.bool false)) [] :=
  RunsTo.hin 0 60 [⟨1, 1, .bool false, []⟩, ⟨2, 1, .bool false, []⟩, ⟨9, 2, .bool false, []⟩, ⟨11, 2, .bool false, []⟩] fun kf hk => ⟨_, by kernel_rfl, (oC (g0 kf) (oC (g1 kf) (oB [] (decide_eq_false g2) (oB [] (decide_eq_false g3) .nil))))⟩
noncomputable def B61 : Code := Try.f61.body.getD .skip
abbrev env61 (v0 v2 : HV) : Env := [(0, v0), (2, v2)]
theorem cl_1 (l : List HV)(g0 : nilTest Try.prog .eql 24 (.imm .arg 1 l) = some (.bool false)) (g1 : appV [] 1 8 (.imm .lit 1 []) l = some (.sl 0 0 l.length none l.length 1, [.arr 1 l true 0])) : RunsTo Try.prog pol 61 (sub [] B61) [(0, .imm .arg 1 l)] [] .ret (pol.keys 61) (env61 (.imm .arg 1 l) (.sl 0 0 l.length none l.length 1)) [.arr 1 l true 0] :=
  RunsTo.hin 0 60 [⟨1, 1, .bool false, []⟩, ⟨3, 2, .sl 0 0 l.length none l.length 1, [.arr 1 l true 0]⟩] fun kf hk => ⟨_, by kernel_rfl, (oP [] g0 (oC (g1) .nil))⟩
end Go.Proofs.Ytmhfkhlamnapdaa
end
section
open Go Go.HL
namespace Go.Proofs.Ytmhfkhlamnapdaa
theorem res70 : Try.f70.results.toList = [.tmp 2] := by kernel_rfl
theorem res68 : Try.f68.results.toList = [.tmp 4] := by kernel_rfl
theorem res61 : Try.f61.results.toList = [.tmp 2] := by kernel_rfl
theorem nan_ok : PrimOk Try.prog 70 nan70 := by
  refine primOk_pure (pol := pol) (fn := Try.f70) (cd := B70) follows_mixed sound (by kernel_rfl) (by kernel_rfl) (fnok pol.prim _ _ (by kernel_rfl)) (by kernel_rfl) ?_
  intro args res h
  unfold nan70 at h
  split at h
  · rename_i x
    cases h
    exact ⟨_, _, _, _, nan_0 x rfl, by simp, by simp only [resultsV, res70]; rfl, rfl⟩
  · cases h
theorem soundNa (n : Nat) : CallSound Try.prog (callN Try.prog polNa n) := sound_prim _ (fun g f h => by
  split at h
  · rename_i hg
    cases h
    rw [eq_of_beq hg]
    exact nan_ok
  · cases h) n
def cmpI (x y : Int) : Int := if x < y then -1 else if y < x then 1 else 0
def compare68 : List HV → Option HV | [.int .i64 x, .int .i64 y] => some (.int .i64 (cmpI x y)) | _ => none
theorem compare_ok : PrimOk Try.prog 68 compare68 := by
  refine primOk_pure (pol := polNa) (fn := Try.f68) (cd := B68) follows_mixed soundNa (by kernel_rfl) (by kernel_rfl) (fnok polNa.prim _ _ (by kernel_rfl)) (by kernel_rfl) ?_
  intro args res h
  unfold compare68 at h
  split at h
  · rename_i x y
    cases h
    have c : ∀ x k, callN Try.prog polNa (k + 1) 70 [.int .i64 x] [] = some (.bool false, []) := fun x k => by
      rw [prim_call (pol := polNa) (g := 70) (F := nan70) (by kernel_rfl) (rs := [.int .i64 x]) rfl (res := .bool false) rfl]; rfl
    unfold cmpI
    by_cases h1 : x < y
    · rw [if_pos h1]
      exact ⟨_, _, _, _, cmp_0 x y (c x) (c y) h1, by simp, by simp only [resultsV, res68]; rfl, rfl⟩
    · rw [if_neg h1]
      by_cases h2 : y < x
      · rw [if_pos h2]
        exact ⟨_, _, _, _, cmp_1 x y (c x) (c y) h1 h2, by simp, by simp only [resultsV, res68]; rfl, rfl⟩
      · rw [if_neg h2]
        exact ⟨_, _, _, _, cmp_2 x y (c x) (c y) h1 h2, by simp, by simp only [resultsV, res68]; rfl, rfl⟩
  · cases h
def clone61 : List HV → Option HV
  | [.imm .arg 1 la] => (match mapO decI la with | some l => if l.length ≤ 1000 then some (.own 1 (l.map encI)) else none | none => none)
  | _ => none
theorem clone_run (v : Int) (l : List Int) (hl : (v :: l).length ≤ 1000) : ∃ k, callN Try.prog pol k 61 [.imm .arg 1 ((v :: l).map encI)] [] = some (.sl 0 0 (v :: l).length none (v :: l).length 1, [bI (v :: l)]) := by
  have hb : ∀ (l : List Int), bndL (l.map encI) = 0 := by
    intro l
    induction l with
    | nil => rfl
    | cons a l ih => simp only [List.map_cons, bndL, ih, encI, bnd]; rfl
  have hap : appV [] 1 8 (.imm .lit 1 []) ((v :: l).map encI) = some (.sl 0 0 ((v :: l).map encI).length none ((v :: l).map encI).length 1, [.arr 1 ((v :: l).map encI) true 0]) := by
    have hne : (v :: l).map encI ≠ [] := by simp
    simp only [appV, if_neg hne]
    rw [if_pos ⟨.inr trivial, by simp only [List.length_nil, List.length_map, roomMax]; omega⟩, hb]
    simp
  have hnt : nilTest Try.prog .eql 24 (.imm .arg 1 ((v :: l).map encI)) = some (.bool false) := by
    have hu : Try.prog.underlying 24 = some (.slice 3) := u24b
    simp only [nilTest, hu, knownNil, List.map_cons, nilOp]
  obtain ⟨m, h⟩ := cl_1 ((v :: l).map encI) hnt hap
  obtain ⟨e1, g1, g2⟩ := h m m (Nat.le_refl m) (Nat.le_refl m)
  refine ⟨m + 1, ?_⟩
  have hrc := resCell_sl (H := [bI (v :: l)]) (no := [0]) (b := 0) (k := 1) (m := (v :: l).length) (cap := none) (els := (v :: l).map encI) rfl (by simp) (mapO_self (fun r => frz_int 4 r) _)
  have hown : ownedAll [bI (v :: l)] false (.sl 0 0 (v :: l).length none (v :: l).length 1) = [0] := rfl
  have hpr : pureRun Try.prog pol (evC Try.prog pol (callN Try.prog pol m) m) 61 Try.f61 B61 [.imm .arg 1 ((v :: l).map encI)] = some (.own 1 ((v :: l).map encI)) := by
    unfold pureRun
    have hg1 : evC Try.prog pol (callN Try.prog pol m) m 61 B61 (args0 [.imm .arg 1 ((v :: l).map encI)]) [] = some (.ret, e1, [bI (v :: l)]) := g1
    rw [hg1]
    have hres : resultsV Try.prog Try.f61 e1 [bI (v :: l)] = some (.sl 0 0 (v :: l).length none (v :: l).length 1) := by
      have := resultsV_restr (P := Try.prog) (fn := Try.f61) (K := pol.keys 61) (e := e1) (H := [bI (v :: l)]) (by kernel_rfl)
      rw [← this, g2]
      simp only [resultsV, res61, mapO, resultV]
      simp [Env.get]
    simp only [hres]
    show toRes _ false _ = _
    simp only [toRes, hown, List.nodup_cons, List.not_mem_nil, not_false_eq_true, List.nodup_nil, and_self, if_true, resVal, hrc]
  have hp : pol.prim 61 = none := by kernel_rfl
  have hs : pol.shared 61 = false := by kernel_rfl
  have hf : Try.prog.funcs[61]? = some Try.f61 := by kernel_rfl
  have hbd : Try.f61.body = some B61 := by kernel_rfl
  have ha : toArg [] 6 (.imm .arg 1 ((v :: l).map encI)) = some (.imm .arg 1 ((v :: l).map encI)) := by
    show argP (.imm .arg 1 ((v :: l).map encI)) = _
    simp only [argP, argP_ints']
  have hno : ((v :: l).map encI).any isOwn = false := by
    rw [List.any_eq_false]
    intro v hv
    obtain ⟨k, _, rfl⟩ := List.mem_map.1 hv
    simp [encI, isOwn]
  simp only [callN, doCall, hp, hf, hbd, hs, Bool.false_eq_true, if_false, mapO, ha]
  have hpc : pureCall Try.prog pol (evC Try.prog pol (callN Try.prog pol m) m) 61 Try.f61 B61 [.imm .arg 1 ((v :: l).map encI)] = some (.own 1 ((v :: l).map encI)) := by
    unfold pureCall
    rw [if_pos (by kernel_rfl)]
    simp only [List.map_cons] at hpr ⊢
    exact hpr
  rw [hpc]
  simp only [recv, recvVal, recvCell, hno, List.length_map]
  rfl
theorem clone_ok : PrimOk Try.prog 61 clone61 := by
  refine primOk_of (pol := pol) sound (by kernel_rfl) fun args res h => ?_
  unfold clone61 at h
  split at h
  · rename_i la
    split at h
    · rename_i l hla
      split at h
      · rename_i hl
        cases h
        rw [mapO_inv decI_inv hla]
        cases l with
        | nil => exact ⟨30, .sl 0 0 0 none 0 1, [.arr 1 [] true 0], false, by kernel_rfl, rfl⟩
        | cons v l =>
          obtain ⟨k, hk⟩ := clone_run v l hl
          refine ⟨k, _, _, false, hk, ?_⟩
          have hrc := resCell_sl (H := [bI (v :: l)]) (no := [0]) (b := 0) (k := 1) (m := (v :: l).length) (cap := none) (els := (v :: l).map encI) rfl (by simp) (mapO_self (fun r => frz_int 4 r) _)
          have hown : ownedAll [bI (v :: l)] false (.sl 0 0 (v :: l).length none (v :: l).length 1) = [0] := rfl
          simp only [toRes, hown, List.nodup_cons, List.not_mem_nil, not_false_eq_true, List.nodup_nil, and_self, if_true, resVal, hrc]
      · cases h
    · cases h
  · cases h
end Go.Proofs.Ytmhfkhlamnapdaa
end
section
open Go Go.HL
namespace Go.Proofs.Ytmhfkhlamnapdaa
def primS (g : FuncId) : Option (List HV → Option HV) :=
  if g == 49 then some withinF else if g == 46 then some newTree46 else if g == 50 then some far50 else if g == 52 then some contains52 else if g == 61 then some clone61 else if g == 68 then some compare68 else none
def polS : Pol := { pol with prim := primS }
theorem primS_ok (g : FuncId) (f : List HV → Option HV) (h : primS g = some f) : PrimOk Try.prog g f := by
  unfold primS at h
  split at h
  · rename_i hg; cases h; rw [eq_of_beq hg]; exact within_ok
  split at h
  · rename_i hg; cases h; rw [eq_of_beq hg]; exact newTree_ok
  split at h
  · rename_i hg; cases h; rw [eq_of_beq hg]; exact far_ok
  split at h
  · rename_i hg; cases h; rw [eq_of_beq hg]; exact contains_ok
  split at h
  · rename_i hg; cases h; rw [eq_of_beq hg]; exact clone_ok
  split at h
  · rename_i hg; cases h; rw [eq_of_beq hg]; exact compare_ok
  · cases h
theorem soundS (n : Nat) : CallSound Try.prog (callN Try.prog polS n) := sound_prim primS primS_ok n
abbrev Cl (g : FuncId) (args : List HV) (H : Heap) (r : HV) (H' : Heap) : Prop := CallsTo (P := Try.prog) (pol := polS) g args H r H'
theorem CallsTo.shared {P : Program} {pol : Pol} {g : FuncId} {fn : Func} {cd : Code} {args : List HV} {x : X} {E : Env} {H H' : Heap} {v : HV} (hp : pol.prim g = none) (hf : P.funcs[g]? = some fn) (hb : fn.body = some cd) (hs : pol.shared g = true)
    (hrun : RunsTo P pol g cd (args0 args) H x (pol.keys g) E H') (hres : (fn.results.toList.all fun r => match r with | .tmp t => (pol.keys g).contains t | .cell t _ => (pol.keys g).contains t) = true) (hx : ∀ i, x ≠ .exit i) (hv : resultsV P fn E H' = some v) :
    CallsTo (P := P) (pol := pol) g args H v (gc H.length (bnd v) H') := by
  obtain ⟨m, h⟩ := hrun
  refine ⟨m + 1, fun k hk => ?_⟩
  obtain ⟨k, rfl⟩ : ∃ n', k = n' + 1 := ⟨k - 1, by omega⟩
  obtain ⟨e1, g1, g2⟩ := h k k (by omega) (by omega)
  subst g2
  rw [resultsV_restr hres] at hv
  simp only [callN, doCall, hp, hf, hb, hs, if_true, sharedCall, g1]
  cases x with
  | exit i => exact absurd rfl (hx i)
  | normal => simp only [hv]
  | ret => simp only [hv]
theorem Cl.from {g : FuncId} {args : List HV} {H H' : Heap} {r : HV} (h : Cl g args H r H') : ∃ N, ∀ kf, N ≤ kf → callN Try.prog polS (kf + 1) g args H = some (r, H') := by
  obtain ⟨m, h⟩ := h
  exact ⟨m, fun kf hk => h (kf + 1) (by omega)⟩
structure Fr (H H' : Heap) : Prop where
  len : H'.length = H.length
  same : ∀ k, k ≠ 1 → H'[k]? = H[k]?
theorem Fr.refl (H : Heap) : Fr H H := ⟨rfl, fun _ _ => rfl⟩
theorem Fr.trans {H H' H'' : Heap} (h : Fr H H') (h' : Fr H' H'') : Fr H H'' := ⟨h'.len.trans h.len, fun k hk => (h'.same k hk).trans (h.same k hk)⟩
structure Fd (db : Nat) (H H' : Heap) : Prop where
  len : H'.length = H.length
  same : ∀ k, k ≠ 1 → k ≠ db → H'[k]? = H[k]?
theorem Fd.refl (db : Nat) (H : Heap) : Fd db H H := ⟨rfl, fun _ _ _ => rfl⟩
theorem Fd.trans {db : Nat} {H H' H'' : Heap} (h : Fd db H H') (h' : Fd db H' H'') : Fd db H H'' := ⟨h'.len.trans h.len, fun k hk hd => (h'.same k hk hd).trans (h.same k hk hd)⟩
theorem Fr.fd {db : Nat} {H H' : Heap} (h : Fr H H') : Fd db H H' := ⟨h.len, fun k hk _ => h.same k hk⟩
structure Cmp (db : Nat) (cp : HV) (f : Int → Int) (dom : Int → Prop) (K : Heap → Prop) : Prop where
  one : db ≠ 1
  call : ∀ H x y, K H → dom x → dom y → ∃ c H', Cl 67 [.int .i64 x, .int .i64 y, cp] H (.int .i64 c) H' ∧ (c < 0 ↔ f y < f x) ∧ K H' ∧ Fr H H'
  put : ∀ H (l l' : List Int), K H → H[db]? = some (bI l) → l'.length = l.length → K (H.set db (bI l'))
structure Ls (db : Nat) (K : Heap → Prop) (dom : Int → Prop) (l : List Int) (H : Heap) : Prop where
  blk : H[db]? = some (bI l)
  ok : K H
  all : ∀ v ∈ l, dom v
theorem Ls.fr {db : Nat} {K : Heap → Prop} {dom : Int → Prop} {l : List Int} {H H' : Heap} (h : Ls db K dom l H) (h1 : db ≠ 1) (hK : K H') (hf : Fr H H') : Ls db K dom l H' := ⟨by rw [hf.same db h1]; exact h.blk, hK, h.all⟩
def swp (l : List Int) (i j : Nat) : List Int := (l.set i (l.getD j 0)).set j (l.getD i 0)
theorem swp_len (l : List Int) (i j : Nat) : (swp l i j).length = l.length := by simp [swp]
theorem swp_perm {l : List Int} {i j : Nat} (hi : i < l.length) (hj : j < l.length) : (swp l i j).Perm l := by
  have h := Array.swap_perm (xs := l.toArray) (i := i) (j := j) (by simpa using hi) (by simpa using hj)
  have h2 := h.toList
  rw [Array.toList_swap] at h2
  simpa [swp, List.getD, List.getElem?_eq_getElem hi, List.getElem?_eq_getElem hj] using h2
theorem swp_get {l : List Int} {i j : Nat} (hi : i < l.length) (hj : j < l.length) (k : Nat) : (swp l i j).getD k 0 = if k = j then l.getD i 0 else if k = i then l.getD j 0 else l.getD k 0 := by
  unfold swp
  rw [getD_set _ _ _ _ (by simpa using hj), getD_set _ _ _ _ hi]
  by_cases e : j = k
  · subst e; simp
  · have e' : ¬ k = j := fun h => e h.symm
    rw [if_neg e, if_neg e']
    by_cases e2 : i = k
    · subst e2; simp
    · rw [if_neg e2, if_neg (fun h => e2 h.symm)]
theorem Ls.swp_ {db : Nat} {K : Heap → Prop} {dom : Int → Prop} {l : List Int} {H : Heap} {cp : HV} {f : Int → Int} (h : Ls db K dom l H) (hc : Cmp db cp f dom K) {i j : Nat} (hi : i < l.length) (hj : j < l.length) :
    storeV Try.prog H 3 (.ptr db i 0 l.length) (.int .i64 (l.getD j 0)) = some (H.set db (bI (l.set i (l.getD j 0)))) ∧
    storeV Try.prog (H.set db (bI (l.set i (l.getD j 0)))) 3 (.ptr db j 0 l.length) (.int .i64 (l.getD i 0)) = some (H.set db (bI (swp l i j))) ∧ Ls db K dom (swp l i j) (H.set db (bI (swp l i j))) ∧ Fd db H (H.set db (bI (swp l i j))) := by
  have hlt : db < H.length := lt_of_get h.blk
  have h1 := store_out h.blk hi (l.getD j 0)
  have hb : (H.set db (bI (l.set i (l.getD j 0))))[db]? = some (bI (l.set i (l.getD j 0))) := List.getElem?_set_self hlt
  have h2 := store_out hb (y := j) (by simpa using hj) (l.getD i 0)
  rw [List.length_set, List.set_set] at h2
  refine ⟨h1, h2, ⟨List.getElem?_set_self hlt, hc.put H l _ h.ok h.blk (swp_len l i j), fun v hv => h.all v ?_⟩, by simp, fun k _ hd => by rw [List.getElem?_set_ne (fun e => hd e.symm)]⟩
  exact (swp_perm hi hj).mem_iff.1 hv
theorem Ls.load {db : Nat} {K : Heap → Prop} {dom : Int → Prop} {l : List Int} {H : Heap} (h : Ls db K dom l H) {i : Nat} (hi : i < l.length) : loadV Try.prog H 3 (.ptr db i 0 l.length) = some (.int .i64 (l.getD i 0)) := load_out h.blk hi
theorem Ls.dom_ {db : Nat} {K : Heap → Prop} {dom : Int → Prop} {l : List Int} {H : Heap} (h : Ls db K dom l H) {i : Nat} (hi : i < l.length) : dom (l.getD i 0) := by
  have : l.getD i 0 = l[i] := by simp [List.getD, List.getElem?_eq_getElem hi]
  rw [this]; exact h.all _ (List.getElem_mem hi)
theorem gc_eq {H H' : Heap} (r : Nat) (h : H'.length = H.length) : gc H.length r H' = H' := gc_same (by omega)
end Go.Proofs.Ytmhfkhlamnapdaa
end
section
open Go Go.HL
namespace Go.Proofs.Ytmhfkhlamnapdaa
set_option maxRecDepth 100000
noncomputable def B69 : Code := Try.f69.body.getD .skip
abbrev env69 (v0 v1 v2 v6 v7 v8 v9 : HV) : Env := [(0, v0), (1, v1), (2, v2), (6, v6), (7, v7), (8, v8), (9, v9)]
theorem st_a_0 (N : Nat) (db n : Nat) (m : Int) (cp : HV) (H : Heap) : RunsTo Try.prog polS 69 (sub [0] B69) [(0, .sl db 0 n none n 1), (1, .i m), (2, .func 67 [] [cp])] H .normal (polS.keys 69) (env69 (.sl db 0 n none n 1) (.i m) (.func 67 [] [cp]) (.i 20) .undef .undef .undef) H :=
  RunsTo.hin N 60 [] fun kf hk => ⟨_, by kernel_rfl, .nil⟩
theorem st_b_0 (N : Nat) (db n : Nat) (m : Int) (cp : HV) (H : Heap) (w : Int) : RunsTo Try.prog polS 69 (sub [1, 0] B69) (env69 (.sl db 0 n none n 1) (.i m) (.func 67 [] [cp]) (.i w) .undef .undef .undef) H .normal (polS.keys 69) (env69 (.sl db 0 n none n 1) (.i m) (.func 67 [] [cp]) (.i w) (.i 0) (.i w) .undef) H :=
  RunsTo.hin N 60 [] fun kf hk => ⟨_, by kernel_rfl, .nil⟩
theorem st_c_0 (N : Nat) (db n : Nat) (m : Int) (cp : HV) (H : Heap) (w a b : Int) (H0 : Heap) (g0 : b ≤ m) (g1 : ∀ kf, N ≤ kf → callN Try.prog polS (kf + 1) 71 [.sl db 0 n none n 1, .i a, .i b, .func 67 [] [cp]] H = some (.tuple [], H0)) : RunsTo Try.prog polS 69 (sub [1, 1, 0, 0, 0] B69) (env69 (.sl db 0 n none n 1) (.i m) (.func 67 [] [cp]) (.i w) (.i a) (.i b) .undef) H .normal (polS.keys 69) (env69 (.sl db 0 n none n 1) (.i m) (.func 67 [] [cp]) (.i w) (.i b) (.i (IntKind.i64.wrap (b + w))) .undef) H0 :=
  RunsTo.hin N 60 [⟨2, 2, .bool true, H⟩, ⟨3, 4, .tuple [], H0⟩] fun kf hk => ⟨_, by kernel_rfl, (oB H (decide_eq_true g0) (oC (g1 kf (by omega)) .nil))⟩
theorem st_c_1 (N : Nat) (db n : Nat) (m : Int) (cp : HV) (H : Heap) (w a b : Int)(g0 : ¬ (b ≤ m)) : RunsTo Try.prog polS 69 (sub [1, 1, 0, 0, 0] B69) (env69 (.sl db 0 n none n 1) (.i m) (.func 67 [] [cp]) (.i w) (.i a) (.i b) .undef) H (.exit 0) (polS.keys 69) (env69 (.sl db 0 n none n 1) (.i m) (.func 67 [] [cp]) (.i w) (.i a) (.i b) .undef) H :=
  RunsTo.hin N 60 [⟨2, 2, .bool false, H⟩] fun kf hk => ⟨_, by kernel_rfl, (oB H (decide_eq_false g0) .nil)⟩
theorem st_d_0 (N : Nat) (db n : Nat) (m : Int) (cp : HV) (H : Heap) (w a b : Int) (H0 : Heap) (g0 : ∀ kf, N ≤ kf → callN Try.prog polS (kf + 1) 71 [.sl db 0 n none n 1, .i a, .i m, .func 67 [] [cp]] H = some (.tuple [], H0)) : RunsTo Try.prog polS 69 (sub [1, 1, 1, 0] B69) (env69 (.sl db 0 n none n 1) (.i m) (.func 67 [] [cp]) (.i w) (.i a) (.i b) .undef) H .normal (polS.keys 69) (env69 (.sl db 0 n none n 1) (.i m) (.func 67 [] [cp]) (.i w) (.i a) (.i b) .undef) H0 :=
  RunsTo.hin N 60 [⟨6, 4, .tuple [], H0⟩] fun kf hk => ⟨_, by kernel_rfl, (oC (g0 kf (by omega)) .nil)⟩
theorem st_e_0 (N : Nat) (db n : Nat) (m : Int) (cp : HV) (H : Heap) (w : Int) (v7 v8 : HV)(g0 : w < m) : RunsTo Try.prog polS 69 (sub [1, 1, 1, 1, 0, 0, 0] B69) (env69 (.sl db 0 n none n 1) (.i m) (.func 67 [] [cp]) (.i w) v7 v8 .undef) H .normal (polS.keys 69) (env69 (.sl db 0 n none n 1) (.i m) (.func 67 [] [cp]) (.i w) v7 v8 .undef) H :=
  RunsTo.hin N 60 [⟨7, 2, .bool true, H⟩] fun kf hk => ⟨_, by kernel_rfl, (oB H (decide_eq_true g0) .nil)⟩
theorem st_e_1 (N : Nat) (db n : Nat) (m : Int) (cp : HV) (H : Heap) (w : Int) (v7 v8 : HV)(g0 : ¬ (w < m)) : RunsTo Try.prog polS 69 (sub [1, 1, 1, 1, 0, 0, 0] B69) (env69 (.sl db 0 n none n 1) (.i m) (.func 67 [] [cp]) (.i w) v7 v8 .undef) H (.exit 2) (polS.keys 69) (env69 (.sl db 0 n none n 1) (.i m) (.func 67 [] [cp]) (.i w) v7 v8 .undef) H :=
  RunsTo.hin N 60 [⟨7, 2, .bool false, H⟩] fun kf hk => ⟨_, by kernel_rfl, (oB H (decide_eq_false g0) .nil)⟩
theorem st_f_0 (N : Nat) (db n : Nat) (m : Int) (cp : HV) (H : Heap) (w : Int) (v7 v8 : HV) : RunsTo Try.prog polS 69 (sub [1, 1, 1, 1, 0, 0, 1, 0, 0] B69) (env69 (.sl db 0 n none n 1) (.i m) (.func 67 [] [cp]) (.i w) v7 v8 .undef) H .normal (polS.keys 69) (env69 (.sl db 0 n none n 1) (.i m) (.func 67 [] [cp]) (.i w) (.i 0) (.i (IntKind.i64.wrap (2 * w))) .undef) H :=
  RunsTo.hin N 60 [] fun kf hk => ⟨_, by kernel_rfl, .nil⟩
theorem st_g_1 (N : Nat) (db n : Nat) (m : Int) (cp : HV) (H : Heap) (w a b : Int)(g0 : ¬ (b ≤ m)) : RunsTo Try.prog polS 69 (sub [1, 1, 1, 1, 0, 0, 1, 0, 1, 0, 0, 0] B69) (env69 (.sl db 0 n none n 1) (.i m) (.func 67 [] [cp]) (.i w) (.i a) (.i b) .undef) H (.exit 4) (polS.keys 69) (env69 (.sl db 0 n none n 1) (.i m) (.func 67 [] [cp]) (.i w) (.i a) (.i b) .undef) H :=
  RunsTo.hin N 60 [⟨9, 2, .bool false, H⟩] fun kf hk => ⟨_, by kernel_rfl, (oB H (decide_eq_false g0) .nil)⟩
theorem st_h_0 (N : Nat) (db n : Nat) (m : Int) (cp : HV) (H : Heap) (w a b : Int) (H0 : Heap) (g0 : IntKind.i64.wrap (a + w) < m) (g1 : ∀ kf, N ≤ kf → callN Try.prog polS (kf + 1) 72 [.sl db 0 n none n 1, .i a, .i (IntKind.i64.wrap (a + w)), .i m, .func 67 [] [cp]] H = some (.tuple [], H0)) : RunsTo Try.prog polS 69 (sub [1, 1, 1, 1, 0, 0, 1, 0, 1, 1] B69) (env69 (.sl db 0 n none n 1) (.i m) (.func 67 [] [cp]) (.i w) (.i a) (.i b) .undef) H .normal (polS.keys 69) (env69 (.sl db 0 n none n 1) (.i m) (.func 67 [] [cp]) (.i (IntKind.i64.wrap (w * 2))) (.i a) (.i b) (.i (IntKind.i64.wrap (a + w)))) H0 :=
  RunsTo.hin N 60 [⟨14, 2, .bool true, H⟩, ⟨15, 5, .tuple [], H0⟩] fun kf hk => ⟨_, by kernel_rfl, (oB H (decide_eq_true g0) (oC (g1 kf (by omega)) .nil))⟩
end Go.Proofs.Ytmhfkhlamnapdaa
end
section
open Go Go.HL
namespace Go.Proofs.Ytmhfkhlamnapdaa
set_option maxRecDepth 100000
noncomputable def B66 : Code := Try.f66.body.getD .skip
abbrev env66 (v0 v1 : HV) : Env := [(0, v0), (1, v1)]
theorem so_a_0 (N : Nat) (db n : Nat) (cp : HV) (H : Heap) (H0 : Heap) (g0 : ∀ kf, N ≤ kf → callN Try.prog polS (kf + 1) 69 [.sl db 0 n none n 1, .i (n : Int), .func 67 [] [cp]] H = some (.tuple [], H0)) : RunsTo Try.prog polS 66 (sub [] B66) (env66 (.sl db 0 n none n 1) (.func 67 [] [cp])) H .normal (polS.keys 66) (env66 (.sl db 0 n none n 1) (.func 67 [] [cp])) H0 :=
  RunsTo.hin N 60 [⟨0, 4, .tuple [], H0⟩] fun kf hk => ⟨_, by kernel_rfl, (oC (g0 kf (by omega)) .nil)⟩
end Go.Proofs.Ytmhfkhlamnapdaa
end
section
open Go Go.HL
namespace Go.Proofs.Ytmhfkhlamnapdaa
set_option maxRecDepth 100000
noncomputable def B72 : Code := Try.f72.body.getD .skip
abbrev env72 (v0 v1 v2 v3 v4 v10 v11 v12 v13 v14 v15 v16 v17 v18 v19 v20 v21 v22 v23 v24 : HV) : Env := [(0, v0), (1, v1), (2, v2), (3, v3), (4, v4), (10, v10), (11, v11), (12, v12), (13, v13), (14, v14), (15, v15), (16, v16), (17, v17), (18, v18), (19, v19), (20, v20), (21, v21), (22, v22), (23, v23), (24, v24)]
theorem sy_a_0 (N : Nat) (db n : Nat) (a m b : Int) (cp : HV) (H : Heap)(g0 : IntKind.i64.wrap (m - a) = 1) : RunsTo Try.prog polS 72 (sub [0, 0] B72) [(0, .sl db 0 n none n 1), (1, .i a), (2, .i m), (3, .i b), (4, .func 67 [] [cp])] H .normal [0, 1, 2, 3, 4, 10, 11, 12, 13, 14, 15, 16, 17, 18, 19, 20, 21, 22, 23, 24, 28] [(0, .sl db 0 n none n 1), (1, .i a), (2, .i m), (3, .i b), (4, .func 67 [] [cp]), (10, .undef), (11, .undef), (12, .undef), (13, .undef), (14, .undef), (15, .undef), (16, .undef), (17, .undef), (18, .undef), (19, .undef), (20, .undef), (21, .undef), (22, .undef), (23, .undef), (24, .undef), (28, .bool true)] H :=
  RunsTo.hin N 60 [⟨0, 3, .bool true, H⟩] fun kf hk => ⟨_, by kernel_rfl, (oB H (decide_eq_true g0) .nil)⟩
theorem sy_a_1 (N : Nat) (db n : Nat) (a m b : Int) (cp : HV) (H : Heap)(g0 : ¬ (IntKind.i64.wrap (m - a) = 1)) : RunsTo Try.prog polS 72 (sub [0, 0] B72) [(0, .sl db 0 n none n 1), (1, .i a), (2, .i m), (3, .i b), (4, .func 67 [] [cp])] H .normal [0, 1, 2, 3, 4, 10, 11, 12, 13, 14, 15, 16, 17, 18, 19, 20, 21, 22, 23, 24, 28] [(0, .sl db 0 n none n 1), (1, .i a), (2, .i m), (3, .i b), (4, .func 67 [] [cp]), (10, .undef), (11, .undef), (12, .undef), (13, .undef), (14, .undef), (15, .undef), (16, .undef), (17, .undef), (18, .undef), (19, .undef), (20, .undef), (21, .undef), (22, .undef), (23, .undef), (24, .undef), (28, .bool false)] H :=
  RunsTo.hin N 60 [⟨0, 3, .bool false, H⟩] fun kf hk => ⟨_, by kernel_rfl, (oB H (decide_eq_false g0) .nil)⟩
theorem sy_b_0 (N : Nat) (db n : Nat) (a m b : Int) (cp : HV) (H : Heap) : RunsTo Try.prog polS 72 (sub [0, 1, 0, 0] B72) (env72 (.sl db 0 n none n 1) (.i a) (.i m) (.i b) (.func 67 [] [cp]) .undef .undef .undef .undef .undef .undef .undef .undef .undef .undef .undef .undef .undef .undef .undef) H .normal (polS.keys 72) (env72 (.sl db 0 n none n 1) (.i a) (.i m) (.i b) (.func 67 [] [cp]) (.i m) .undef .undef .undef .undef .undef .undef .undef .undef .undef .undef .undef .undef .undef .undef) H :=
  RunsTo.hin N 60 [] fun kf hk => ⟨_, by kernel_rfl, .nil⟩
theorem sy_c_0 (N : Nat) (db n : Nat) (a m b : Int) (cp : HV) (H : Heap) (i : Int) : RunsTo Try.prog polS 72 (sub [0, 1, 0, 1, 0] B72) (env72 (.sl db 0 n none n 1) (.i a) (.i m) (.i b) (.func 67 [] [cp]) (.i i) .undef .undef .undef .undef .undef .undef .undef .undef .undef .undef .undef .undef .undef .undef) H .normal (polS.keys 72) (env72 (.sl db 0 n none n 1) (.i a) (.i m) (.i b) (.func 67 [] [cp]) (.i i) (.i b) .undef .undef .undef .undef .undef .undef .undef .undef .undef .undef .undef .undef .undef) H :=
  RunsTo.hin N 60 [] fun kf hk => ⟨_, by kernel_rfl, .nil⟩
theorem sy_d_0 (N : Nat) (db n : Nat) (a m b : Int) (cp : HV) (H : Heap) (i j : Int) (h0 : Int) (x0 : Int) (x1 : Int) (c0 : Int) (H0 : Heap) (g0 : i < j) (g1 : binV Try.prog .shr 76 (.int .u64 (IntKind.u64.wrap (IntKind.i64.wrap (i + j)))) (.int .u64 1) = some (.int .u64 h0)) (g2 : idxV Try.prog 24 (.sl db 0 n none n 1) (.i (IntKind.i64.wrap h0)) = some (.ptr db ((IntKind.i64.wrap h0).toNat) 0 n)) (g3 : loadV Try.prog H 3 (.ptr db ((IntKind.i64.wrap h0).toNat) 0 n) = some (.i x0)) (g4 : idxV Try.prog 24 (.sl db 0 n none n 1) (.i a) = some (.ptr db ((a).toNat) 0 n)) (g5 : loadV Try.prog H 3 (.ptr db ((a).toNat) 0 n) = some (.i x1)) (g6 : ∀ kf, N ≤ kf → callN Try.prog polS (kf + 1) 67 [.i x0, .i x1, cp] H = some (.i c0, H0)) (g7 : c0 < 0) : RunsTo Try.prog polS 72 (sub [0, 1, 0, 1, 1, 0, 0, 0] B72) (env72 (.sl db 0 n none n 1) (.i a) (.i m) (.i b) (.func 67 [] [cp]) (.i i) (.i j) .undef .undef .undef .undef .undef .undef .undef .undef .undef .undef .undef .undef .undef) H .normal (polS.keys 72) (env72 (.sl db 0 n none n 1) (.i a) (.i m) (.i b) (.func 67 [] [cp]) (.i (IntKind.i64.wrap (IntKind.i64.wrap h0 + 1))) (.i j) (.i (IntKind.i64.wrap h0)) .undef .undef .undef .undef .undef .undef .undef .undef .undef .undef .undef .undef) H0 :=
  RunsTo.hin N 60 [⟨3, 2, .bool true, H⟩, ⟨4, 4, .int .u64 h0, H⟩, ⟨5, 3, .ptr db ((IntKind.i64.wrap h0).toNat) 0 n, H⟩, ⟨5, 4, .i x0, H⟩, ⟨5, 7, .ptr db ((a).toNat) 0 n, H⟩, ⟨5, 8, .i x1, H⟩, ⟨5, 9, .i c0, H0⟩, ⟨5, 10, .bool true, H0⟩] fun kf hk => ⟨_, by kernel_rfl, (oB H (decide_eq_true g0) (oP H g1 (oP H g2 (oP H g3 (oP H g4 (oP H g5 (oC (g6 kf (by omega)) (oB H0 (decide_eq_true g7) .nil))))))))⟩
theorem sy_d_1 (N : Nat) (db n : Nat) (a m b : Int) (cp : HV) (H : Heap) (i j : Int) (h0 : Int) (x0 : Int) (x1 : Int) (c0 : Int) (H0 : Heap) (g0 : i < j) (g1 : binV Try.prog .shr 76 (.int .u64 (IntKind.u64.wrap (IntKind.i64.wrap (i + j)))) (.int .u64 1) = some (.int .u64 h0)) (g2 : idxV Try.prog 24 (.sl db 0 n none n 1) (.i (IntKind.i64.wrap h0)) = some (.ptr db ((IntKind.i64.wrap h0).toNat) 0 n)) (g3 : loadV Try.prog H 3 (.ptr db ((IntKind.i64.wrap h0).toNat) 0 n) = some (.i x0)) (g4 : idxV Try.prog 24 (.sl db 0 n none n 1) (.i a) = some (.ptr db ((a).toNat) 0 n)) (g5 : loadV Try.prog H 3 (.ptr db ((a).toNat) 0 n) = some (.i x1)) (g6 : ∀ kf, N ≤ kf → callN Try.prog polS (kf + 1) 67 [.i x0, .i x1, cp] H = some (.i c0, H0)) (g7 : ¬ (c0 < 0)) : RunsTo Try.prog polS 72 (sub [0, 1, 0, 1, 1, 0, 0, 0] B72) (env72 (.sl db 0 n none n 1) (.i a) (.i m) (.i b) (.func 67 [] [cp]) (.i i) (.i j) .undef .undef .undef .undef .undef .undef .undef .undef .undef .undef .undef .undef .undef) H .normal (polS.keys 72) (env72 (.sl db 0 n none n 1) (.i a) (.i m) (.i b) (.func 67 [] [cp]) (.i i) (.i (IntKind.i64.wrap h0)) (.i (IntKind.i64.wrap h0)) .undef .undef .undef .undef .undef .undef .undef .undef .undef .undef .undef .undef) H0 :=
  RunsTo.hin N 60 [⟨3, 2, .bool true, H⟩, ⟨4, 4, .int .u64 h0, H⟩, ⟨5, 3, .ptr db ((IntKind.i64.wrap h0).toNat) 0 n, H⟩, ⟨5, 4, .i x0, H⟩, ⟨5, 7, .ptr db ((a).toNat) 0 n, H⟩, ⟨5, 8, .i x1, H⟩, ⟨5, 9, .i c0, H0⟩, ⟨5, 10, .bool false, H0⟩] fun kf hk => ⟨_, by kernel_rfl, (oB H (decide_eq_true g0) (oP H g1 (oP H g2 (oP H g3 (oP H g4 (oP H g5 (oC (g6 kf (by omega)) (oB H0 (decide_eq_false g7) .nil))))))))⟩
theorem sy_d_2 (N : Nat) (db n : Nat) (a m b : Int) (cp : HV) (H : Heap) (i j : Int)(g0 : ¬ (i < j)) : RunsTo Try.prog polS 72 (sub [0, 1, 0, 1, 1, 0, 0, 0] B72) (env72 (.sl db 0 n none n 1) (.i a) (.i m) (.i b) (.func 67 [] [cp]) (.i i) (.i j) .undef .undef .undef .undef .undef .undef .undef .undef .undef .undef .undef .undef .undef) H (.exit 0) (polS.keys 72) (env72 (.sl db 0 n none n 1) (.i a) (.i m) (.i b) (.func 67 [] [cp]) (.i i) (.i j) .undef .undef .undef .undef .undef .undef .undef .undef .undef .undef .undef .undef .undef) H :=
  RunsTo.hin N 60 [⟨3, 2, .bool false, H⟩] fun kf hk => ⟨_, by kernel_rfl, (oB H (decide_eq_false g0) .nil)⟩
theorem sy_e_0 (N : Nat) (db n : Nat) (a m b : Int) (cp : HV) (H : Heap) (i j : Int) (v12 : HV) : RunsTo Try.prog polS 72 (sub [0, 1, 0, 1, 1, 1, 0, 0] B72) (env72 (.sl db 0 n none n 1) (.i a) (.i m) (.i b) (.func 67 [] [cp]) (.i i) (.i j) v12 .undef .undef .undef .undef .undef .undef .undef .undef .undef .undef .undef .undef) H .normal (polS.keys 72) (env72 (.sl db 0 n none n 1) (.i a) (.i m) (.i b) (.func 67 [] [cp]) (.i i) (.i j) v12 (.i a) .undef .undef .undef .undef .undef .undef .undef .undef .undef .undef .undef) H :=
  RunsTo.hin N 60 [] fun kf hk => ⟨_, by kernel_rfl, .nil⟩
theorem sy_f_0 (N : Nat) (db n : Nat) (a m b : Int) (cp : HV) (H : Heap) (i k : Int) (x0 : Int) (x1 : Int) (H0 : Heap) (H1 : Heap) (g0 : k < IntKind.i64.wrap (i - 1)) (g1 : idxV Try.prog 24 (.sl db 0 n none n 1) (.i (IntKind.i64.wrap (k + 1))) = some (.ptr db ((IntKind.i64.wrap (k + 1)).toNat) 0 n)) (g2 : loadV Try.prog H 3 (.ptr db ((IntKind.i64.wrap (k + 1)).toNat) 0 n) = some (.i x0)) (g3 : idxV Try.prog 24 (.sl db 0 n none n 1) (.i k) = some (.ptr db ((k).toNat) 0 n)) (g4 : loadV Try.prog H 3 (.ptr db ((k).toNat) 0 n) = some (.i x1)) (g5 : idxV Try.prog 24 (.sl db 0 n none n 1) (.i k) = some (.ptr db ((k).toNat) 0 n)) (g6 : storeV Try.prog H 3 (.ptr db ((k).toNat) 0 n) (.i x0) = some H0) (g7 : idxV Try.prog 24 (.sl db 0 n none n 1) (.i (IntKind.i64.wrap (k + 1))) = some (.ptr db ((IntKind.i64.wrap (k + 1)).toNat) 0 n)) (g8 : storeV Try.prog H0 3 (.ptr db ((IntKind.i64.wrap (k + 1)).toNat) 0 n) (.i x1) = some H1) : RunsTo Try.prog polS 72 (sub [0, 1, 0, 1, 1, 1, 0, 1, 0, 0] B72) (env72 (.sl db 0 n none n 1) (.i a) (.i m) (.i b) (.func 67 [] [cp]) (.i i) .undef .undef (.i k) .undef .undef .undef .undef .undef .undef .undef .undef .undef .undef .undef) H .normal (polS.keys 72) (env72 (.sl db 0 n none n 1) (.i a) (.i m) (.i b) (.func 67 [] [cp]) (.i i) .undef .undef (.i (IntKind.i64.wrap (k + 1))) .undef .undef .undef .undef .undef .undef .undef .undef .undef .undef .undef) H1 :=
  RunsTo.hin N 60 [⟨9, 3, .bool true, H⟩, ⟨11, 8, .ptr db ((IntKind.i64.wrap (k + 1)).toNat) 0 n, H⟩, ⟨11, 9, .i x0, H⟩, ⟨11, 12, .ptr db ((k).toNat) 0 n, H⟩, ⟨11, 13, .i x1, H⟩, ⟨11, 14, .ptr db ((k).toNat) 0 n, H⟩, ⟨11, 15, .tuple [], H0⟩, ⟨11, 16, .ptr db ((IntKind.i64.wrap (k + 1)).toNat) 0 n, H0⟩, ⟨11, 17, .tuple [], H1⟩] fun kf hk => ⟨_, by kernel_rfl, (oB H (decide_eq_true g0) (oP H g1 (oP H g2 (oP H g3 (oP H g4 (oP H g5 (oS g6 (oP H0 g7 (oS g8 .nil)))))))))⟩
theorem sy_f_1 (N : Nat) (db n : Nat) (a m b : Int) (cp : HV) (H : Heap) (i k : Int)(g0 : ¬ (k < IntKind.i64.wrap (i - 1))) : RunsTo Try.prog polS 72 (sub [0, 1, 0, 1, 1, 1, 0, 1, 0, 0] B72) (env72 (.sl db 0 n none n 1) (.i a) (.i m) (.i b) (.func 67 [] [cp]) (.i i) .undef .undef (.i k) .undef .undef .undef .undef .undef .undef .undef .undef .undef .undef .undef) H (.exit 2) (polS.keys 72) (env72 (.sl db 0 n none n 1) (.i a) (.i m) (.i b) (.func 67 [] [cp]) (.i i) .undef .undef (.i k) .undef .undef .undef .undef .undef .undef .undef .undef .undef .undef .undef) H :=
  RunsTo.hin N 60 [⟨9, 3, .bool false, H⟩] fun kf hk => ⟨_, by kernel_rfl, (oB H (decide_eq_false g0) .nil)⟩
theorem sy_g_0 (N : Nat) (db n : Nat) (a m b : Int) (cp : HV) (H : Heap) (i k : Int) : RunsTo Try.prog polS 72 (sub [0, 1, 0, 1, 1, 1, 1] B72) (env72 (.sl db 0 n none n 1) (.i a) (.i m) (.i b) (.func 67 [] [cp]) (.i i) .undef .undef (.i k) .undef .undef .undef .undef .undef .undef .undef .undef .undef .undef .undef) H .ret (polS.keys 72) (env72 (.sl db 0 n none n 1) (.i a) (.i m) (.i b) (.func 67 [] [cp]) (.i i) .undef .undef (.i k) .undef .undef .undef .undef .undef .undef .undef .undef .undef .undef .undef) H :=
  RunsTo.hin N 60 [] fun kf hk => ⟨_, by kernel_rfl, .nil⟩
theorem sy_h_0 (N : Nat) (db n : Nat) (a m b : Int) (cp : HV) (H : Heap)(g0 : IntKind.i64.wrap (b - m) = 1) : RunsTo Try.prog polS 72 (sub [1, 0, 0] B72) (env72 (.sl db 0 n none n 1) (.i a) (.i m) (.i b) (.func 67 [] [cp]) .undef .undef .undef .undef .undef .undef .undef .undef .undef .undef .undef .undef .undef .undef .undef) H .normal [0, 1, 2, 3, 4, 10, 11, 12, 13, 14, 15, 16, 17, 18, 19, 20, 21, 22, 23, 24, 80] [(0, .sl db 0 n none n 1), (1, .i a), (2, .i m), (3, .i b), (4, .func 67 [] [cp]), (10, .undef), (11, .undef), (12, .undef), (13, .undef), (14, .undef), (15, .undef), (16, .undef), (17, .undef), (18, .undef), (19, .undef), (20, .undef), (21, .undef), (22, .undef), (23, .undef), (24, .undef), (80, .bool true)] H :=
  RunsTo.hin N 60 [⟨12, 3, .bool true, H⟩] fun kf hk => ⟨_, by kernel_rfl, (oB H (decide_eq_true g0) .nil)⟩
theorem sy_h_1 (N : Nat) (db n : Nat) (a m b : Int) (cp : HV) (H : Heap)(g0 : ¬ (IntKind.i64.wrap (b - m) = 1)) : RunsTo Try.prog polS 72 (sub [1, 0, 0] B72) (env72 (.sl db 0 n none n 1) (.i a) (.i m) (.i b) (.func 67 [] [cp]) .undef .undef .undef .undef .undef .undef .undef .undef .undef .undef .undef .undef .undef .undef .undef) H .normal [0, 1, 2, 3, 4, 10, 11, 12, 13, 14, 15, 16, 17, 18, 19, 20, 21, 22, 23, 24, 80] [(0, .sl db 0 n none n 1), (1, .i a), (2, .i m), (3, .i b), (4, .func 67 [] [cp]), (10, .undef), (11, .undef), (12, .undef), (13, .undef), (14, .undef), (15, .undef), (16, .undef), (17, .undef), (18, .undef), (19, .undef), (20, .undef), (21, .undef), (22, .undef), (23, .undef), (24, .undef), (80, .bool false)] H :=
  RunsTo.hin N 60 [⟨12, 3, .bool false, H⟩] fun kf hk => ⟨_, by kernel_rfl, (oB H (decide_eq_false g0) .nil)⟩
theorem sy_i_0 (N : Nat) (db n : Nat) (a m b : Int) (cp : HV) (H : Heap) : RunsTo Try.prog polS 72 (sub [1, 0, 1, 0, 0] B72) (env72 (.sl db 0 n none n 1) (.i a) (.i m) (.i b) (.func 67 [] [cp]) .undef .undef .undef .undef .undef .undef .undef .undef .undef .undef .undef .undef .undef .undef .undef) H .normal (polS.keys 72) (env72 (.sl db 0 n none n 1) (.i a) (.i m) (.i b) (.func 67 [] [cp]) .undef .undef .undef .undef (.i a) .undef .undef .undef .undef .undef .undef .undef .undef .undef .undef) H :=
  RunsTo.hin N 60 [] fun kf hk => ⟨_, by kernel_rfl, .nil⟩
theorem sy_j_0 (N : Nat) (db n : Nat) (a m b : Int) (cp : HV) (H : Heap) (i : Int) : RunsTo Try.prog polS 72 (sub [1, 0, 1, 0, 1, 0] B72) (env72 (.sl db 0 n none n 1) (.i a) (.i m) (.i b) (.func 67 [] [cp]) .undef .undef .undef .undef (.i i) .undef .undef .undef .undef .undef .undef .undef .undef .undef .undef) H .normal (polS.keys 72) (env72 (.sl db 0 n none n 1) (.i a) (.i m) (.i b) (.func 67 [] [cp]) .undef .undef .undef .undef (.i i) (.i m) .undef .undef .undef .undef .undef .undef .undef .undef .undef) H :=
  RunsTo.hin N 60 [] fun kf hk => ⟨_, by kernel_rfl, .nil⟩
theorem sy_k_0 (N : Nat) (db n : Nat) (a m b : Int) (cp : HV) (H : Heap) (i j : Int) (h0 : Int) (x0 : Int) (x1 : Int) (c0 : Int) (H0 : Heap) (g0 : i < j) (g1 : binV Try.prog .shr 76 (.int .u64 (IntKind.u64.wrap (IntKind.i64.wrap (i + j)))) (.int .u64 1) = some (.int .u64 h0)) (g2 : idxV Try.prog 24 (.sl db 0 n none n 1) (.i m) = some (.ptr db ((m).toNat) 0 n)) (g3 : loadV Try.prog H 3 (.ptr db ((m).toNat) 0 n) = some (.i x0)) (g4 : idxV Try.prog 24 (.sl db 0 n none n 1) (.i (IntKind.i64.wrap h0)) = some (.ptr db ((IntKind.i64.wrap h0).toNat) 0 n)) (g5 : loadV Try.prog H 3 (.ptr db ((IntKind.i64.wrap h0).toNat) 0 n) = some (.i x1)) (g6 : ∀ kf, N ≤ kf → callN Try.prog polS (kf + 1) 67 [.i x0, .i x1, cp] H = some (.i c0, H0)) (g7 : c0 < 0) : RunsTo Try.prog polS 72 (sub [1, 0, 1, 0, 1, 1, 0, 0, 0] B72) (env72 (.sl db 0 n none n 1) (.i a) (.i m) (.i b) (.func 67 [] [cp]) .undef .undef .undef .undef (.i i) (.i j) .undef .undef .undef .undef .undef .undef .undef .undef .undef) H .normal (polS.keys 72) (env72 (.sl db 0 n none n 1) (.i a) (.i m) (.i b) (.func 67 [] [cp]) .undef .undef .undef .undef (.i i) (.i (IntKind.i64.wrap h0)) (.i (IntKind.i64.wrap h0)) .undef .undef .undef .undef .undef .undef .undef .undef) H0 :=
  RunsTo.hin N 60 [⟨15, 2, .bool true, H⟩, ⟨16, 4, .int .u64 h0, H⟩, ⟨17, 3, .ptr db ((m).toNat) 0 n, H⟩, ⟨17, 4, .i x0, H⟩, ⟨17, 7, .ptr db ((IntKind.i64.wrap h0).toNat) 0 n, H⟩, ⟨17, 8, .i x1, H⟩, ⟨17, 9, .i c0, H0⟩, ⟨17, 10, .bool true, H0⟩] fun kf hk => ⟨_, by kernel_rfl, (oB H (decide_eq_true g0) (oP H g1 (oP H g2 (oP H g3 (oP H g4 (oP H g5 (oC (g6 kf (by omega)) (oB H0 (decide_eq_true g7) .nil))))))))⟩
theorem sy_k_1 (N : Nat) (db n : Nat) (a m b : Int) (cp : HV) (H : Heap) (i j : Int) (h0 : Int) (x0 : Int) (x1 : Int) (c0 : Int) (H0 : Heap) (g0 : i < j) (g1 : binV Try.prog .shr 76 (.int .u64 (IntKind.u64.wrap (IntKind.i64.wrap (i + j)))) (.int .u64 1) = some (.int .u64 h0)) (g2 : idxV Try.prog 24 (.sl db 0 n none n 1) (.i m) = some (.ptr db ((m).toNat) 0 n)) (g3 : loadV Try.prog H 3 (.ptr db ((m).toNat) 0 n) = some (.i x0)) (g4 : idxV Try.prog 24 (.sl db 0 n none n 1) (.i (IntKind.i64.wrap h0)) = some (.ptr db ((IntKind.i64.wrap h0).toNat) 0 n)) (g5 : loadV Try.prog H 3 (.ptr db ((IntKind.i64.wrap h0).toNat) 0 n) = some (.i x1)) (g6 : ∀ kf, N ≤ kf → callN Try.prog polS (kf + 1) 67 [.i x0, .i x1, cp] H = some (.i c0, H0)) (g7 : ¬ (c0 < 0)) : RunsTo Try.prog polS 72 (sub [1, 0, 1, 0, 1, 1, 0, 0, 0] B72) (env72 (.sl db 0 n none n 1) (.i a) (.i m) (.i b) (.func 67 [] [cp]) .undef .undef .undef .undef (.i i) (.i j) .undef .undef .undef .undef .undef .undef .undef .undef .undef) H .normal (polS.keys 72) (env72 (.sl db 0 n none n 1) (.i a) (.i m) (.i b) (.func 67 [] [cp]) .undef .undef .undef .undef (.i (IntKind.i64.wrap (IntKind.i64.wrap h0 + 1))) (.i j) (.i (IntKind.i64.wrap h0)) .undef .undef .undef .undef .undef .undef .undef .undef) H0 :=
  RunsTo.hin N 60 [⟨15, 2, .bool true, H⟩, ⟨16, 4, .int .u64 h0, H⟩, ⟨17, 3, .ptr db ((m).toNat) 0 n, H⟩, ⟨17, 4, .i x0, H⟩, ⟨17, 7, .ptr db ((IntKind.i64.wrap h0).toNat) 0 n, H⟩, ⟨17, 8, .i x1, H⟩, ⟨17, 9, .i c0, H0⟩, ⟨17, 10, .bool false, H0⟩] fun kf hk => ⟨_, by kernel_rfl, (oB H (decide_eq_true g0) (oP H g1 (oP H g2 (oP H g3 (oP H g4 (oP H g5 (oC (g6 kf (by omega)) (oB H0 (decide_eq_false g7) .nil))))))))⟩
theorem sy_k_2 (N : Nat) (db n : Nat) (a m b : Int) (cp : HV) (H : Heap) (i j : Int)(g0 : ¬ (i < j)) : RunsTo Try.prog polS 72 (sub [1, 0, 1, 0, 1, 1, 0, 0, 0] B72) (env72 (.sl db 0 n none n 1) (.i a) (.i m) (.i b) (.func 67 [] [cp]) .undef .undef .undef .undef (.i i) (.i j) .undef .undef .undef .undef .undef .undef .undef .undef .undef) H (.exit 4) (polS.keys 72) (env72 (.sl db 0 n none n 1) (.i a) (.i m) (.i b) (.func 67 [] [cp]) .undef .undef .undef .undef (.i i) (.i j) .undef .undef .undef .undef .undef .undef .undef .undef .undef) H :=
  RunsTo.hin N 60 [⟨15, 2, .bool false, H⟩] fun kf hk => ⟨_, by kernel_rfl, (oB H (decide_eq_false g0) .nil)⟩
theorem sy_l_0 (N : Nat) (db n : Nat) (a m b : Int) (cp : HV) (H : Heap) (i j : Int) (v16 : HV) : RunsTo Try.prog polS 72 (sub [1, 0, 1, 0, 1, 1, 1, 0, 0] B72) (env72 (.sl db 0 n none n 1) (.i a) (.i m) (.i b) (.func 67 [] [cp]) .undef .undef .undef .undef (.i i) (.i j) v16 .undef .undef .undef .undef .undef .undef .undef .undef) H .normal (polS.keys 72) (env72 (.sl db 0 n none n 1) (.i a) (.i m) (.i b) (.func 67 [] [cp]) .undef .undef .undef .undef (.i i) (.i j) v16 (.i m) .undef .undef .undef .undef .undef .undef .undef) H :=
  RunsTo.hin N 60 [] fun kf hk => ⟨_, by kernel_rfl, .nil⟩
theorem sy_m_0 (N : Nat) (db n : Nat) (a m b : Int) (cp : HV) (H : Heap) (i k : Int) (x0 : Int) (x1 : Int) (H0 : Heap) (H1 : Heap) (g0 : i < k) (g1 : idxV Try.prog 24 (.sl db 0 n none n 1) (.i (IntKind.i64.wrap (k - 1))) = some (.ptr db ((IntKind.i64.wrap (k - 1)).toNat) 0 n)) (g2 : loadV Try.prog H 3 (.ptr db ((IntKind.i64.wrap (k - 1)).toNat) 0 n) = some (.i x0)) (g3 : idxV Try.prog 24 (.sl db 0 n none n 1) (.i k) = some (.ptr db ((k).toNat) 0 n)) (g4 : loadV Try.prog H 3 (.ptr db ((k).toNat) 0 n) = some (.i x1)) (g5 : idxV Try.prog 24 (.sl db 0 n none n 1) (.i k) = some (.ptr db ((k).toNat) 0 n)) (g6 : storeV Try.prog H 3 (.ptr db ((k).toNat) 0 n) (.i x0) = some H0) (g7 : idxV Try.prog 24 (.sl db 0 n none n 1) (.i (IntKind.i64.wrap (k - 1))) = some (.ptr db ((IntKind.i64.wrap (k - 1)).toNat) 0 n)) (g8 : storeV Try.prog H0 3 (.ptr db ((IntKind.i64.wrap (k - 1)).toNat) 0 n) (.i x1) = some H1) : RunsTo Try.prog polS 72 (sub [1, 0, 1, 0, 1, 1, 1, 0, 1, 0, 0] B72) (env72 (.sl db 0 n none n 1) (.i a) (.i m) (.i b) (.func 67 [] [cp]) .undef .undef .undef .undef (.i i) .undef .undef (.i k) .undef .undef .undef .undef .undef .undef .undef) H .normal (polS.keys 72) (env72 (.sl db 0 n none n 1) (.i a) (.i m) (.i b) (.func 67 [] [cp]) .undef .undef .undef .undef (.i i) .undef .undef (.i (IntKind.i64.wrap (k - 1))) .undef .undef .undef .undef .undef .undef .undef) H1 :=
  RunsTo.hin N 60 [⟨21, 2, .bool true, H⟩, ⟨23, 8, .ptr db ((IntKind.i64.wrap (k - 1)).toNat) 0 n, H⟩, ⟨23, 9, .i x0, H⟩, ⟨23, 12, .ptr db ((k).toNat) 0 n, H⟩, ⟨23, 13, .i x1, H⟩, ⟨23, 14, .ptr db ((k).toNat) 0 n, H⟩, ⟨23, 15, .tuple [], H0⟩, ⟨23, 16, .ptr db ((IntKind.i64.wrap (k - 1)).toNat) 0 n, H0⟩, ⟨23, 17, .tuple [], H1⟩] fun kf hk => ⟨_, by kernel_rfl, (oB H (decide_eq_true g0) (oP H g1 (oP H g2 (oP H g3 (oP H g4 (oP H g5 (oS g6 (oP H0 g7 (oS g8 .nil)))))))))⟩
theorem sy_m_1 (N : Nat) (db n : Nat) (a m b : Int) (cp : HV) (H : Heap) (i k : Int)(g0 : ¬ (i < k)) : RunsTo Try.prog polS 72 (sub [1, 0, 1, 0, 1, 1, 1, 0, 1, 0, 0] B72) (env72 (.sl db 0 n none n 1) (.i a) (.i m) (.i b) (.func 67 [] [cp]) .undef .undef .undef .undef (.i i) .undef .undef (.i k) .undef .undef .undef .undef .undef .undef .undef) H (.exit 6) (polS.keys 72) (env72 (.sl db 0 n none n 1) (.i a) (.i m) (.i b) (.func 67 [] [cp]) .undef .undef .undef .undef (.i i) .undef .undef (.i k) .undef .undef .undef .undef .undef .undef .undef) H :=
  RunsTo.hin N 60 [⟨21, 2, .bool false, H⟩] fun kf hk => ⟨_, by kernel_rfl, (oB H (decide_eq_false g0) .nil)⟩
theorem sy_n_0 (N : Nat) (db n : Nat) (a m b : Int) (cp : HV) (H : Heap) (i k : Int) : RunsTo Try.prog polS 72 (sub [1, 0, 1, 0, 1, 1, 1, 1] B72) (env72 (.sl db 0 n none n 1) (.i a) (.i m) (.i b) (.func 67 [] [cp]) .undef .undef .undef .undef (.i i) .undef .undef (.i k) .undef .undef .undef .undef .undef .undef .undef) H .ret (polS.keys 72) (env72 (.sl db 0 n none n 1) (.i a) (.i m) (.i b) (.func 67 [] [cp]) .undef .undef .undef .undef (.i i) .undef .undef (.i k) .undef .undef .undef .undef .undef .undef .undef) H :=
  RunsTo.hin N 60 [] fun kf hk => ⟨_, by kernel_rfl, .nil⟩
theorem sy_o_0 (N : Nat) (db n : Nat) (a m b : Int) (cp : HV) (H : Heap) (h0 : Int) (g0 : binV Try.prog .shr 76 (.int .u64 (IntKind.u64.wrap (IntKind.i64.wrap (a + b)))) (.int .u64 1) = some (.int .u64 h0)) : RunsTo Try.prog polS 72 (sub [1, 1, 0] B72) (env72 (.sl db 0 n none n 1) (.i a) (.i m) (.i b) (.func 67 [] [cp]) .undef .undef .undef .undef .undef .undef .undef .undef .undef .undef .undef .undef .undef .undef .undef) H .normal (polS.keys 72) (env72 (.sl db 0 n none n 1) (.i a) (.i m) (.i b) (.func 67 [] [cp]) .undef .undef .undef .undef .undef .undef .undef .undef (.i (IntKind.i64.wrap h0)) .undef .undef .undef .undef .undef .undef) H :=
  RunsTo.hin N 60 [⟨24, 4, .int .u64 h0, H⟩] fun kf hk => ⟨_, by kernel_rfl, (oP H g0 .nil)⟩
theorem sy_p_0 (N : Nat) (db n : Nat) (a m b : Int) (cp : HV) (H : Heap) (mid : Int) : RunsTo Try.prog polS 72 (sub [1, 1, 1, 0] B72) (env72 (.sl db 0 n none n 1) (.i a) (.i m) (.i b) (.func 67 [] [cp]) .undef .undef .undef .undef .undef .undef .undef .undef (.i mid) .undef .undef .undef .undef .undef .undef) H .normal (polS.keys 72) (env72 (.sl db 0 n none n 1) (.i a) (.i m) (.i b) (.func 67 [] [cp]) .undef .undef .undef .undef .undef .undef .undef .undef (.i mid) (.i (IntKind.i64.wrap (mid + m))) .undef .undef .undef .undef .undef) H :=
  RunsTo.hin N 60 [] fun kf hk => ⟨_, by kernel_rfl, .nil⟩
theorem sy_q_0 (N : Nat) (db n : Nat) (a m b : Int) (cp : HV) (H : Heap) (mid : Int) (nn : Int) : RunsTo Try.prog polS 72 (sub [1, 1, 1, 1, 0] B72) (env72 (.sl db 0 n none n 1) (.i a) (.i m) (.i b) (.func 67 [] [cp]) .undef .undef .undef .undef .undef .undef .undef .undef (.i mid) (.i nn) .undef .undef .undef .undef .undef) H .normal (polS.keys 72) (env72 (.sl db 0 n none n 1) (.i a) (.i m) (.i b) (.func 67 [] [cp]) .undef .undef .undef .undef .undef .undef .undef .undef (.i mid) (.i nn) (.i 0) (.i 0) .undef .undef .undef) H :=
  RunsTo.hin N 60 [] fun kf hk => ⟨_, by kernel_rfl, .nil⟩
theorem sy_r_0 (N : Nat) (db n : Nat) (a m b : Int) (cp : HV) (H : Heap) (mid : Int) (nn : Int)(g0 : mid < m) : RunsTo Try.prog polS 72 (sub [1, 1, 1, 1, 1, 0] B72) (env72 (.sl db 0 n none n 1) (.i a) (.i m) (.i b) (.func 67 [] [cp]) .undef .undef .undef .undef .undef .undef .undef .undef (.i mid) (.i nn) (.i 0) (.i 0) .undef .undef .undef) H .normal (polS.keys 72) (env72 (.sl db 0 n none n 1) (.i a) (.i m) (.i b) (.func 67 [] [cp]) .undef .undef .undef .undef .undef .undef .undef .undef (.i mid) (.i nn) (.i (IntKind.i64.wrap (nn - b))) (.i mid) .undef .undef .undef) H :=
  RunsTo.hin N 60 [⟨27, 2, .bool true, H⟩] fun kf hk => ⟨_, by kernel_rfl, (oB H (decide_eq_true g0) .nil)⟩
theorem sy_r_1 (N : Nat) (db n : Nat) (a m b : Int) (cp : HV) (H : Heap) (mid : Int) (nn : Int)(g0 : ¬ (mid < m)) : RunsTo Try.prog polS 72 (sub [1, 1, 1, 1, 1, 0] B72) (env72 (.sl db 0 n none n 1) (.i a) (.i m) (.i b) (.func 67 [] [cp]) .undef .undef .undef .undef .undef .undef .undef .undef (.i mid) (.i nn) (.i 0) (.i 0) .undef .undef .undef) H .normal (polS.keys 72) (env72 (.sl db 0 n none n 1) (.i a) (.i m) (.i b) (.func 67 [] [cp]) .undef .undef .undef .undef .undef .undef .undef .undef (.i mid) (.i nn) (.i a) (.i m) .undef .undef .undef) H :=
  RunsTo.hin N 60 [⟨27, 2, .bool false, H⟩] fun kf hk => ⟨_, by kernel_rfl, (oB H (decide_eq_false g0) .nil)⟩
theorem sy_s_0 (N : Nat) (db n : Nat) (a m b : Int) (cp : HV) (H : Heap) (mid : Int) (nn : Int) (s r : Int) : RunsTo Try.prog polS 72 (sub [1, 1, 1, 1, 1, 1, 0] B72) (env72 (.sl db 0 n none n 1) (.i a) (.i m) (.i b) (.func 67 [] [cp]) .undef .undef .undef .undef .undef .undef .undef .undef (.i mid) (.i nn) (.i s) (.i r) .undef .undef .undef) H .normal (polS.keys 72) (env72 (.sl db 0 n none n 1) (.i a) (.i m) (.i b) (.func 67 [] [cp]) .undef .undef .undef .undef .undef .undef .undef .undef (.i mid) (.i nn) (.i s) (.i r) (.i (IntKind.i64.wrap (nn - 1))) .undef .undef) H :=
  RunsTo.hin N 60 [] fun kf hk => ⟨_, by kernel_rfl, .nil⟩
theorem sy_t_0 (N : Nat) (db n : Nat) (a m b : Int) (cp : HV) (H : Heap) (mid : Int) (nn : Int) (s r : Int) (p : Int) (h0 : Int) (x0 : Int) (x1 : Int) (c0 : Int) (H0 : Heap) (g0 : s < r) (g1 : binV Try.prog .shr 76 (.int .u64 (IntKind.u64.wrap (IntKind.i64.wrap (s + r)))) (.int .u64 1) = some (.int .u64 h0)) (g2 : idxV Try.prog 24 (.sl db 0 n none n 1) (.i (IntKind.i64.wrap (p - IntKind.i64.wrap h0))) = some (.ptr db ((IntKind.i64.wrap (p - IntKind.i64.wrap h0)).toNat) 0 n)) (g3 : loadV Try.prog H 3 (.ptr db ((IntKind.i64.wrap (p - IntKind.i64.wrap h0)).toNat) 0 n) = some (.i x0)) (g4 : idxV Try.prog 24 (.sl db 0 n none n 1) (.i (IntKind.i64.wrap h0)) = some (.ptr db ((IntKind.i64.wrap h0).toNat) 0 n)) (g5 : loadV Try.prog H 3 (.ptr db ((IntKind.i64.wrap h0).toNat) 0 n) = some (.i x1)) (g6 : ∀ kf, N ≤ kf → callN Try.prog polS (kf + 1) 67 [.i x0, .i x1, cp] H = some (.i c0, H0)) (g7 : c0 < 0) : RunsTo Try.prog polS 72 (sub [1, 1, 1, 1, 1, 1, 1, 0, 0, 0] B72) (env72 (.sl db 0 n none n 1) (.i a) (.i m) (.i b) (.func 67 [] [cp]) .undef .undef .undef .undef .undef .undef .undef .undef (.i mid) (.i nn) (.i s) (.i r) (.i p) .undef .undef) H .normal (polS.keys 72) (env72 (.sl db 0 n none n 1) (.i a) (.i m) (.i b) (.func 67 [] [cp]) .undef .undef .undef .undef .undef .undef .undef .undef (.i mid) (.i nn) (.i s) (.i (IntKind.i64.wrap h0)) (.i p) (.i (IntKind.i64.wrap h0)) .undef) H0 :=
  RunsTo.hin N 60 [⟨33, 2, .bool true, H⟩, ⟨34, 4, .int .u64 h0, H⟩, ⟨35, 5, .ptr db ((IntKind.i64.wrap (p - IntKind.i64.wrap h0)).toNat) 0 n, H⟩, ⟨35, 6, .i x0, H⟩, ⟨35, 9, .ptr db ((IntKind.i64.wrap h0).toNat) 0 n, H⟩, ⟨35, 10, .i x1, H⟩, ⟨35, 11, .i c0, H0⟩, ⟨35, 12, .bool true, H0⟩] fun kf hk => ⟨_, by kernel_rfl, (oB H (decide_eq_true g0) (oP H g1 (oP H g2 (oP H g3 (oP H g4 (oP H g5 (oC (g6 kf (by omega)) (oB H0 (decide_eq_true g7) .nil))))))))⟩
theorem sy_t_1 (N : Nat) (db n : Nat) (a m b : Int) (cp : HV) (H : Heap) (mid : Int) (nn : Int) (s r : Int) (p : Int) (h0 : Int) (x0 : Int) (x1 : Int) (c0 : Int) (H0 : Heap) (g0 : s < r) (g1 : binV Try.prog .shr 76 (.int .u64 (IntKind.u64.wrap (IntKind.i64.wrap (s + r)))) (.int .u64 1) = some (.int .u64 h0)) (g2 : idxV Try.prog 24 (.sl db 0 n none n 1) (.i (IntKind.i64.wrap (p - IntKind.i64.wrap h0))) = some (.ptr db ((IntKind.i64.wrap (p - IntKind.i64.wrap h0)).toNat) 0 n)) (g3 : loadV Try.prog H 3 (.ptr db ((IntKind.i64.wrap (p - IntKind.i64.wrap h0)).toNat) 0 n) = some (.i x0)) (g4 : idxV Try.prog 24 (.sl db 0 n none n 1) (.i (IntKind.i64.wrap h0)) = some (.ptr db ((IntKind.i64.wrap h0).toNat) 0 n)) (g5 : loadV Try.prog H 3 (.ptr db ((IntKind.i64.wrap h0).toNat) 0 n) = some (.i x1)) (g6 : ∀ kf, N ≤ kf → callN Try.prog polS (kf + 1) 67 [.i x0, .i x1, cp] H = some (.i c0, H0)) (g7 : ¬ (c0 < 0)) : RunsTo Try.prog polS 72 (sub [1, 1, 1, 1, 1, 1, 1, 0, 0, 0] B72) (env72 (.sl db 0 n none n 1) (.i a) (.i m) (.i b) (.func 67 [] [cp]) .undef .undef .undef .undef .undef .undef .undef .undef (.i mid) (.i nn) (.i s) (.i r) (.i p) .undef .undef) H .normal (polS.keys 72) (env72 (.sl db 0 n none n 1) (.i a) (.i m) (.i b) (.func 67 [] [cp]) .undef .undef .undef .undef .undef .undef .undef .undef (.i mid) (.i nn) (.i (IntKind.i64.wrap (IntKind.i64.wrap h0 + 1))) (.i r) (.i p) (.i (IntKind.i64.wrap h0)) .undef) H0 :=
  RunsTo.hin N 60 [⟨33, 2, .bool true, H⟩, ⟨34, 4, .int .u64 h0, H⟩, ⟨35, 5, .ptr db ((IntKind.i64.wrap (p - IntKind.i64.wrap h0)).toNat) 0 n, H⟩, ⟨35, 6, .i x0, H⟩, ⟨35, 9, .ptr db ((IntKind.i64.wrap h0).toNat) 0 n, H⟩, ⟨35, 10, .i x1, H⟩, ⟨35, 11, .i c0, H0⟩, ⟨35, 12, .bool false, H0⟩] fun kf hk => ⟨_, by kernel_rfl, (oB H (decide_eq_true g0) (oP H g1 (oP H g2 (oP H g3 (oP H g4 (oP H g5 (oC (g6 kf (by omega)) (oB H0 (decide_eq_false g7) .nil))))))))⟩
theorem sy_t_2 (N : Nat) (db n : Nat) (a m b : Int) (cp : HV) (H : Heap) (mid : Int) (nn : Int) (s r : Int) (p : Int)(g0 : ¬ (s < r)) : RunsTo Try.prog polS 72 (sub [1, 1, 1, 1, 1, 1, 1, 0, 0, 0] B72) (env72 (.sl db 0 n none n 1) (.i a) (.i m) (.i b) (.func 67 [] [cp]) .undef .undef .undef .undef .undef .undef .undef .undef (.i mid) (.i nn) (.i s) (.i r) (.i p) .undef .undef) H (.exit 8) (polS.keys 72) (env72 (.sl db 0 n none n 1) (.i a) (.i m) (.i b) (.func 67 [] [cp]) .undef .undef .undef .undef .undef .undef .undef .undef (.i mid) (.i nn) (.i s) (.i r) (.i p) .undef .undef) H :=
  RunsTo.hin N 60 [⟨33, 2, .bool false, H⟩] fun kf hk => ⟨_, by kernel_rfl, (oB H (decide_eq_false g0) .nil)⟩
theorem sy_u_0 (N : Nat) (db n : Nat) (a m b : Int) (cp : HV) (H : Heap) (mid : Int) (nn : Int) (s r : Int) (p : Int) (v23 : HV) : RunsTo Try.prog polS 72 (sub [1, 1, 1, 1, 1, 1, 1, 1, 0] B72) (env72 (.sl db 0 n none n 1) (.i a) (.i m) (.i b) (.func 67 [] [cp]) .undef .undef .undef .undef .undef .undef .undef .undef (.i mid) (.i nn) (.i s) (.i r) (.i p) v23 .undef) H .normal (polS.keys 72) (env72 (.sl db 0 n none n 1) (.i a) (.i m) (.i b) (.func 67 [] [cp]) .undef .undef .undef .undef .undef .undef .undef .undef (.i mid) (.i nn) (.i s) (.i r) (.i p) v23 (.i (IntKind.i64.wrap (nn - s)))) H :=
  RunsTo.hin N 60 [] fun kf hk => ⟨_, by kernel_rfl, .nil⟩
theorem sy_v_0 (N : Nat) (db n : Nat) (a m b : Int) (cp : HV) (H : Heap) (mid : Int) (nn : Int) (s r : Int) (p : Int) (v23 : HV) (e : Int) (H0 : Heap) (g0 : s < m) (g1 : m < e) (g2 : ∀ kf, N ≤ kf → callN Try.prog polS (kf + 1) 73 [.sl db 0 n none n 1, .i s, .i m, .i e, .func 67 [] [cp]] H = some (.tuple [], H0)) : RunsTo Try.prog polS 72 (sub [1, 1, 1, 1, 1, 1, 1, 1, 1, 0] B72) (env72 (.sl db 0 n none n 1) (.i a) (.i m) (.i b) (.func 67 [] [cp]) .undef .undef .undef .undef .undef .undef .undef .undef (.i mid) (.i nn) (.i s) (.i r) (.i p) v23 (.i e)) H .normal (polS.keys 72) (env72 (.sl db 0 n none n 1) (.i a) (.i m) (.i b) (.func 67 [] [cp]) .undef .undef .undef .undef .undef .undef .undef .undef (.i mid) (.i nn) (.i s) (.i r) (.i p) v23 (.i e)) H0 :=
  RunsTo.hin N 60 [⟨39, 2, .bool true, H⟩, ⟨39, 6, .bool true, H⟩, ⟨40, 5, .tuple [], H0⟩] fun kf hk => ⟨_, by kernel_rfl, (oB H (decide_eq_true g0) (oB H (decide_eq_true g1) (oC (g2 kf (by omega)) .nil)))⟩
theorem sy_v_1 (N : Nat) (db n : Nat) (a m b : Int) (cp : HV) (H : Heap) (mid : Int) (nn : Int) (s r : Int) (p : Int) (v23 : HV) (e : Int)(g0 : s < m) (g1 : ¬ (m < e)) : RunsTo Try.prog polS 72 (sub [1, 1, 1, 1, 1, 1, 1, 1, 1, 0] B72) (env72 (.sl db 0 n none n 1) (.i a) (.i m) (.i b) (.func 67 [] [cp]) .undef .undef .undef .undef .undef .undef .undef .undef (.i mid) (.i nn) (.i s) (.i r) (.i p) v23 (.i e)) H .normal (polS.keys 72) (env72 (.sl db 0 n none n 1) (.i a) (.i m) (.i b) (.func 67 [] [cp]) .undef .undef .undef .undef .undef .undef .undef .undef (.i mid) (.i nn) (.i s) (.i r) (.i p) v23 (.i e)) H :=
  RunsTo.hin N 60 [⟨39, 2, .bool true, H⟩, ⟨39, 6, .bool false, H⟩] fun kf hk => ⟨_, by kernel_rfl, (oB H (decide_eq_true g0) (oB H (decide_eq_false g1) .nil))⟩
theorem sy_v_2 (N : Nat) (db n : Nat) (a m b : Int) (cp : HV) (H : Heap) (mid : Int) (nn : Int) (s r : Int) (p : Int) (v23 : HV) (e : Int)(g0 : ¬ (s < m)) : RunsTo Try.prog polS 72 (sub [1, 1, 1, 1, 1, 1, 1, 1, 1, 0] B72) (env72 (.sl db 0 n none n 1) (.i a) (.i m) (.i b) (.func 67 [] [cp]) .undef .undef .undef .undef .undef .undef .undef .undef (.i mid) (.i nn) (.i s) (.i r) (.i p) v23 (.i e)) H .normal (polS.keys 72) (env72 (.sl db 0 n none n 1) (.i a) (.i m) (.i b) (.func 67 [] [cp]) .undef .undef .undef .undef .undef .undef .undef .undef (.i mid) (.i nn) (.i s) (.i r) (.i p) v23 (.i e)) H :=
  RunsTo.hin N 60 [⟨39, 2, .bool false, H⟩] fun kf hk => ⟨_, by kernel_rfl, (oB H (decide_eq_false g0) .nil)⟩
theorem sy_w_0 (N : Nat) (db n : Nat) (a m b : Int) (cp : HV) (H : Heap) (mid : Int) (nn : Int) (s r : Int) (p : Int) (v23 : HV) (e : Int) (H0 : Heap) (g0 : a < s) (g1 : s < mid) (g2 : ∀ kf, N ≤ kf → callN Try.prog polS (kf + 1) 72 [.sl db 0 n none n 1, .i a, .i s, .i mid, .func 67 [] [cp]] H = some (.tuple [], H0)) : RunsTo Try.prog polS 72 (sub [1, 1, 1, 1, 1, 1, 1, 1, 1, 1, 0] B72) (env72 (.sl db 0 n none n 1) (.i a) (.i m) (.i b) (.func 67 [] [cp]) .undef .undef .undef .undef .undef .undef .undef .undef (.i mid) (.i nn) (.i s) (.i r) (.i p) v23 (.i e)) H .normal (polS.keys 72) (env72 (.sl db 0 n none n 1) (.i a) (.i m) (.i b) (.func 67 [] [cp]) .undef .undef .undef .undef .undef .undef .undef .undef (.i mid) (.i nn) (.i s) (.i r) (.i p) v23 (.i e)) H0 :=
  RunsTo.hin N 60 [⟨41, 2, .bool true, H⟩, ⟨41, 6, .bool true, H⟩, ⟨42, 5, .tuple [], H0⟩] fun kf hk => ⟨_, by kernel_rfl, (oB H (decide_eq_true g0) (oB H (decide_eq_true g1) (oC (g2 kf (by omega)) .nil)))⟩
theorem sy_w_1 (N : Nat) (db n : Nat) (a m b : Int) (cp : HV) (H : Heap) (mid : Int) (nn : Int) (s r : Int) (p : Int) (v23 : HV) (e : Int)(g0 : a < s) (g1 : ¬ (s < mid)) : RunsTo Try.prog polS 72 (sub [1, 1, 1, 1, 1, 1, 1, 1, 1, 1, 0] B72) (env72 (.sl db 0 n none n 1) (.i a) (.i m) (.i b) (.func 67 [] [cp]) .undef .undef .undef .undef .undef .undef .undef .undef (.i mid) (.i nn) (.i s) (.i r) (.i p) v23 (.i e)) H .normal (polS.keys 72) (env72 (.sl db 0 n none n 1) (.i a) (.i m) (.i b) (.func 67 [] [cp]) .undef .undef .undef .undef .undef .undef .undef .undef (.i mid) (.i nn) (.i s) (.i r) (.i p) v23 (.i e)) H :=
  RunsTo.hin N 60 [⟨41, 2, .bool true, H⟩, ⟨41, 6, .bool false, H⟩] fun kf hk => ⟨_, by kernel_rfl, (oB H (decide_eq_true g0) (oB H (decide_eq_false g1) .nil))⟩
theorem sy_w_2 (N : Nat) (db n : Nat) (a m b : Int) (cp : HV) (H : Heap) (mid : Int) (nn : Int) (s r : Int) (p : Int) (v23 : HV) (e : Int)(g0 : ¬ (a < s)) : RunsTo Try.prog polS 72 (sub [1, 1, 1, 1, 1, 1, 1, 1, 1, 1, 0] B72) (env72 (.sl db 0 n none n 1) (.i a) (.i m) (.i b) (.func 67 [] [cp]) .undef .undef .undef .undef .undef .undef .undef .undef (.i mid) (.i nn) (.i s) (.i r) (.i p) v23 (.i e)) H .normal (polS.keys 72) (env72 (.sl db 0 n none n 1) (.i a) (.i m) (.i b) (.func 67 [] [cp]) .undef .undef .undef .undef .undef .undef .undef .undef (.i mid) (.i nn) (.i s) (.i r) (.i p) v23 (.i e)) H :=
  RunsTo.hin N 60 [⟨41, 2, .bool false, H⟩] fun kf hk => ⟨_, by kernel_rfl, (oB H (decide_eq_false g0) .nil)⟩
theorem sy_x_0 (N : Nat) (db n : Nat) (a m b : Int) (cp : HV) (H : Heap) (mid : Int) (nn : Int) (s r : Int) (p : Int) (v23 : HV) (e : Int) (H0 : Heap) (g0 : mid < e) (g1 : e < b) (g2 : ∀ kf, N ≤ kf → callN Try.prog polS (kf + 1) 72 [.sl db 0 n none n 1, .i mid, .i e, .i b, .func 67 [] [cp]] H = some (.tuple [], H0)) : RunsTo Try.prog polS 72 (sub [1, 1, 1, 1, 1, 1, 1, 1, 1, 1, 1] B72) (env72 (.sl db 0 n none n 1) (.i a) (.i m) (.i b) (.func 67 [] [cp]) .undef .undef .undef .undef .undef .undef .undef .undef (.i mid) (.i nn) (.i s) (.i r) (.i p) v23 (.i e)) H .normal (polS.keys 72) (env72 (.sl db 0 n none n 1) (.i a) (.i m) (.i b) (.func 67 [] [cp]) .undef .undef .undef .undef .undef .undef .undef .undef (.i mid) (.i nn) (.i s) (.i r) (.i p) v23 (.i e)) H0 :=
  RunsTo.hin N 60 [⟨43, 2, .bool true, H⟩, ⟨43, 6, .bool true, H⟩, ⟨44, 5, .tuple [], H0⟩] fun kf hk => ⟨_, by kernel_rfl, (oB H (decide_eq_true g0) (oB H (decide_eq_true g1) (oC (g2 kf (by omega)) .nil)))⟩
theorem sy_x_1 (N : Nat) (db n : Nat) (a m b : Int) (cp : HV) (H : Heap) (mid : Int) (nn : Int) (s r : Int) (p : Int) (v23 : HV) (e : Int)(g0 : mid < e) (g1 : ¬ (e < b)) : RunsTo Try.prog polS 72 (sub [1, 1, 1, 1, 1, 1, 1, 1, 1, 1, 1] B72) (env72 (.sl db 0 n none n 1) (.i a) (.i m) (.i b) (.func 67 [] [cp]) .undef .undef .undef .undef .undef .undef .undef .undef (.i mid) (.i nn) (.i s) (.i r) (.i p) v23 (.i e)) H .normal (polS.keys 72) (env72 (.sl db 0 n none n 1) (.i a) (.i m) (.i b) (.func 67 [] [cp]) .undef .undef .undef .undef .undef .undef .undef .undef (.i mid) (.i nn) (.i s) (.i r) (.i p) v23 (.i e)) H :=
  RunsTo.hin N 60 [⟨43, 2, .bool true, H⟩, ⟨43, 6, .bool false, H⟩] fun kf hk => ⟨_, by kernel_rfl, (oB H (decide_eq_true g0) (oB H (decide_eq_false g1) .nil))⟩
theorem sy_x_2 (N : Nat) (db n : Nat) (a m b : Int) (cp : HV) (H : Heap) (mid : Int) (nn : Int) (s r : Int) (p : Int) (v23 : HV) (e : Int)(g0 : ¬ (mid < e)) : RunsTo Try.prog polS 72 (sub [1, 1, 1, 1, 1, 1, 1, 1, 1, 1, 1] B72) (env72 (.sl db 0 n none n 1) (.i a) (.i m) (.i b) (.func 67 [] [cp]) .undef .undef .undef .undef .undef .undef .undef .undef (.i mid) (.i nn) (.i s) (.i r) (.i p) v23 (.i e)) H .normal (polS.keys 72) (env72 (.sl db 0 n none n 1) (.i a) (.i m) (.i b) (.func 67 [] [cp]) .undef .undef .undef .undef .undef .undef .undef .undef (.i mid) (.i nn) (.i s) (.i r) (.i p) v23 (.i e)) H :=
  RunsTo.hin N 60 [⟨43, 2, .bool false, H⟩] fun kf hk => ⟨_, by kernel_rfl, (oB H (decide_eq_false g0) .nil)⟩
end Go.Proofs.Ytmhfkhlamnapdaa
end
section
open Go Go.HL
namespace Go.Proofs.Ytmhfkhlamnapdaa
set_option maxRecDepth 100000
noncomputable def B74 : Code := Try.f74.body.getD .skip
abbrev env74 (v0 v1 v2 v3 v10 : HV) : Env := [(0, v0), (1, v1), (2, v2), (3, v3), (10, v10)]
theorem sw_a_0 (N : Nat) (db n : Nat) (a b m : Int) (cp : HV) (H : Heap) : RunsTo Try.prog polS 74 (sub [0] B74) [(0, .sl db 0 n none n 1), (1, .i a), (2, .i b), (3, .i m), (4, .func 67 [] [cp])] H .normal (polS.keys 74) (env74 (.sl db 0 n none n 1) (.i a) (.i b) (.i m) (.i 0)) H :=
  RunsTo.hin N 60 [] fun kf hk => ⟨_, by kernel_rfl, .nil⟩
theorem sw_l_0 (N : Nat) (db n : Nat) (a b m : Int) (H : Heap) (i : Int) (x0 : Int) (x1 : Int) (H0 : Heap) (H1 : Heap) (g0 : i < m) (g1 : idxV Try.prog 24 (.sl db 0 n none n 1) (.i (IntKind.i64.wrap (b + i))) = some (.ptr db ((IntKind.i64.wrap (b + i)).toNat) 0 n)) (g2 : loadV Try.prog H 3 (.ptr db ((IntKind.i64.wrap (b + i)).toNat) 0 n) = some (.i x0)) (g3 : idxV Try.prog 24 (.sl db 0 n none n 1) (.i (IntKind.i64.wrap (a + i))) = some (.ptr db ((IntKind.i64.wrap (a + i)).toNat) 0 n)) (g4 : loadV Try.prog H 3 (.ptr db ((IntKind.i64.wrap (a + i)).toNat) 0 n) = some (.i x1)) (g5 : idxV Try.prog 24 (.sl db 0 n none n 1) (.i (IntKind.i64.wrap (a + i))) = some (.ptr db ((IntKind.i64.wrap (a + i)).toNat) 0 n)) (g6 : storeV Try.prog H 3 (.ptr db ((IntKind.i64.wrap (a + i)).toNat) 0 n) (.i x0) = some H0) (g7 : idxV Try.prog 24 (.sl db 0 n none n 1) (.i (IntKind.i64.wrap (b + i))) = some (.ptr db ((IntKind.i64.wrap (b + i)).toNat) 0 n)) (g8 : storeV Try.prog H0 3 (.ptr db ((IntKind.i64.wrap (b + i)).toNat) 0 n) (.i x1) = some H1) : RunsTo Try.prog polS 74 (sub [1, 0, 0] B74) (env74 (.sl db 0 n none n 1) (.i a) (.i b) (.i m) (.i i)) H .normal (polS.keys 74) (env74 (.sl db 0 n none n 1) (.i a) (.i b) (.i m) (.i (IntKind.i64.wrap (i + 1)))) H1 :=
  RunsTo.hin N 60 [⟨1, 2, .bool true, H⟩, ⟨3, 12, .ptr db ((IntKind.i64.wrap (b + i)).toNat) 0 n, H⟩, ⟨3, 13, .i x0, H⟩, ⟨3, 18, .ptr db ((IntKind.i64.wrap (a + i)).toNat) 0 n, H⟩, ⟨3, 19, .i x1, H⟩, ⟨3, 20, .ptr db ((IntKind.i64.wrap (a + i)).toNat) 0 n, H⟩, ⟨3, 21, .tuple [], H0⟩, ⟨3, 22, .ptr db ((IntKind.i64.wrap (b + i)).toNat) 0 n, H0⟩, ⟨3, 23, .tuple [], H1⟩] fun kf hk => ⟨_, by kernel_rfl, (oB H (decide_eq_true g0) (oP H g1 (oP H g2 (oP H g3 (oP H g4 (oP H g5 (oS g6 (oP H0 g7 (oS g8 .nil)))))))))⟩
theorem sw_l_1 (N : Nat) (db n : Nat) (a b m : Int) (H : Heap) (i : Int)(g0 : ¬ (i < m)) : RunsTo Try.prog polS 74 (sub [1, 0, 0] B74) (env74 (.sl db 0 n none n 1) (.i a) (.i b) (.i m) (.i i)) H (.exit 0) (polS.keys 74) (env74 (.sl db 0 n none n 1) (.i a) (.i b) (.i m) (.i i)) H :=
  RunsTo.hin N 60 [⟨1, 2, .bool false, H⟩] fun kf hk => ⟨_, by kernel_rfl, (oB H (decide_eq_false g0) .nil)⟩
end Go.Proofs.Ytmhfkhlamnapdaa
end
section
open Go Go.HL
namespace Go.Proofs.Ytmhfkhlamnapdaa
set_option maxRecDepth 100000
noncomputable def B73 : Code := Try.f73.body.getD .skip
abbrev env73 (v0 v1 v2 v3 v4 v10 v11 : HV) : Env := [(0, v0), (1, v1), (2, v2), (3, v3), (4, v4), (10, v10), (11, v11)]
theorem ro_a_0 (N : Nat) (db n : Nat) (a m b : Int) (cp : HV) (H : Heap) : RunsTo Try.prog polS 73 (sub [0] B73) [(0, .sl db 0 n none n 1), (1, .i a), (2, .i m), (3, .i b), (4, .func 67 [] [cp])] H .normal (polS.keys 73) (env73 (.sl db 0 n none n 1) (.i a) (.i m) (.i b) (.func 67 [] [cp]) (.i (IntKind.i64.wrap (m - a))) .undef) H :=
  RunsTo.hin N 60 [] fun kf hk => ⟨_, by kernel_rfl, .nil⟩
theorem ro_b_0 (N : Nat) (db n : Nat) (a m b : Int) (cp : HV) (H : Heap) (i : Int) : RunsTo Try.prog polS 73 (sub [1, 0] B73) (env73 (.sl db 0 n none n 1) (.i a) (.i m) (.i b) (.func 67 [] [cp]) (.i i) .undef) H .normal (polS.keys 73) (env73 (.sl db 0 n none n 1) (.i a) (.i m) (.i b) (.func 67 [] [cp]) (.i i) (.i (IntKind.i64.wrap (b - m)))) H :=
  RunsTo.hin N 60 [] fun kf hk => ⟨_, by kernel_rfl, .nil⟩
theorem ro_l_0 (N : Nat) (db n : Nat) (a m b : Int) (cp : HV) (H : Heap) (i j : Int)(g0 : i = j) : RunsTo Try.prog polS 73 (sub [1, 1, 0, 0, 0] B73) (env73 (.sl db 0 n none n 1) (.i a) (.i m) (.i b) (.func 67 [] [cp]) (.i i) (.i j)) H (.exit 0) (polS.keys 73) (env73 (.sl db 0 n none n 1) (.i a) (.i m) (.i b) (.func 67 [] [cp]) (.i i) (.i j)) H :=
  RunsTo.hin N 60 [⟨2, 2, .bool false, H⟩] fun kf hk => ⟨_, by kernel_rfl, (oB H (congrArg not (decide_eq_true g0)) .nil)⟩
theorem ro_l_1 (N : Nat) (db n : Nat) (a m b : Int) (cp : HV) (H : Heap) (i j : Int) (H0 : Heap) (g0 : ¬ (i = j)) (g1 : j < i) (g2 : ∀ kf, N ≤ kf → callN Try.prog polS (kf + 1) 74 [.sl db 0 n none n 1, .i (IntKind.i64.wrap (m - i)), .i m, .i j, .func 67 [] [cp]] H = some (.tuple [], H0)) : RunsTo Try.prog polS 73 (sub [1, 1, 0, 0, 0] B73) (env73 (.sl db 0 n none n 1) (.i a) (.i m) (.i b) (.func 67 [] [cp]) (.i i) (.i j)) H .normal (polS.keys 73) (env73 (.sl db 0 n none n 1) (.i a) (.i m) (.i b) (.func 67 [] [cp]) (.i (IntKind.i64.wrap (i - j))) (.i j)) H0 :=
  RunsTo.hin N 60 [⟨2, 2, .bool true, H⟩, ⟨3, 2, .bool true, H⟩, ⟨4, 7, .tuple [], H0⟩] fun kf hk => ⟨_, by kernel_rfl, (oB H (congrArg not (decide_eq_false g0)) (oB H (decide_eq_true g1) (oC (g2 kf (by omega)) .nil)))⟩
theorem ro_l_2 (N : Nat) (db n : Nat) (a m b : Int) (cp : HV) (H : Heap) (i j : Int) (H0 : Heap) (g0 : ¬ (i = j)) (g1 : ¬ (j < i)) (g2 : ∀ kf, N ≤ kf → callN Try.prog polS (kf + 1) 74 [.sl db 0 n none n 1, .i (IntKind.i64.wrap (m - i)), .i (IntKind.i64.wrap (IntKind.i64.wrap (m + j) - i)), .i i, .func 67 [] [cp]] H = some (.tuple [], H0)) : RunsTo Try.prog polS 73 (sub [1, 1, 0, 0, 0] B73) (env73 (.sl db 0 n none n 1) (.i a) (.i m) (.i b) (.func 67 [] [cp]) (.i i) (.i j)) H .normal (polS.keys 73) (env73 (.sl db 0 n none n 1) (.i a) (.i m) (.i b) (.func 67 [] [cp]) (.i i) (.i (IntKind.i64.wrap (j - i)))) H0 :=
  RunsTo.hin N 60 [⟨2, 2, .bool true, H⟩, ⟨3, 2, .bool false, H⟩, ⟨6, 11, .tuple [], H0⟩] fun kf hk => ⟨_, by kernel_rfl, (oB H (congrArg not (decide_eq_false g0)) (oB H (decide_eq_false g1) (oC (g2 kf (by omega)) .nil)))⟩
theorem ro_z_0 (N : Nat) (db n : Nat) (a m b : Int) (cp : HV) (H : Heap) (i j : Int) (H0 : Heap) (g0 : ∀ kf, N ≤ kf → callN Try.prog polS (kf + 1) 74 [.sl db 0 n none n 1, .i (IntKind.i64.wrap (m - i)), .i m, .i i, .func 67 [] [cp]] H = some (.tuple [], H0)) : RunsTo Try.prog polS 73 (sub [1, 1, 1] B73) (env73 (.sl db 0 n none n 1) (.i a) (.i m) (.i b) (.func 67 [] [cp]) (.i i) (.i j)) H .normal (polS.keys 73) (env73 (.sl db 0 n none n 1) (.i a) (.i m) (.i b) (.func 67 [] [cp]) (.i i) (.i j)) H0 :=
  RunsTo.hin N 60 [⟨8, 7, .tuple [], H0⟩] fun kf hk => ⟨_, by kernel_rfl, (oC (g0 kf (by omega)) .nil)⟩
end Go.Proofs.Ytmhfkhlamnapdaa
end
section
open Go Go.HL
namespace Go.Proofs.Ytmhfkhlamnapdaa
set_option maxRecDepth 100000
noncomputable def B71 : Code := Try.f71.body.getD .skip
abbrev env71 (v0 v1 v2 v3 v8 v9 : HV) : Env := [(0, v0), (1, v1), (2, v2), (3, v3), (8, v8), (9, v9)]
theorem is_a_0 (N : Nat) (db n : Nat) (a b : Int) (cp : HV) (H : Heap) : RunsTo Try.prog polS 71 (sub [0] B71) [(0, .sl db 0 n none n 1), (1, .i a), (2, .i b), (3, .func 67 [] [cp])] H .normal (polS.keys 71) (env71 (.sl db 0 n none n 1) (.i a) (.i b) (.func 67 [] [cp]) (.i (IntKind.i64.wrap (a + 1))) .undef) H :=
  RunsTo.hin N 60 [] fun kf hk => ⟨_, by kernel_rfl, .nil⟩
theorem is_h_0 (N : Nat) (db n : Nat) (a b : Int) (cp : HV) (H : Heap) (i : Int)(g0 : i < b) : RunsTo Try.prog polS 71 (sub [1, 0, 0, 0] B71) (env71 (.sl db 0 n none n 1) (.i a) (.i b) (.func 67 [] [cp]) (.i i) .undef) H .normal (polS.keys 71) (env71 (.sl db 0 n none n 1) (.i a) (.i b) (.func 67 [] [cp]) (.i i) .undef) H :=
  RunsTo.hin N 60 [⟨1, 2, .bool true, H⟩] fun kf hk => ⟨_, by kernel_rfl, (oB H (decide_eq_true g0) .nil)⟩
theorem is_h_1 (N : Nat) (db n : Nat) (a b : Int) (cp : HV) (H : Heap) (i : Int)(g0 : ¬ (i < b)) : RunsTo Try.prog polS 71 (sub [1, 0, 0, 0] B71) (env71 (.sl db 0 n none n 1) (.i a) (.i b) (.func 67 [] [cp]) (.i i) .undef) H (.exit 0) (polS.keys 71) (env71 (.sl db 0 n none n 1) (.i a) (.i b) (.func 67 [] [cp]) (.i i) .undef) H :=
  RunsTo.hin N 60 [⟨1, 2, .bool false, H⟩] fun kf hk => ⟨_, by kernel_rfl, (oB H (decide_eq_false g0) .nil)⟩
theorem is_b_0 (N : Nat) (db n : Nat) (a b : Int) (cp : HV) (H : Heap) (i : Int) : RunsTo Try.prog polS 71 (sub [1, 0, 0, 1, 0, 0, 0] B71) (env71 (.sl db 0 n none n 1) (.i a) (.i b) (.func 67 [] [cp]) (.i i) .undef) H .normal (polS.keys 71) (env71 (.sl db 0 n none n 1) (.i a) (.i b) (.func 67 [] [cp]) (.i i) (.i i)) H :=
  RunsTo.hin N 60 [] fun kf hk => ⟨_, by kernel_rfl, .nil⟩
theorem is_l_0 (N : Nat) (db n : Nat) (a b : Int) (cp : HV) (H : Heap) (i j : Int) (x0 : Int) (x1 : Int) (c0 : Int) (H0 : Heap) (x2 : Int) (x3 : Int) (H1 : Heap) (H2 : Heap) (g0 : a < j) (g1 : idxV Try.prog 24 (.sl db 0 n none n 1) (.i j) = some (.ptr db ((j).toNat) 0 n)) (g2 : loadV Try.prog H 3 (.ptr db ((j).toNat) 0 n) = some (.i x0)) (g3 : idxV Try.prog 24 (.sl db 0 n none n 1) (.i (IntKind.i64.wrap (j - 1))) = some (.ptr db ((IntKind.i64.wrap (j - 1)).toNat) 0 n)) (g4 : loadV Try.prog H 3 (.ptr db ((IntKind.i64.wrap (j - 1)).toNat) 0 n) = some (.i x1)) (g5 : ∀ kf, N ≤ kf → callN Try.prog polS (kf + 1) 67 [.i x0, .i x1, cp] H = some (.i c0, H0)) (g6 : c0 < 0) (g7 : idxV Try.prog 24 (.sl db 0 n none n 1) (.i (IntKind.i64.wrap (j - 1))) = some (.ptr db ((IntKind.i64.wrap (j - 1)).toNat) 0 n)) (g8 : loadV Try.prog H0 3 (.ptr db ((IntKind.i64.wrap (j - 1)).toNat) 0 n) = some (.i x2)) (g9 : idxV Try.prog 24 (.sl db 0 n none n 1) (.i j) = some (.ptr db ((j).toNat) 0 n)) (g10 : loadV Try.prog H0 3 (.ptr db ((j).toNat) 0 n) = some (.i x3)) (g11 : idxV Try.prog 24 (.sl db 0 n none n 1) (.i j) = some (.ptr db ((j).toNat) 0 n)) (g12 : storeV Try.prog H0 3 (.ptr db ((j).toNat) 0 n) (.i x2) = some H1) (g13 : idxV Try.prog 24 (.sl db 0 n none n 1) (.i (IntKind.i64.wrap (j - 1))) = some (.ptr db ((IntKind.i64.wrap (j - 1)).toNat) 0 n)) (g14 : storeV Try.prog H1 3 (.ptr db ((IntKind.i64.wrap (j - 1)).toNat) 0 n) (.i x3) = some H2) : RunsTo Try.prog polS 71 (sub [1, 0, 0, 1, 0, 0, 1, 0, 0] B71) (env71 (.sl db 0 n none n 1) (.i a) (.i b) (.func 67 [] [cp]) (.i i) (.i j)) H .normal (polS.keys 71) (env71 (.sl db 0 n none n 1) (.i a) (.i b) (.func 67 [] [cp]) (.i i) (.i (IntKind.i64.wrap (j - 1)))) H2 :=
  RunsTo.hin N 60 [⟨4, 2, .bool true, H⟩, ⟨4, 7, .ptr db ((j).toNat) 0 n, H⟩, ⟨4, 8, .i x0, H⟩, ⟨4, 12, .ptr db ((IntKind.i64.wrap (j - 1)).toNat) 0 n, H⟩, ⟨4, 13, .i x1, H⟩, ⟨4, 14, .i c0, H0⟩, ⟨4, 15, .bool true, H0⟩, ⟨6, 8, .ptr db ((IntKind.i64.wrap (j - 1)).toNat) 0 n, H0⟩, ⟨6, 9, .i x2, H0⟩, ⟨6, 12, .ptr db ((j).toNat) 0 n, H0⟩, ⟨6, 13, .i x3, H0⟩, ⟨6, 14, .ptr db ((j).toNat) 0 n, H0⟩, ⟨6, 15, .tuple [], H1⟩, ⟨6, 16, .ptr db ((IntKind.i64.wrap (j - 1)).toNat) 0 n, H1⟩, ⟨6, 17, .tuple [], H2⟩] fun kf hk => ⟨_, by kernel_rfl, (oB H (decide_eq_true g0) (oP H g1 (oP H g2 (oP H g3 (oP H g4 (oC (g5 kf (by omega)) (oB H0 (decide_eq_true g6) (oP H0 g7 (oP H0 g8 (oP H0 g9 (oP H0 g10 (oP H0 g11 (oS g12 (oP H1 g13 (oS g14 .nil)))))))))))))))⟩
theorem is_l_1 (N : Nat) (db n : Nat) (a b : Int) (cp : HV) (H : Heap) (i j : Int) (x0 : Int) (x1 : Int) (c0 : Int) (H0 : Heap) (g0 : a < j) (g1 : idxV Try.prog 24 (.sl db 0 n none n 1) (.i j) = some (.ptr db ((j).toNat) 0 n)) (g2 : loadV Try.prog H 3 (.ptr db ((j).toNat) 0 n) = some (.i x0)) (g3 : idxV Try.prog 24 (.sl db 0 n none n 1) (.i (IntKind.i64.wrap (j - 1))) = some (.ptr db ((IntKind.i64.wrap (j - 1)).toNat) 0 n)) (g4 : loadV Try.prog H 3 (.ptr db ((IntKind.i64.wrap (j - 1)).toNat) 0 n) = some (.i x1)) (g5 : ∀ kf, N ≤ kf → callN Try.prog polS (kf + 1) 67 [.i x0, .i x1, cp] H = some (.i c0, H0)) (g6 : ¬ (c0 < 0)) : RunsTo Try.prog polS 71 (sub [1, 0, 0, 1, 0, 0, 1, 0, 0] B71) (env71 (.sl db 0 n none n 1) (.i a) (.i b) (.func 67 [] [cp]) (.i i) (.i j)) H (.exit 2) (polS.keys 71) (env71 (.sl db 0 n none n 1) (.i a) (.i b) (.func 67 [] [cp]) (.i i) (.i j)) H0 :=
  RunsTo.hin N 60 [⟨4, 2, .bool true, H⟩, ⟨4, 7, .ptr db ((j).toNat) 0 n, H⟩, ⟨4, 8, .i x0, H⟩, ⟨4, 12, .ptr db ((IntKind.i64.wrap (j - 1)).toNat) 0 n, H⟩, ⟨4, 13, .i x1, H⟩, ⟨4, 14, .i c0, H0⟩, ⟨4, 15, .bool false, H0⟩] fun kf hk => ⟨_, by kernel_rfl, (oB H (decide_eq_true g0) (oP H g1 (oP H g2 (oP H g3 (oP H g4 (oC (g5 kf (by omega)) (oB H0 (decide_eq_false g6) .nil)))))))⟩
theorem is_l_2 (N : Nat) (db n : Nat) (a b : Int) (cp : HV) (H : Heap) (i j : Int)(g0 : ¬ (a < j)) : RunsTo Try.prog polS 71 (sub [1, 0, 0, 1, 0, 0, 1, 0, 0] B71) (env71 (.sl db 0 n none n 1) (.i a) (.i b) (.func 67 [] [cp]) (.i i) (.i j)) H (.exit 2) (polS.keys 71) (env71 (.sl db 0 n none n 1) (.i a) (.i b) (.func 67 [] [cp]) (.i i) (.i j)) H :=
  RunsTo.hin N 60 [⟨4, 2, .bool false, H⟩] fun kf hk => ⟨_, by kernel_rfl, (oB H (decide_eq_false g0) .nil)⟩
theorem is_c_0 (N : Nat) (db n : Nat) (a b : Int) (cp : HV) (H : Heap) (i j : Int) : RunsTo Try.prog polS 71 (sub [1, 0, 0, 1, 1] B71) (env71 (.sl db 0 n none n 1) (.i a) (.i b) (.func 67 [] [cp]) (.i i) (.i j)) H .normal (polS.keys 71) (env71 (.sl db 0 n none n 1) (.i a) (.i b) (.func 67 [] [cp]) (.i (IntKind.i64.wrap (i + 1))) (.i j)) H :=
  RunsTo.hin N 60 [] fun kf hk => ⟨_, by kernel_rfl, .nil⟩
end Go.Proofs.Ytmhfkhlamnapdaa
end
section
open Go Go.HL
namespace Go.Proofs.Ytmhfkhlamnapdaa
def sink (f : Int → Int) (a : Nat) : Nat → List Int → List Int
  | 0, l => l
  | j + 1, l => if a < j + 1 ∧ f (l.getD j 0) < f (l.getD (j + 1) 0) then sink f a j (swp l (j + 1) j) else l
def insGo (f : Int → Int) (a : Nat) : Nat → Nat → List Int → List Int
  | 0, _, l => l
  | d + 1, i, l => insGo f a d (i + 1) (sink f a i l)
def insertion (f : Int → Int) (a b : Nat) (l : List Int) : List Int := insGo f a (b - (a + 1)) (a + 1) l
theorem sink_len (f : Int → Int) (a : Nat) : ∀ (j : Nat) (l : List Int), (sink f a j l).length = l.length
  | 0, _ => rfl
  | j + 1, l => by
    rw [sink]
    split
    · rw [sink_len f a j, swp_len]
    · rfl
theorem insGo_len (f : Int → Int) (a : Nat) : ∀ (d i : Nat) (l : List Int), (insGo f a d i l).length = l.length
  | 0, _, _ => rfl
  | d + 1, i, l => by rw [insGo, insGo_len f a d, sink_len]
theorem is_sink {db : Nat} {cp : HV} {f : Int → Int} {dom : Int → Prop} {K : Heap → Prop} (hc : Cmp db cp f dom K) (n : Nat) (hn : n ≤ 1000) (a : Nat) (b : Int) (i : Int) : ∀ (j : Nat) (l : List Int) (H : Heap), l.length = n → j < n → Ls db K dom l H →
    ∃ j' H', RunsTo Try.prog polS 71 (sub [1, 0, 0, 1, 0, 0, 1, 0] B71) (env71 (.sl db 0 n none n 1) (.int .i64 (a : Int)) (.int .i64 b) (.func 67 [] [cp]) (.int .i64 i) (.int .i64 (j : Int))) H
      (.exit 2) (polS.keys 71) (env71 (.sl db 0 n none n 1) (.int .i64 (a : Int)) (.int .i64 b) (.func 67 [] [cp]) (.int .i64 i) (.int .i64 j')) H' ∧ Ls db K dom (sink f a j l) H' ∧ Fd db H H' := by
  intro j
  induction j with
  | zero =>
    intro l H hl hj hL
    exact ⟨_, H, RunsTo.loop_out (is_l_2 0 db n (a : Int) b cp H i ((0 : Nat) : Int) (by omega)) (by simp) (by kernel_rfl) (by kernel_rfl), hL, Fd.refl _ _⟩
  | succ j ih =>
    intro l H hl hj hL
    rw [sink]
    by_cases c1 : a < j + 1
    · have hw : IntKind.i64.wrap (((j + 1 : Nat) : Int) - 1) = (j : Int) := by rw [wrapI64]; omega
      have gi : ∀ y, y < n → idxV Try.prog 24 (.sl db 0 n none n 1) (.int .i64 ((y : Nat) : Int)) = some (.ptr db (((y : Nat) : Int).toNat) 0 n) := fun y hy => idx_sl u24b z3b (by omega) (by omega)
      have gl : ∀ {H : Heap}, Ls db K dom l H → ∀ y, y < n → loadV Try.prog H 3 (.ptr db (((y : Nat) : Int).toNat) 0 n) = some (.int .i64 (l.getD y 0)) := fun hL y hy => by
        rw [Int.toNat_natCast, ← hl]; exact hL.load (by omega)
      obtain ⟨c, H1, hcl, hlt, hK, hF⟩ := hc.call H (l.getD (j + 1) 0) (l.getD j 0) hL.ok (hL.dom_ (by omega)) (hL.dom_ (by omega))
      obtain ⟨N, hN⟩ := hcl.from
      have hL1 := hL.fr hc.one hK hF
      by_cases c2 : f (l.getD j 0) < f (l.getD (j + 1) 0)
      · rw [if_pos ⟨c1, c2⟩]
        obtain ⟨s1, s2, s3, s4⟩ := hL1.swp_ hc (i := j + 1) (j := j) (by omega) (by omega)
        rw [hl] at s1 s2
        have st := is_l_0 N db n (a : Int) b cp H i ((j + 1 : Nat) : Int) (l.getD (j + 1) 0) (l.getD j 0) c H1 (l.getD j 0) (l.getD (j + 1) 0) _ _ (by omega) (gi _ hj) (gl hL _ hj) (by rw [hw]; exact gi j (by omega)) (by rw [hw]; exact gl hL j (by omega)) hN (hlt.2 c2)
          (by rw [hw]; exact gi j (by omega)) (by rw [hw]; exact gl hL1 j (by omega)) (gi _ hj) (gl hL1 _ hj) (gi _ hj) (by rw [Int.toNat_natCast]; exact s1) (by rw [hw]; exact gi j (by omega)) (by rw [hw, Int.toNat_natCast]; exact s2)
        rw [hw] at st
        obtain ⟨j', H2, r2, h2, h3⟩ := ih (swp l (j + 1) j) _ (by rw [swp_len]; exact hl) (by omega) s3
        exact ⟨j', H2, RunsTo.loop st (by kernel_rfl) (gc_eq _ (by rw [s4.len, hF.len])) r2 rfl (by kernel_rfl) (by kernel_rfl), h2, (hF.fd.trans s4).trans h3⟩
      · rw [if_neg (fun h => c2 h.2)]
        have st := is_l_1 N db n (a : Int) b cp H i ((j + 1 : Nat) : Int) (l.getD (j + 1) 0) (l.getD j 0) c H1 (by omega) (gi _ hj) (gl hL _ hj) (by rw [hw]; exact gi j (by omega)) (by rw [hw]; exact gl hL j (by omega)) hN (fun h => c2 (hlt.1 h))
        exact ⟨_, H1, RunsTo.loop_out st (by simp) (by kernel_rfl) (by kernel_rfl), hL1, hF.fd⟩
    · rw [if_neg (fun h => c1 h.1)]
      exact ⟨_, H, RunsTo.loop_out (is_l_2 0 db n (a : Int) b cp H i ((j + 1 : Nat) : Int) (by omega)) (by simp) (by kernel_rfl) (by kernel_rfl), hL, Fd.refl _ _⟩
theorem is_outer {db : Nat} {cp : HV} {f : Int → Int} {dom : Int → Prop} {K : Heap → Prop} (hc : Cmp db cp f dom K) (n : Nat) (hn : n ≤ 1000) (a b : Nat) (hb : b ≤ n) : ∀ (d i : Nat) (l : List Int) (H : Heap), i + d = b → l.length = n → Ls db K dom l H →
    ∃ H', RunsTo Try.prog polS 71 (sub [1, 0] B71) (env71 (.sl db 0 n none n 1) (.int .i64 (a : Int)) (.int .i64 (b : Int)) (.func 67 [] [cp]) (.int .i64 (i : Int)) .undef) H
      (.exit 0) (polS.keys 71) (env71 (.sl db 0 n none n 1) (.int .i64 (a : Int)) (.int .i64 (b : Int)) (.func 67 [] [cp]) (.int .i64 (b : Int)) .undef) H' ∧ Ls db K dom (insGo f a d i l) H' ∧ Fd db H H' := by
  intro d
  induction d with
  | zero =>
    intro i l H hi hl hL
    have hi : i = b := by omega
    subst hi
    have s1 := is_h_1 0 db n (a : Int) (i : Int) cp H (i : Int) (by omega)
    exact ⟨H, RunsTo.loop_out (RunsTo.seq_out s1 (by simp) (c := sub [1, 0, 0] B71) (b := sub [1, 0, 0, 1] B71) (by kernel_rfl)) (by simp) (by kernel_rfl) (by kernel_rfl), hL, Fd.refl _ _⟩
  | succ d ih =>
    intro i l H hi hl hL
    have h1 := is_h_0 0 db n (a : Int) (b : Int) cp H (i : Int) (by omega)
    have b1 := is_b_0 0 db n (a : Int) (b : Int) cp H (i : Int)
    obtain ⟨j', H1, r1, hL1, hF1⟩ := is_sink hc n hn a (b : Int) (i : Int) i l H hl (by omega) hL
    have c1 := is_c_0 0 db n (a : Int) (b : Int) cp H1 (i : Int) j'
    rw [wrap_succ (by omega)] at c1
    obtain ⟨H2, r2, hL2, hF2⟩ := ih (i + 1) (sink f a i l) H1 (by omega) (by rw [sink_len]; exact hl) hL1
    refine ⟨H2, ?_, by rw [insGo]; exact hL2, hF1.trans hF2⟩
    have t1 := RunsTo.seq b1 (RunsTo.block_exit (c := sub [1, 0, 0, 1, 0, 0, 1] B71) r1 (by kernel_rfl)) (c := sub [1, 0, 0, 1, 0, 0] B71) (by kernel_rfl) (by kernel_rfl)
    have t2 := RunsTo.block_normal (i := 1) (c := sub [1, 0, 0, 1, 0] B71) t1 (by kernel_rfl)
    have t3 := RunsTo.seq t2 c1 (c := sub [1, 0, 0, 1] B71) (by kernel_rfl) (by kernel_rfl)
    have t4 := RunsTo.seq h1 t3 (c := sub [1, 0, 0] B71) (by kernel_rfl) (by kernel_rfl)
    exact RunsTo.loop t4 (by kernel_rfl) (gc_eq _ hF1.len) r2 rfl (by kernel_rfl) (by kernel_rfl)
theorem res71 : Try.f71.results.toList = [] := by kernel_rfl
theorem insertion_call {db : Nat} {cp : HV} {f : Int → Int} {dom : Int → Prop} {K : Heap → Prop} (hc : Cmp db cp f dom K) {n a b : Nat} (hn : n ≤ 1000) (hab : a < b) (hb : b ≤ n) {l : List Int} {H : Heap} (hl : l.length = n) (hL : Ls db K dom l H) :
    ∃ H', Cl 71 [.sl db 0 n none n 1, .int .i64 (a : Int), .int .i64 (b : Int), .func 67 [] [cp]] H (.tuple []) H' ∧ Ls db K dom (insertion f a b l) H' ∧ Fd db H H' := by
  have a1 := is_a_0 0 db n (a : Int) (b : Int) cp H
  rw [wrap_succ (by omega)] at a1
  obtain ⟨H', r, hL', hF⟩ := is_outer hc n hn a b hb (b - (a + 1)) (a + 1) l H (by omega) hl hL
  have t1 := RunsTo.seq a1 (RunsTo.block_exit (c := sub [1] B71) r (by kernel_rfl)) (c := B71) (by kernel_rfl) (by kernel_rfl)
  have hcl := CallsTo.shared (P := Try.prog) (pol := polS) (g := 71) (fn := Try.f71) (cd := B71) (args := [.sl db 0 n none n 1, .int .i64 (a : Int), .int .i64 (b : Int), .func 67 [] [cp]]) (v := .tuple []) (by kernel_rfl) (by kernel_rfl) (by kernel_rfl) (by kernel_rfl) t1 (by kernel_rfl) (by simp) (by simp only [resultsV, res71, mapO])
  rw [gc_eq _ hF.len] at hcl
  exact ⟨H', hcl, hL', hF⟩
end Go.Proofs.Ytmhfkhlamnapdaa
end
section
open Go Go.HL
namespace Go.Proofs.Ytmhfkhlamnapdaa
def swapR (a b : Nat) : Nat → Nat → List Int → List Int
  | 0, _, l => l
  | d + 1, i, l => swapR a b d (i + 1) (swp l (a + i) (b + i))
theorem swapR_len (a b : Nat) : ∀ (d i : Nat) (l : List Int), (swapR a b d i l).length = l.length
  | 0, _, _ => rfl
  | d + 1, i, l => by rw [swapR, swapR_len a b d, swp_len]
def rotGo (m : Nat) : Nat → Nat → Nat → List Int → List Int
  | 0, i, _, l => swapR (m - i) m i 0 l
  | k + 1, i, j, l => if i = j then swapR (m - i) m i 0 l else if j < i then rotGo m k (i - j) j (swapR (m - i) m j 0 l) else rotGo m k i (j - i) (swapR (m - i) (m + j - i) i 0 l)
theorem rotGo_len (m : Nat) : ∀ (k i j : Nat) (l : List Int), (rotGo m k i j l).length = l.length
  | 0, i, j, l => swapR_len _ _ _ _ _
  | k + 1, i, j, l => by
    rw [rotGo]
    split
    · exact swapR_len _ _ _ _ _
    · split
      · rw [rotGo_len m k, swapR_len]
      · rw [rotGo_len m k, swapR_len]
def rotate (a m b : Nat) (l : List Int) : List Int := rotGo m (b - a) (m - a) (b - m) l
theorem res74 : Try.f74.results.toList = [] := by kernel_rfl
theorem res73 : Try.f73.results.toList = [] := by kernel_rfl
theorem swap_loop {db : Nat} {cp : HV} {f : Int → Int} {dom : Int → Prop} {K : Heap → Prop} (hc : Cmp db cp f dom K) (n : Nat) (hn : n ≤ 1000) (a b m : Nat) (ha : a + m ≤ n) (hb : b + m ≤ n) : ∀ (d i : Nat) (l : List Int) (H : Heap), i + d = m → l.length = n → Ls db K dom l H →
    ∃ H', RunsTo Try.prog polS 74 (sub [1, 0] B74) (env74 (.sl db 0 n none n 1) (.int .i64 (a : Int)) (.int .i64 (b : Int)) (.int .i64 (m : Int)) (.int .i64 (i : Int))) H
      (.exit 0) (polS.keys 74) (env74 (.sl db 0 n none n 1) (.int .i64 (a : Int)) (.int .i64 (b : Int)) (.int .i64 (m : Int)) (.int .i64 (m : Int))) H' ∧ Ls db K dom (swapR a b d i l) H' ∧ Fd db H H' := by
  intro d
  induction d with
  | zero =>
    intro i l H hi hl hL
    have hi : i = m := by omega
    subst hi
    exact ⟨H, RunsTo.loop_out (sw_l_1 0 db n (a : Int) (b : Int) (i : Int) H (i : Int) (by omega)) (by simp) (by kernel_rfl) (by kernel_rfl), hL, Fd.refl _ _⟩
  | succ d ih =>
    intro i l H hi hl hL
    have w1 : IntKind.i64.wrap ((a : Int) + (i : Int)) = ((a + i : Nat) : Int) := by rw [wrapI64]; omega
    have w2 : IntKind.i64.wrap ((b : Int) + (i : Int)) = ((b + i : Nat) : Int) := by rw [wrapI64]; omega
    have gi : ∀ y, y < n → idxV Try.prog 24 (.sl db 0 n none n 1) (.int .i64 ((y : Nat) : Int)) = some (.ptr db (((y : Nat) : Int).toNat) 0 n) := fun y hy => idx_sl u24b z3b (by omega) (by omega)
    have gl : ∀ y, y < n → loadV Try.prog H 3 (.ptr db (((y : Nat) : Int).toNat) 0 n) = some (.int .i64 (l.getD y 0)) := fun y hy => by
      rw [Int.toNat_natCast, ← hl]; exact hL.load (by omega)
    obtain ⟨s1, s2, s3, s4⟩ := hL.swp_ hc (i := a + i) (j := b + i) (by omega) (by omega)
    rw [hl] at s1 s2
    have st := sw_l_0 0 db n (a : Int) (b : Int) (m : Int) H (i : Int) (l.getD (b + i) 0) (l.getD (a + i) 0) _ _ (by omega) (by rw [w2]; exact gi _ (by omega)) (by rw [w2]; exact gl _ (by omega)) (by rw [w1]; exact gi _ (by omega)) (by rw [w1]; exact gl _ (by omega)) (by rw [w1]; exact gi _ (by omega)) (by rw [w1, Int.toNat_natCast]; exact s1) (by rw [w2]; exact gi _ (by omega)) (by rw [w2, Int.toNat_natCast]; exact s2)
    rw [wrap_succ (by omega)] at st
    obtain ⟨H', r2, h2, h3⟩ := ih (i + 1) (swp l (a + i) (b + i)) _ (by omega) (by rw [swp_len]; exact hl) s3
    exact ⟨H', RunsTo.loop st (by kernel_rfl) (gc_eq _ s4.len) r2 rfl (by kernel_rfl) (by kernel_rfl), by rw [swapR]; exact h2, s4.trans h3⟩
theorem swapR_call {db : Nat} {cp : HV} {f : Int → Int} {dom : Int → Prop} {K : Heap → Prop} (hc : Cmp db cp f dom K) {n a b m : Nat} (hn : n ≤ 1000) (ha : a + m ≤ n) (hb : b + m ≤ n) {l : List Int} {H : Heap} (hl : l.length = n) (hL : Ls db K dom l H) (cv : HV) :
    ∃ H', Cl 74 [.sl db 0 n none n 1, .int .i64 (a : Int), .int .i64 (b : Int), .int .i64 (m : Int), .func 67 [] [cv]] H (.tuple []) H' ∧ Ls db K dom (swapR a b m 0 l) H' ∧ Fd db H H' := by
  have a1 := sw_a_0 0 db n (a : Int) (b : Int) (m : Int) cv H
  obtain ⟨H', r, hL', hF⟩ := swap_loop hc n hn a b m ha hb m 0 l H (by omega) hl hL
  have t1 := RunsTo.seq a1 (RunsTo.block_exit (c := sub [1] B74) r (by kernel_rfl)) (c := B74) (by kernel_rfl) (by kernel_rfl)
  have hcl := CallsTo.shared (P := Try.prog) (pol := polS) (g := 74) (fn := Try.f74) (cd := B74) (args := [.sl db 0 n none n 1, .int .i64 (a : Int), .int .i64 (b : Int), .int .i64 (m : Int), .func 67 [] [cv]]) (v := .tuple []) (by kernel_rfl) (by kernel_rfl) (by kernel_rfl) (by kernel_rfl) t1 (by kernel_rfl) (by simp) (by simp only [resultsV, res74, mapO])
  rw [gc_eq _ hF.len] at hcl
  exact ⟨H', hcl, hL', hF⟩
theorem rot_loop {db : Nat} {cp : HV} {f : Int → Int} {dom : Int → Prop} {K : Heap → Prop} (hc : Cmp db cp f dom K) (n : Nat) (hn : n ≤ 1000) (a m b : Nat) (hb : b ≤ n) : ∀ (k i j : Nat) (l : List Int) (H : Heap), i + j ≤ k + 1 → 0 < i → 0 < j → i ≤ m → m + j ≤ n → l.length = n → Ls db K dom l H →
    ∃ (i' j' : Nat) (l' : List Int) (H' : Heap), RunsTo Try.prog polS 73 (sub [1, 1, 0, 0] B73) (env73 (.sl db 0 n none n 1) (.int .i64 (a : Int)) (.int .i64 (m : Int)) (.int .i64 (b : Int)) (.func 67 [] [cp]) (.int .i64 (i : Int)) (.int .i64 (j : Int))) H
      (.exit 0) (polS.keys 73) (env73 (.sl db 0 n none n 1) (.int .i64 (a : Int)) (.int .i64 (m : Int)) (.int .i64 (b : Int)) (.func 67 [] [cp]) (.int .i64 (i' : Int)) (.int .i64 (j' : Int))) H' ∧ Ls db K dom l' H' ∧ Fd db H H' ∧ l'.length = n ∧ i' ≤ m ∧ m + i' ≤ n ∧ rotGo m k i j l = swapR (m - i') m i' 0 l' := by
  intro k
  induction k with
  | zero =>
    intro i j l H hk hi hj _ _ _ _
    omega
  | succ k ih =>
    intro i j l H hk hi hj him hjn hl hL
    rw [rotGo]
    by_cases e : i = j
    · rw [if_pos e]
      have s1 := ro_l_0 0 db n (a : Int) (m : Int) (b : Int) cp H (i : Int) (j : Int) (by omega)
      exact ⟨i, j, l, H, RunsTo.loop_out s1 (by simp) (by kernel_rfl) (by kernel_rfl), hL, Fd.refl _ _, hl, him, by omega, rfl⟩
    · rw [if_neg e]
      by_cases h : j < i
      · rw [if_pos h]
        have w1 : IntKind.i64.wrap ((m : Int) - (i : Int)) = ((m - i : Nat) : Int) := by rw [wrapI64]; omega
        have w2 : IntKind.i64.wrap ((i : Int) - (j : Int)) = ((i - j : Nat) : Int) := by rw [wrapI64]; omega
        obtain ⟨H1, c1, hL1, hF1⟩ := swapR_call hc (n := n) (a := m - i) (b := m) (m := j) hn (by omega) (by omega) hl hL cp
        obtain ⟨N, hN⟩ := c1.from
        have s1 := ro_l_1 N db n (a : Int) (m : Int) (b : Int) cp H (i : Int) (j : Int) H1 (by omega) (by omega) (by rw [w1]; exact hN)
        rw [w2] at s1
        obtain ⟨i', j', l', H', r, h1, h2, h3, h4, h5, h6⟩ := ih (i - j) j (swapR (m - i) m j 0 l) H1 (by omega) (by omega) hj (by omega) hjn (by rw [swapR_len]; exact hl) hL1
        exact ⟨i', j', l', H', RunsTo.loop s1 (by kernel_rfl) (gc_eq _ hF1.len) r rfl (by kernel_rfl) (by kernel_rfl), h1, hF1.trans h2, h3, h4, h5, h6⟩
      · rw [if_neg h]
        have w1 : IntKind.i64.wrap ((m : Int) - (i : Int)) = ((m - i : Nat) : Int) := by rw [wrapI64]; omega
        have w2 : IntKind.i64.wrap ((j : Int) - (i : Int)) = ((j - i : Nat) : Int) := by rw [wrapI64]; omega
        have w3 : IntKind.i64.wrap ((m : Int) + (j : Int)) = ((m + j : Nat) : Int) := by rw [wrapI64]; omega
        have w4 : IntKind.i64.wrap (((m + j : Nat) : Int) - (i : Int)) = ((m + j - i : Nat) : Int) := by rw [wrapI64]; omega
        obtain ⟨H1, c1, hL1, hF1⟩ := swapR_call hc (n := n) (a := m - i) (b := m + j - i) (m := i) hn (by omega) (by omega) hl hL cp
        obtain ⟨N, hN⟩ := c1.from
        have s1 := ro_l_2 N db n (a : Int) (m : Int) (b : Int) cp H (i : Int) (j : Int) H1 (by omega) (by omega) (by rw [w1, w3, w4]; exact hN)
        rw [w2] at s1
        obtain ⟨i', j', l', H', r, h1, h2, h3, h4, h5, h6⟩ := ih i (j - i) (swapR (m - i) (m + j - i) i 0 l) H1 (by omega) hi (by omega) him (by omega) (by rw [swapR_len]; exact hl) hL1
        exact ⟨i', j', l', H', RunsTo.loop s1 (by kernel_rfl) (gc_eq _ hF1.len) r rfl (by kernel_rfl) (by kernel_rfl), h1, hF1.trans h2, h3, h4, h5, h6⟩
theorem rotate_call {db : Nat} {cp : HV} {f : Int → Int} {dom : Int → Prop} {K : Heap → Prop} (hc : Cmp db cp f dom K) {n a m b : Nat} (hn : n ≤ 1000) (ham : a < m) (hmb : m < b) (hb : b ≤ n) {l : List Int} {H : Heap} (hl : l.length = n) (hL : Ls db K dom l H) :
    ∃ H', Cl 73 [.sl db 0 n none n 1, .int .i64 (a : Int), .int .i64 (m : Int), .int .i64 (b : Int), .func 67 [] [cp]] H (.tuple []) H' ∧ Ls db K dom (rotate a m b l) H' ∧ Fd db H H' := by
  have a1 := ro_a_0 0 db n (a : Int) (m : Int) (b : Int) cp H
  have b1 := ro_b_0 0 db n (a : Int) (m : Int) (b : Int) cp H ((m - a : Nat) : Int)
  have w1 : IntKind.i64.wrap ((m : Int) - (a : Int)) = ((m - a : Nat) : Int) := by rw [wrapI64]; omega
  have w2 : IntKind.i64.wrap ((b : Int) - (m : Int)) = ((b - m : Nat) : Int) := by rw [wrapI64]; omega
  rw [w1] at a1
  rw [w2] at b1
  obtain ⟨i', j', l', H1, r, hL1, hF1, hl1, h4, h5, h6⟩ := rot_loop hc n hn a m b hb (b - a) (m - a) (b - m) l H (by omega) (by omega) (by omega) (by omega) (by omega) hl hL
  obtain ⟨H2, c2, hL2, hF2⟩ := swapR_call hc (n := n) (a := m - i') (b := m) (m := i') hn (by omega) (by omega) hl1 hL1 cp
  obtain ⟨N, hN⟩ := c2.from
  have w3 : IntKind.i64.wrap ((m : Int) - (i' : Int)) = ((m - i' : Nat) : Int) := by rw [wrapI64]; omega
  have z1 := ro_z_0 N db n (a : Int) (m : Int) (b : Int) cp H1 (i' : Int) (j' : Int) H2 (by rw [w3]; exact hN)
  have t1 := RunsTo.seq (RunsTo.block_exit (c := sub [1, 1, 0] B73) r (by kernel_rfl)) z1 (c := sub [1, 1] B73) (by kernel_rfl) (by kernel_rfl)
  have t2 := RunsTo.seq b1 t1 (c := sub [1] B73) (by kernel_rfl) (by kernel_rfl)
  have t3 := RunsTo.seq a1 t2 (c := B73) (by kernel_rfl) (by kernel_rfl)
  have hcl := CallsTo.shared (P := Try.prog) (pol := polS) (g := 73) (fn := Try.f73) (cd := B73) (args := [.sl db 0 n none n 1, .int .i64 (a : Int), .int .i64 (m : Int), .int .i64 (b : Int), .func 67 [] [cp]]) (v := .tuple []) (by kernel_rfl) (by kernel_rfl) (by kernel_rfl) (by kernel_rfl) t3 (by kernel_rfl) (by simp) (by simp only [resultsV, res73, mapO])
  rw [gc_eq _ (hF1.trans hF2).len] at hcl
  exact ⟨H2, hcl, by rw [rotate, h6]; exact hL2, hF1.trans hF2⟩
end Go.Proofs.Ytmhfkhlamnapdaa
end
section
open Go Go.HL
namespace Go.Proofs.Ytmhfkhlamnapdaa
def bs (q : Nat → Bool) : Nat → Nat → Nat → Nat
  | 0, i, _ => i
  | d + 1, i, j => if i < j then (if q ((i + j) / 2) = true then bs q d ((i + j) / 2 + 1) j else bs q d i ((i + j) / 2)) else i
theorem bs_bound (q : Nat → Bool) : ∀ (d i j : Nat), i ≤ j → i ≤ bs q d i j ∧ bs q d i j ≤ j
  | 0, i, j, h => by rw [bs]; omega
  | d + 1, i, j, h => by
    rw [bs]
    split
    · split
      · have := bs_bound q d ((i + j) / 2 + 1) j (by omega); omega
      · have := bs_bound q d i ((i + j) / 2) (by omega); omega
    · omega
def mvUp : Nat → Nat → List Int → List Int
  | 0, _, l => l
  | d + 1, k, l => mvUp d (k + 1) (swp l k (k + 1))
def mvDn : Nat → Nat → List Int → List Int
  | 0, _, l => l
  | d + 1, k, l => mvDn d (k - 1) (swp l k (k - 1))
theorem mvUp_len : ∀ (d k : Nat) (l : List Int), (mvUp d k l).length = l.length
  | 0, _, _ => rfl
  | d + 1, k, l => by rw [mvUp, mvUp_len d, swp_len]
theorem mvDn_len : ∀ (d k : Nat) (l : List Int), (mvDn d k l).length = l.length
  | 0, _, _ => rfl
  | d + 1, k, l => by rw [mvDn, mvDn_len d, swp_len]
theorem rotate_len (a m b : Nat) (l : List Int) : (rotate a m b l).length = l.length := rotGo_len _ _ _ _ _
def s0F (m b mid a : Nat) : Nat := if mid < m then mid + m - b else a
def r0F (m mid : Nat) : Nat := if mid < m then mid else m
def sF (f : Int → Int) (a m b : Nat) (l : List Int) : Nat :=
  bs (fun c => !decide (f (l.getD c 0) < f (l.getD ((a + b) / 2 + m - 1 - c) 0))) (r0F m ((a + b) / 2) - s0F m b ((a + b) / 2) a) (s0F m b ((a + b) / 2) a) (r0F m ((a + b) / 2))
def symM (f : Int → Int) : Nat → Nat → Nat → Nat → List Int → List Int
  | 0, _, _, _, l => l
  | k + 1, a, m, b, l =>
    if m - a = 1 then mvUp (bs (fun h => decide (f (l.getD a 0) < f (l.getD h 0))) (b - m) m b - 1 - a) a l
    else if b - m = 1 then mvDn (m - bs (fun h => !decide (f (l.getD h 0) < f (l.getD m 0))) (m - a) a m) m l
    else
      let mid := (a + b) / 2
      let s := sF f a m b l
      let e := mid + m - s
      let l1 := if s < m ∧ m < e then rotate s m e l else l
      let l2 := if a < s ∧ s < mid then symM f k a s mid l1 else l1
      if mid < e ∧ e < b then symM f k mid e b l2 else l2
theorem symM_len (f : Int → Int) : ∀ (k a m b : Nat) (l : List Int), (symM f k a m b l).length = l.length
  | 0, _, _, _, _ => rfl
  | k + 1, a, m, b, l => by
    rw [symM]
    split
    · exact mvUp_len _ _ _
    · split
      · exact mvDn_len _ _ _
      · dsimp only
        have h1 : ∀ (c : Prop) [Decidable c] (s m e : Nat) (l : List Int), (if c then rotate s m e l else l).length = l.length := by intro c _ s m e l; split; exact rotate_len _ _ _ _; rfl
        split
        · rw [symM_len f k]
          split
          · rw [symM_len f k, h1]
          · rw [h1]
        · split
          · rw [symM_len f k, h1]
          · rw [h1]
theorem mid_shr (i j : Nat) (hi : i ≤ 100000) (hj : j ≤ 100000) : binV Try.prog .shr 76 (.int .u64 (IntKind.u64.wrap (IntKind.i64.wrap ((i : Int) + (j : Int))))) (.int .u64 1) = some (.int .u64 (((i + j) / 2 : Nat) : Int)) := by
  have e1 : IntKind.i64.wrap ((i : Int) + (j : Int)) = ((i + j : Nat) : Int) := by rw [wrapI64]; omega
  have e2 : IntKind.u64.wrap ((i + j : Nat) : Int) = ((i + j : Nat) : Int) := by rw [wrapU64]; omega
  have e3 : (((i + j : Nat) : Int)).fdiv (2 ^ min (1 : Int).toNat IntKind.u64.bits) = (((i + j) / 2 : Nat) : Int) := by
    have : (2 : Int) ^ min (1 : Int).toNat IntKind.u64.bits = 2 := by decide
    rw [this, Int.fdiv_eq_ediv_of_nonneg _ (by omega)]
    omega
  have e4 : IntKind.u64.wrap (((i + j) / 2 : Nat) : Int) = (((i + j) / 2 : Nat) : Int) := by rw [wrapU64]; omega
  rw [e1, e2]
  simp only [binV, intBin]
  rw [if_neg (by omega), e3]
theorem mid_i64 (h : Nat) (hh : h ≤ 100000) : IntKind.i64.wrap ((h : Nat) : Int) = (h : Int) := by rw [wrapI64]; omega
abbrev sE (db n : Nat) (a m b : Int) (cp : HV) (v10 v11 v12 v13 v14 v15 v16 v17 v18 v19 v20 v21 v22 v23 v24 : HV) : Env :=
  env72 (.sl db 0 n none n 1) (.int .i64 a) (.int .i64 m) (.int .i64 b) (.func 67 [] [cp]) v10 v11 v12 v13 v14 v15 v16 v17 v18 v19 v20 v21 v22 v23 v24
section
variable {db : Nat} {cp : HV} {f : Int → Int} {dom : Int → Prop} {K : Heap → Prop}
theorem gi_ {db n y : Nat} (hy : y < n) : idxV Try.prog 24 (.sl db 0 n none n 1) (.int .i64 ((y : Nat) : Int)) = some (.ptr db (((y : Nat) : Int).toNat) 0 n) := idx_sl u24b z3b (by omega) (by omega)
end
section
variable {db : Nat} {cp : HV} {f : Int → Int} {dom : Int → Prop} {K : Heap → Prop}
theorem Ls.gl_ {l : List Int} {H : Heap} {n y : Nat} (hL : Ls db K dom l H) (hl : l.length = n) (hy : y < n) : loadV Try.prog H 3 (.ptr db (((y : Nat) : Int).toNat) 0 n) = some (.int .i64 (l.getD y 0)) := by
  rw [Int.toNat_natCast, ← hl]; exact hL.load (by omega)
end
section
variable {db : Nat} {cp : HV} {f : Int → Int} {dom : Int → Prop} {K : Heap → Prop}
theorem sy_bs1 (hc : Cmp db cp f dom K) (n : Nat) (hn : n ≤ 1000) (a m b : Nat) (ha : a < n) (hb : b ≤ n) (l : List Int) (hl : l.length = n) : ∀ (d i j : Nat) (H : Heap), j - i ≤ d → j ≤ b → Ls db K dom l H →
    ∃ (j' : Nat) (H' : Heap), RunsTo Try.prog polS 72 (sub [0, 1, 0, 1, 1, 0, 0] B72) (sE db n a m b cp (.int .i64 (i : Int)) (.int .i64 (j : Int)) .undef .undef .undef .undef .undef .undef .undef .undef .undef .undef .undef .undef .undef) H
      (.exit 0) (polS.keys 72) (sE db n a m b cp (.int .i64 ((bs (fun h => decide (f (l.getD a 0) < f (l.getD h 0))) d i j : Nat) : Int)) (.int .i64 (j' : Int)) .undef .undef .undef .undef .undef .undef .undef .undef .undef .undef .undef .undef .undef) H' ∧ Ls db K dom l H' ∧ Fr H H' := by
  intro d
  induction d with
  | zero =>
    intro i j H hd hj hL
    rw [bs]
    exact ⟨j, H, RunsTo.loop_out (sy_d_2 0 db n (a : Int) (m : Int) (b : Int) cp H (i : Int) (j : Int) (by omega)) (by simp) (by kernel_rfl) (by kernel_rfl), hL, Fr.refl _⟩
  | succ d ih =>
    intro i j H hd hj hL
    rw [bs]
    by_cases hij : i < j
    · rw [if_pos hij]
      have hh : (i + j) / 2 < n := by omega
      have hw := mid_i64 ((i + j) / 2) (by omega)
      obtain ⟨c, H1, hcl, hlt, hK, hF⟩ := hc.call H (l.getD ((i + j) / 2) 0) (l.getD a 0) hL.ok (hL.dom_ (by omega)) (hL.dom_ (by omega))
      obtain ⟨N, hN⟩ := hcl.from
      have hL1 := hL.fr hc.one hK hF
      by_cases hq : f (l.getD a 0) < f (l.getD ((i + j) / 2) 0)
      · rw [if_pos (by simpa using hq)]
        have st := sy_d_0 N db n (a : Int) (m : Int) (b : Int) cp H (i : Int) (j : Int) _ _ _ c H1 (by omega) (mid_shr i j (by omega) (by omega)) (by rw [hw]; exact gi_ hh) (by rw [hw]; exact hL.gl_ hl hh) (gi_ ha) (hL.gl_ hl ha) hN (hlt.2 hq)
        rw [hw, wrap_succ (by omega)] at st
        obtain ⟨j', H2, r2, h2, h3⟩ := ih ((i + j) / 2 + 1) j H1 (by omega) hj hL1
        exact ⟨j', H2, RunsTo.loop st (by kernel_rfl) (gc_eq _ hF.len) r2 rfl (by kernel_rfl) (by kernel_rfl), h2, hF.trans h3⟩
      · rw [if_neg (by simpa using hq)]
        have st := sy_d_1 N db n (a : Int) (m : Int) (b : Int) cp H (i : Int) (j : Int) _ _ _ c H1 (by omega) (mid_shr i j (by omega) (by omega)) (by rw [hw]; exact gi_ hh) (by rw [hw]; exact hL.gl_ hl hh) (gi_ ha) (hL.gl_ hl ha) hN (fun h => hq (hlt.1 h))
        rw [hw] at st
        obtain ⟨j', H2, r2, h2, h3⟩ := ih i ((i + j) / 2) H1 (by omega) (by omega) hL1
        exact ⟨j', H2, RunsTo.loop st (by kernel_rfl) (gc_eq _ hF.len) r2 rfl (by kernel_rfl) (by kernel_rfl), h2, hF.trans h3⟩
    · rw [if_neg hij]
      exact ⟨j, H, RunsTo.loop_out (sy_d_2 0 db n (a : Int) (m : Int) (b : Int) cp H (i : Int) (j : Int) (by omega)) (by simp) (by kernel_rfl) (by kernel_rfl), hL, Fr.refl _⟩
end
section
variable {db : Nat} {cp : HV} {f : Int → Int} {dom : Int → Prop} {K : Heap → Prop}
theorem sy_bs2 (hc : Cmp db cp f dom K) (n : Nat) (hn : n ≤ 1000) (a m b : Nat) (hm : m < n) (l : List Int) (hl : l.length = n) : ∀ (d i j : Nat) (H : Heap), j - i ≤ d → j ≤ m → Ls db K dom l H →
    ∃ (j' : Nat) (H' : Heap), RunsTo Try.prog polS 72 (sub [1, 0, 1, 0, 1, 1, 0, 0] B72) (sE db n a m b cp .undef .undef .undef .undef (.int .i64 (i : Int)) (.int .i64 (j : Int)) .undef .undef .undef .undef .undef .undef .undef .undef .undef) H
      (.exit 4) (polS.keys 72) (sE db n a m b cp .undef .undef .undef .undef (.int .i64 ((bs (fun h => !decide (f (l.getD h 0) < f (l.getD m 0))) d i j : Nat) : Int)) (.int .i64 (j' : Int)) .undef .undef .undef .undef .undef .undef .undef .undef .undef) H' ∧ Ls db K dom l H' ∧ Fr H H' := by
  intro d
  induction d with
  | zero =>
    intro i j H hd hj hL
    rw [bs]
    exact ⟨j, H, RunsTo.loop_out (sy_k_2 0 db n (a : Int) (m : Int) (b : Int) cp H (i : Int) (j : Int) (by omega)) (by simp) (by kernel_rfl) (by kernel_rfl), hL, Fr.refl _⟩
  | succ d ih =>
    intro i j H hd hj hL
    rw [bs]
    by_cases hij : i < j
    · rw [if_pos hij]
      have hh : (i + j) / 2 < n := by omega
      have hw := mid_i64 ((i + j) / 2) (by omega)
      obtain ⟨c, H1, hcl, hlt, hK, hF⟩ := hc.call H (l.getD m 0) (l.getD ((i + j) / 2) 0) hL.ok (hL.dom_ (by omega)) (hL.dom_ (by omega))
      obtain ⟨N, hN⟩ := hcl.from
      have hL1 := hL.fr hc.one hK hF
      by_cases hq : f (l.getD ((i + j) / 2) 0) < f (l.getD m 0)
      · rw [if_neg (by simpa using hq)]
        have st := sy_k_0 N db n (a : Int) (m : Int) (b : Int) cp H (i : Int) (j : Int) _ _ _ c H1 (by omega) (mid_shr i j (by omega) (by omega)) (gi_ hm) (hL.gl_ hl hm) (by rw [hw]; exact gi_ hh) (by rw [hw]; exact hL.gl_ hl hh) hN (hlt.2 hq)
        rw [hw] at st
        obtain ⟨j', H2, r2, h2, h3⟩ := ih i ((i + j) / 2) H1 (by omega) (by omega) hL1
        exact ⟨j', H2, RunsTo.loop st (by kernel_rfl) (gc_eq _ hF.len) r2 rfl (by kernel_rfl) (by kernel_rfl), h2, hF.trans h3⟩
      · rw [if_pos (by simpa using hq)]
        have st := sy_k_1 N db n (a : Int) (m : Int) (b : Int) cp H (i : Int) (j : Int) _ _ _ c H1 (by omega) (mid_shr i j (by omega) (by omega)) (gi_ hm) (hL.gl_ hl hm) (by rw [hw]; exact gi_ hh) (by rw [hw]; exact hL.gl_ hl hh) hN (fun h => hq (hlt.1 h))
        rw [hw, wrap_succ (by omega)] at st
        obtain ⟨j', H2, r2, h2, h3⟩ := ih ((i + j) / 2 + 1) j H1 (by omega) hj hL1
        exact ⟨j', H2, RunsTo.loop st (by kernel_rfl) (gc_eq _ hF.len) r2 rfl (by kernel_rfl) (by kernel_rfl), h2, hF.trans h3⟩
    · rw [if_neg hij]
      exact ⟨j, H, RunsTo.loop_out (sy_k_2 0 db n (a : Int) (m : Int) (b : Int) cp H (i : Int) (j : Int) (by omega)) (by simp) (by kernel_rfl) (by kernel_rfl), hL, Fr.refl _⟩
end
section
variable {db : Nat} {cp : HV} {f : Int → Int} {dom : Int → Prop} {K : Heap → Prop}
theorem sy_bs3 (hc : Cmp db cp f dom K) (n : Nat) (hn : n ≤ 1000) (a m b mid nn : Nat) (hnn : 1 ≤ nn ∧ nn ≤ 2000) (l : List Int) (hl : l.length = n) (s0 r0 : Nat) (hb : ∀ c, s0 ≤ c → c < r0 → c < n ∧ c ≤ nn - 1 ∧ nn - 1 - c < n) : ∀ (d i j : Nat) (H : Heap), j - i ≤ d → s0 ≤ i → j ≤ r0 → Ls db K dom l H →
    ∃ (j' : Nat) (H' : Heap), RunsTo Try.prog polS 72 (sub [1, 1, 1, 1, 1, 1, 1, 0, 0] B72) (sE db n a m b cp .undef .undef .undef .undef .undef .undef .undef .undef (.int .i64 (mid : Int)) (.int .i64 (nn : Int)) (.int .i64 (i : Int)) (.int .i64 (j : Int)) (.int .i64 ((nn - 1 : Nat) : Int)) .undef .undef) H
      (.exit 8) (polS.keys 72) (sE db n a m b cp .undef .undef .undef .undef .undef .undef .undef .undef (.int .i64 (mid : Int)) (.int .i64 (nn : Int)) (.int .i64 ((bs (fun c => !decide (f (l.getD c 0) < f (l.getD (nn - 1 - c) 0))) d i j : Nat) : Int)) (.int .i64 (j' : Int)) (.int .i64 ((nn - 1 : Nat) : Int)) .undef .undef) H' ∧ Ls db K dom l H' ∧ Fr H H' := by
  intro d
  induction d with
  | zero =>
    intro i j H hd _ hj hL
    rw [bs]
    exact ⟨j, H, RunsTo.loop_out (sy_t_2 0 db n (a : Int) (m : Int) (b : Int) cp H (mid : Int) (nn : Int) (i : Int) (j : Int) ((nn - 1 : Nat) : Int) (by omega)) (by simp) (by kernel_rfl) (by kernel_rfl), hL, Fr.refl _⟩
  | succ d ih =>
    intro i j H hd hi hj hL
    rw [bs]
    by_cases hij : i < j
    · rw [if_pos hij]
      obtain ⟨hh, hle, hp⟩ := hb ((i + j) / 2) (by omega) (by omega)
      have hw := mid_i64 ((i + j) / 2) (by omega)
      have hw2 : IntKind.i64.wrap (((nn - 1 : Nat) : Int) - (((i + j) / 2 : Nat) : Int)) = ((nn - 1 - (i + j) / 2 : Nat) : Int) := by rw [wrapI64]; omega
      obtain ⟨c, H1, hcl, hlt, hK, hF⟩ := hc.call H (l.getD (nn - 1 - (i + j) / 2) 0) (l.getD ((i + j) / 2) 0) hL.ok (hL.dom_ (by omega)) (hL.dom_ (by omega))
      obtain ⟨N, hN⟩ := hcl.from
      have hL1 := hL.fr hc.one hK hF
      by_cases hq : f (l.getD ((i + j) / 2) 0) < f (l.getD (nn - 1 - (i + j) / 2) 0)
      · rw [if_neg (by simpa using hq)]
        have st := sy_t_0 N db n (a : Int) (m : Int) (b : Int) cp H (mid : Int) (nn : Int) (i : Int) (j : Int) ((nn - 1 : Nat) : Int) _ _ _ c H1 (by omega) (mid_shr i j (by omega) (by omega)) (by rw [hw, hw2]; exact gi_ hp) (by rw [hw, hw2]; exact hL.gl_ hl hp) (by rw [hw]; exact gi_ hh) (by rw [hw]; exact hL.gl_ hl hh) hN (hlt.2 hq)
        rw [hw] at st
        obtain ⟨j', H2, r2, h2, h3⟩ := ih i ((i + j) / 2) H1 (by omega) hi (by omega) hL1
        exact ⟨j', H2, RunsTo.loop st (by kernel_rfl) (gc_eq _ hF.len) r2 rfl (by kernel_rfl) (by kernel_rfl), h2, hF.trans h3⟩
      · rw [if_pos (by simpa using hq)]
        have st := sy_t_1 N db n (a : Int) (m : Int) (b : Int) cp H (mid : Int) (nn : Int) (i : Int) (j : Int) ((nn - 1 : Nat) : Int) _ _ _ c H1 (by omega) (mid_shr i j (by omega) (by omega)) (by rw [hw, hw2]; exact gi_ hp) (by rw [hw, hw2]; exact hL.gl_ hl hp) (by rw [hw]; exact gi_ hh) (by rw [hw]; exact hL.gl_ hl hh) hN (fun h => hq (hlt.1 h))
        rw [hw, wrap_succ (by omega)] at st
        obtain ⟨j', H2, r2, h2, h3⟩ := ih ((i + j) / 2 + 1) j H1 (by omega) (by omega) hj hL1
        exact ⟨j', H2, RunsTo.loop st (by kernel_rfl) (gc_eq _ hF.len) r2 rfl (by kernel_rfl) (by kernel_rfl), h2, hF.trans h3⟩
    · rw [if_neg hij]
      exact ⟨j, H, RunsTo.loop_out (sy_t_2 0 db n (a : Int) (m : Int) (b : Int) cp H (mid : Int) (nn : Int) (i : Int) (j : Int) ((nn - 1 : Nat) : Int) (by omega)) (by simp) (by kernel_rfl) (by kernel_rfl), hL, Fr.refl _⟩
end
section
variable {db : Nat} {cp : HV} {f : Int → Int} {dom : Int → Prop} {K : Heap → Prop}
theorem sy_up (hc : Cmp db cp f dom K) (n : Nat) (hn : n ≤ 1000) (a m b : Int) (i : Nat) (hi : 1 ≤ i ∧ i ≤ n) : ∀ (d k : Nat) (l : List Int) (H : Heap), k + d = i - 1 → l.length = n → Ls db K dom l H →
    ∃ H', RunsTo Try.prog polS 72 (sub [0, 1, 0, 1, 1, 1, 0, 1, 0] B72) (sE db n a m b cp (.int .i64 (i : Int)) .undef .undef (.int .i64 (k : Int)) .undef .undef .undef .undef .undef .undef .undef .undef .undef .undef .undef) H
      (.exit 2) (polS.keys 72) (sE db n a m b cp (.int .i64 (i : Int)) .undef .undef (.int .i64 ((i - 1 : Nat) : Int)) .undef .undef .undef .undef .undef .undef .undef .undef .undef .undef .undef) H' ∧ Ls db K dom (mvUp d k l) H' ∧ Fd db H H' := by
  have w0 : IntKind.i64.wrap ((i : Int) - 1) = ((i - 1 : Nat) : Int) := by rw [wrapI64]; omega
  intro d
  induction d with
  | zero =>
    intro k l H hk hl hL
    have hk : k = i - 1 := by omega
    subst hk
    exact ⟨H, RunsTo.loop_out (sy_f_1 0 db n a m b cp H (i : Int) ((i - 1 : Nat) : Int) (by rw [w0]; omega)) (by simp) (by kernel_rfl) (by kernel_rfl), hL, Fd.refl _ _⟩
  | succ d ih =>
    intro k l H hk hl hL
    have w1 : IntKind.i64.wrap ((k : Int) + 1) = ((k + 1 : Nat) : Int) := by rw [wrapI64]; omega
    obtain ⟨s1, s2, s3, s4⟩ := hL.swp_ hc (i := k) (j := k + 1) (by omega) (by omega)
    rw [hl] at s1 s2
    have st := sy_f_0 0 db n a m b cp H (i : Int) (k : Int) _ _ _ _ (by rw [w0]; omega) (by rw [w1]; exact gi_ (by omega)) (by rw [w1]; exact hL.gl_ hl (by omega)) (gi_ (by omega)) (hL.gl_ hl (by omega)) (gi_ (by omega)) (by rw [Int.toNat_natCast]; exact s1) (by rw [w1]; exact gi_ (by omega)) (by rw [w1, Int.toNat_natCast]; exact s2)
    rw [w1] at st
    obtain ⟨H', r2, h2, h3⟩ := ih (k + 1) (swp l k (k + 1)) _ (by omega) (by rw [swp_len]; exact hl) s3
    exact ⟨H', RunsTo.loop st (by kernel_rfl) (gc_eq _ s4.len) r2 rfl (by kernel_rfl) (by kernel_rfl), by rw [mvUp]; exact h2, s4.trans h3⟩
end
section
variable {db : Nat} {cp : HV} {f : Int → Int} {dom : Int → Prop} {K : Heap → Prop}
theorem sy_dn (hc : Cmp db cp f dom K) (n : Nat) (hn : n ≤ 1000) (a m b : Int) (i : Nat) : ∀ (d k : Nat) (l : List Int) (H : Heap), k = i + d → k < n → l.length = n → Ls db K dom l H →
    ∃ H', RunsTo Try.prog polS 72 (sub [1, 0, 1, 0, 1, 1, 1, 0, 1, 0] B72) (sE db n a m b cp .undef .undef .undef .undef (.int .i64 (i : Int)) .undef .undef (.int .i64 (k : Int)) .undef .undef .undef .undef .undef .undef .undef) H
      (.exit 6) (polS.keys 72) (sE db n a m b cp .undef .undef .undef .undef (.int .i64 (i : Int)) .undef .undef (.int .i64 (i : Int)) .undef .undef .undef .undef .undef .undef .undef) H' ∧ Ls db K dom (mvDn d k l) H' ∧ Fd db H H' := by
  intro d
  induction d with
  | zero =>
    intro k l H hk hkn hl hL
    have hk : k = i := by omega
    subst hk
    exact ⟨H, RunsTo.loop_out (sy_m_1 0 db n a m b cp H (k : Int) (k : Int) (by omega)) (by simp) (by kernel_rfl) (by kernel_rfl), hL, Fd.refl _ _⟩
  | succ d ih =>
    intro k l H hk hkn hl hL
    have w1 : IntKind.i64.wrap ((k : Int) - 1) = ((k - 1 : Nat) : Int) := by rw [wrapI64]; omega
    obtain ⟨s1, s2, s3, s4⟩ := hL.swp_ hc (i := k) (j := k - 1) (by omega) (by omega)
    rw [hl] at s1 s2
    have st := sy_m_0 0 db n a m b cp H (i : Int) (k : Int) _ _ _ _ (by omega) (by rw [w1]; exact gi_ (by omega)) (by rw [w1]; exact hL.gl_ hl (by omega)) (gi_ hkn) (hL.gl_ hl hkn) (gi_ hkn) (by rw [Int.toNat_natCast]; exact s1) (by rw [w1]; exact gi_ (by omega)) (by rw [w1, Int.toNat_natCast]; exact s2)
    rw [w1] at st
    obtain ⟨H', r2, h2, h3⟩ := ih (k - 1) (swp l k (k - 1)) _ (by omega) (by omega) (by rw [swp_len]; exact hl) s3
    exact ⟨H', RunsTo.loop st (by kernel_rfl) (gc_eq _ s4.len) r2 rfl (by kernel_rfl) (by kernel_rfl), by rw [mvDn]; exact h2, s4.trans h3⟩
end
end Go.Proofs.Ytmhfkhlamnapdaa
end
section
open Go Go.HL
namespace Go.Proofs.Ytmhfkhlamnapdaa
theorem res72 : Try.f72.results.toList = [] := by kernel_rfl
section
variable {db : Nat} {cp : HV} {f : Int → Int} {dom : Int → Prop} {K : Heap → Prop}
theorem wsub {x y : Nat} (h : y ≤ x) (hx : x ≤ 100000) : IntKind.i64.wrap ((x : Int) - (y : Int)) = ((x - y : Nat) : Int) := by rw [wrapI64]; omega
end
section
variable {db : Nat} {cp : HV} {f : Int → Int} {dom : Int → Prop} {K : Heap → Prop}
theorem wadd {x y : Nat} (hx : x ≤ 100000) (hy : y ≤ 100000) : IntKind.i64.wrap ((x : Int) + (y : Int)) = ((x + y : Nat) : Int) := by rw [wrapI64]; omega
end
section
variable {db : Nat} {cp : HV} {f : Int → Int} {dom : Int → Prop} {K : Heap → Prop}
theorem sy_done {n : Nat} {a m b : Int} {X : X} {E : Env} {H H' : Heap} (t : RunsTo Try.prog polS 72 B72 [(0, .sl db 0 n none n 1), (1, .int .i64 a), (2, .int .i64 m), (3, .int .i64 b), (4, .func 67 [] [cp])] H X (polS.keys 72) E H') (hx : ∀ i, X ≠ .exit i) (hF : Fd db H H') :
    Cl 72 [.sl db 0 n none n 1, .int .i64 a, .int .i64 m, .int .i64 b, .func 67 [] [cp]] H (.tuple []) H' := by
  have hcl := CallsTo.shared (P := Try.prog) (pol := polS) (g := 72) (fn := Try.f72) (cd := B72) (args := [.sl db 0 n none n 1, .int .i64 a, .int .i64 m, .int .i64 b, .func 67 [] [cp]]) (v := .tuple []) (by kernel_rfl) (by kernel_rfl) (by kernel_rfl) (by kernel_rfl) t (by kernel_rfl) hx (by simp only [resultsV, res72, mapO])
  rw [gc_eq _ hF.len] at hcl
  exact hcl
end
section
variable {db : Nat} {cp : HV} {f : Int → Int} {dom : Int → Prop} {K : Heap → Prop}
theorem symM_call (hc : Cmp db cp f dom K) (n : Nat) (hn : n ≤ 1000) : ∀ (k a m b : Nat) (l : List Int) (H : Heap), b - a ≤ k → a < m → m < b → b ≤ n → l.length = n → Ls db K dom l H →
    ∃ H', Cl 72 [.sl db 0 n none n 1, .i (a : Int), .i (m : Int), .i (b : Int), .func 67 [] [cp]] H (.tuple []) H' ∧ Ls db K dom (symM f k a m b l) H' ∧ Fd db H H' := by
  intro k
  induction k with
  | zero => intro a m b l H h1 h2 h3; omega
  | succ k ih =>
    intro a m b l H hk ham hmb hbn hl hL
    rw [symM]
    by_cases c1 : m - a = 1
    · rw [if_pos c1]
      have a1 := sy_a_0 0 db n (a : Int) (m : Int) (b : Int) cp H (by rw [wsub (by omega) (by omega)]; omega)
      have b1 := sy_b_0 0 db n (a : Int) (m : Int) (b : Int) cp H
      have c2 := sy_c_0 0 db n (a : Int) (m : Int) (b : Int) cp H (m : Int)
      obtain ⟨j', H1, r1, hL1, hF1⟩ := sy_bs1 hc n hn a m b (by omega) hbn l hl (b - m) m b H (by omega) (by omega) hL
      have hbd := bs_bound (fun h => decide (f (l.getD a 0) < f (l.getD h 0))) (b - m) m b (by omega)
      generalize bs (fun h => decide (f (l.getD a 0) < f (l.getD h 0))) (b - m) m b = i at r1 hbd
      have e1 := sy_e_0 0 db n (a : Int) (m : Int) (b : Int) cp H1 (i : Int) (j' : Int) .undef
      obtain ⟨H2, r2, hL2, hF2⟩ := sy_up hc n hn (a : Int) (m : Int) (b : Int) i (by omega) (i - 1 - a) a l H1 (by omega) hl hL1
      have r2' := RunsTo.loop_in (e0 := sE db n a m b cp (.i (i : Int)) (.i (j' : Int)) .undef (.i (a : Int)) .undef .undef .undef .undef .undef .undef .undef .undef .undef .undef .undef) r2 (b := sub [0, 1, 0, 1, 1, 1, 0, 1, 0, 0] B72) (by kernel_rfl) (by kernel_rfl) (by kernel_rfl)
      have g1 := sy_g_0 0 db n (a : Int) (m : Int) (b : Int) cp H2 (i : Int) ((i - 1 : Nat) : Int)
      have t1 := RunsTo.seq e1 (RunsTo.block_exit (c := sub [0, 1, 0, 1, 1, 1, 0, 1] B72) r2' (by kernel_rfl)) (c := sub [0, 1, 0, 1, 1, 1, 0] B72) (by kernel_rfl) (by kernel_rfl)
      have t2 := RunsTo.seq t1 g1 (c := sub [0, 1, 0, 1, 1, 1] B72) (by kernel_rfl) (by kernel_rfl)
      have t3 := RunsTo.seq (RunsTo.block_exit (c := sub [0, 1, 0, 1, 1, 0] B72) r1 (by kernel_rfl)) t2 (c := sub [0, 1, 0, 1, 1] B72) (by kernel_rfl) (by kernel_rfl)
      have t4 := RunsTo.seq c2 t3 (c := sub [0, 1, 0, 1] B72) (by kernel_rfl) (by kernel_rfl)
      have t5 := RunsTo.seq b1 t4 (c := sub [0, 1, 0] B72) (by kernel_rfl) (by kernel_rfl)
      have t6 := RunsTo.seq a1 (RunsTo.cond (y := .tmp 28) (t := true) (c := sub [0, 1] B72) (a := sub [0, 1, 0] B72) (b := sub [0, 1, 1] B72) (by kernel_rfl) rfl t5) (c := sub [0] B72) (by kernel_rfl) (by kernel_rfl)
      have t7 := RunsTo.seq_out t6 (by simp) (c := B72) (b := sub [1] B72) (by kernel_rfl)
      exact ⟨H2, sy_done t7 (by simp) (hF1.fd.trans hF2), hL2, hF1.fd.trans hF2⟩
    · rw [if_neg c1]
      have a1 := sy_a_1 0 db n (a : Int) (m : Int) (b : Int) cp H (by rw [wsub (by omega) (by omega)]; omega)
      have first := fun (E' : Env) (H' : Heap) (X : X) (hx : RunsTo Try.prog polS 72 (sub [1] B72) (sE db n a m b cp .undef .undef .undef .undef .undef .undef .undef .undef .undef .undef .undef .undef .undef .undef .undef) H X (polS.keys 72) E' H') =>
        RunsTo.seq (RunsTo.seq a1 (RunsTo.cond (y := .tmp 28) (t := false) (c := sub [0, 1] B72) (a := sub [0, 1, 0] B72) (b := sub [0, 1, 1] B72) (K := polS.keys 72) (x := .normal) (E := sE db n a m b cp .undef .undef .undef .undef .undef .undef .undef .undef .undef .undef .undef .undef .undef .undef .undef) (by kernel_rfl) rfl (RunsTo.hint 1 60 [] fun kf hk => by
          obtain ⟨kf, rfl⟩ : ∃ n, kf = n + 1 := ⟨kf - 1, by omega⟩
          exact ⟨[], by kernel_rfl, Obls.nil⟩)) (c := sub [0] B72) (by kernel_rfl) (by kernel_rfl)) hx (c := B72) (by kernel_rfl) (by kernel_rfl)
      by_cases c2 : b - m = 1
      · rw [if_pos c2]
        have h1 := sy_h_0 0 db n (a : Int) (m : Int) (b : Int) cp H (by rw [wsub (by omega) (by omega)]; omega)
        have i1 := sy_i_0 0 db n (a : Int) (m : Int) (b : Int) cp H
        have j1 := sy_j_0 0 db n (a : Int) (m : Int) (b : Int) cp H (a : Int)
        obtain ⟨j', H1, r1, hL1, hF1⟩ := sy_bs2 hc n hn a m b (by omega) l hl (m - a) a m H (by omega) (by omega) hL
        have hbd := bs_bound (fun h => !decide (f (l.getD h 0) < f (l.getD m 0))) (m - a) a m (by omega)
        generalize bs (fun h => !decide (f (l.getD h 0) < f (l.getD m 0))) (m - a) a m = i at r1 hbd
        have e1 := sy_l_0 0 db n (a : Int) (m : Int) (b : Int) cp H1 (i : Int) (j' : Int) .undef
        obtain ⟨H2, r2, hL2, hF2⟩ := sy_dn hc n hn (a : Int) (m : Int) (b : Int) i (m - i) m l H1 (by omega) (by omega) hl hL1
        have r2' := RunsTo.loop_in (e0 := sE db n a m b cp .undef .undef .undef .undef (.i (i : Int)) (.i (j' : Int)) .undef (.i (m : Int)) .undef .undef .undef .undef .undef .undef .undef) r2 (b := sub [1, 0, 1, 0, 1, 1, 1, 0, 1, 0, 0] B72) (by kernel_rfl) (by kernel_rfl) (by kernel_rfl)
        have g1 := sy_n_0 0 db n (a : Int) (m : Int) (b : Int) cp H2 (i : Int) (i : Int)
        have t1 := RunsTo.seq e1 (RunsTo.block_exit (c := sub [1, 0, 1, 0, 1, 1, 1, 0, 1] B72) r2' (by kernel_rfl)) (c := sub [1, 0, 1, 0, 1, 1, 1, 0] B72) (by kernel_rfl) (by kernel_rfl)
        have t2 := RunsTo.seq t1 g1 (c := sub [1, 0, 1, 0, 1, 1, 1] B72) (by kernel_rfl) (by kernel_rfl)
        have t3 := RunsTo.seq (RunsTo.block_exit (c := sub [1, 0, 1, 0, 1, 1, 0] B72) r1 (by kernel_rfl)) t2 (c := sub [1, 0, 1, 0, 1, 1] B72) (by kernel_rfl) (by kernel_rfl)
        have t4 := RunsTo.seq j1 t3 (c := sub [1, 0, 1, 0, 1] B72) (by kernel_rfl) (by kernel_rfl)
        have t5 := RunsTo.seq i1 t4 (c := sub [1, 0, 1, 0] B72) (by kernel_rfl) (by kernel_rfl)
        have t6 := RunsTo.seq h1 (RunsTo.cond (y := .tmp 80) (t := true) (c := sub [1, 0, 1] B72) (a := sub [1, 0, 1, 0] B72) (b := sub [1, 0, 1, 1] B72) (by kernel_rfl) rfl t5) (c := sub [1, 0] B72) (by kernel_rfl) (by kernel_rfl)
        have t7 := RunsTo.seq_out t6 (by simp) (c := sub [1] B72) (b := sub [1, 1] B72) (by kernel_rfl)
        exact ⟨H2, sy_done (first _ _ _ t7) (by simp) (hF1.fd.trans hF2), hL2, hF1.fd.trans hF2⟩
      · rw [if_neg c2]
        dsimp only
        have h1 := sy_h_1 0 db n (a : Int) (m : Int) (b : Int) cp H (by rw [wsub (by omega) (by omega)]; omega)
        have second := fun (E' : Env) (H' : Heap) (X : X) (hx : RunsTo Try.prog polS 72 (sub [1, 1] B72) (sE db n a m b cp .undef .undef .undef .undef .undef .undef .undef .undef .undef .undef .undef .undef .undef .undef .undef) H X (polS.keys 72) E' H') =>
          RunsTo.seq (RunsTo.seq h1 (RunsTo.cond (y := .tmp 80) (t := false) (c := sub [1, 0, 1] B72) (a := sub [1, 0, 1, 0] B72) (b := sub [1, 0, 1, 1] B72) (K := polS.keys 72) (x := .normal) (E := sE db n a m b cp .undef .undef .undef .undef .undef .undef .undef .undef .undef .undef .undef .undef .undef .undef .undef) (by kernel_rfl) rfl (RunsTo.hint 1 60 [] fun kf hk => by
            obtain ⟨kf, rfl⟩ : ∃ n, kf = n + 1 := ⟨kf - 1, by omega⟩
            exact ⟨[], by kernel_rfl, Obls.nil⟩)) (c := sub [1, 0] B72) (by kernel_rfl) (by kernel_rfl)) hx (c := sub [1] B72) (by kernel_rfl) (by kernel_rfl)
        generalize hmid : (a + b) / 2 = mid
        have hw1 : IntKind.i64.wrap (((a + b) / 2 : Nat) : Int) = (mid : Int) := by rw [mid_i64 _ (by omega), hmid]
        have o1 := sy_o_0 0 db n (a : Int) (m : Int) (b : Int) cp H _ (mid_shr a b (by omega) (by omega))
        rw [hw1] at o1
        have p1 := sy_p_0 0 db n (a : Int) (m : Int) (b : Int) cp H (mid : Int)
        rw [wadd (by omega) (by omega)] at p1
        have q1 := sy_q_0 0 db n (a : Int) (m : Int) (b : Int) cp H (mid : Int) ((mid + m : Nat) : Int)
        have r1 : RunsTo Try.prog polS 72 (sub [1, 1, 1, 1, 1, 0] B72) (sE db n a m b cp .undef .undef .undef .undef .undef .undef .undef .undef (.i (mid : Int)) (.i ((mid + m : Nat) : Int)) (.i 0) (.i 0) .undef .undef .undef) H .normal (polS.keys 72) (sE db n a m b cp .undef .undef .undef .undef .undef .undef .undef .undef (.i (mid : Int)) (.i ((mid + m : Nat) : Int)) (.i (s0F m b mid a : Int)) (.i (r0F m mid : Int)) .undef .undef .undef) H := by
          by_cases hlt : mid < m
          · have := sy_r_0 0 db n (a : Int) (m : Int) (b : Int) cp H (mid : Int) ((mid + m : Nat) : Int) (by omega)
            rw [wsub (by omega) (by omega)] at this
            rw [s0F, r0F, if_pos hlt, if_pos hlt]
            exact this
          · have := sy_r_1 0 db n (a : Int) (m : Int) (b : Int) cp H (mid : Int) ((mid + m : Nat) : Int) (by omega)
            rw [s0F, r0F, if_neg hlt, if_neg hlt]
            exact this
        have hs0 : s0F m b mid a ≤ r0F m mid ∧ r0F m mid ≤ m ∧ a ≤ s0F m b mid a ∧ mid + m - s0F m b mid a ≤ b ∧ mid + m - r0F m mid ≥ m ∧ mid + m - r0F m mid ≥ mid ∧ s0F m b mid a ≤ mid + m ∧ r0F m mid ≤ mid := by
          unfold s0F r0F
          split <;> omega
        have s1 := sy_s_0 0 db n (a : Int) (m : Int) (b : Int) cp H (mid : Int) ((mid + m : Nat) : Int) (s0F m b mid a : Int) (r0F m mid : Int)
        have hwn : IntKind.i64.wrap (((mid + m : Nat) : Int) - 1) = ((mid + m - 1 : Nat) : Int) := by rw [wrapI64]; omega
        rw [hwn] at s1
        obtain ⟨j', H1, u1, hL1, hF1⟩ := sy_bs3 hc n hn a m b mid (mid + m) (by omega) l hl (s0F m b mid a) (r0F m mid) (fun c h1 h2 => by omega) (r0F m mid - s0F m b mid a) (s0F m b mid a) (r0F m mid) H (Nat.le_refl _) (Nat.le_refl _) (Nat.le_refl _) hL
        have hsF : sF f a m b l = bs (fun c => !decide (f (l.getD c 0) < f (l.getD (mid + m - 1 - c) 0))) (r0F m mid - s0F m b mid a) (s0F m b mid a) (r0F m mid) := by rw [sF, hmid]
        have hbd := bs_bound (fun c => !decide (f (l.getD c 0) < f (l.getD (mid + m - 1 - c) 0))) (r0F m mid - s0F m b mid a) (s0F m b mid a) (r0F m mid) hs0.1
        rw [← hsF] at u1 hbd
        generalize sF f a m b l = s at u1 hbd
        have v1 := sy_u_0 0 db n (a : Int) (m : Int) (b : Int) cp H1 (mid : Int) ((mid + m : Nat) : Int) (s : Int) (j' : Int) ((mid + m - 1 : Nat) : Int) .undef
        rw [wsub (by omega) (by omega)] at v1
        -- the rotation
        obtain ⟨H2, w1, hL2, hF2⟩ : ∃ H2, RunsTo Try.prog polS 72 (sub [1, 1, 1, 1, 1, 1, 1, 1, 1, 0] B72) (sE db n a m b cp .undef .undef .undef .undef .undef .undef .undef .undef (.i (mid : Int)) (.i ((mid + m : Nat) : Int)) (.i (s : Int)) (.i (j' : Int)) (.i ((mid + m - 1 : Nat) : Int)) .undef (.i ((mid + m - s : Nat) : Int))) H1 .normal (polS.keys 72) (sE db n a m b cp .undef .undef .undef .undef .undef .undef .undef .undef (.i (mid : Int)) (.i ((mid + m : Nat) : Int)) (.i (s : Int)) (.i (j' : Int)) (.i ((mid + m - 1 : Nat) : Int)) .undef (.i ((mid + m - s : Nat) : Int))) H2 ∧
            Ls db K dom (if s < m ∧ m < mid + m - s then rotate s m (mid + m - s) l else l) H2 ∧ Fd db H1 H2 := by
          by_cases h1 : s < m
          · by_cases h2 : m < mid + m - s
            · obtain ⟨H2, hcl, hL2, hF2⟩ := rotate_call hc (n := n) (a := s) (m := m) (b := mid + m - s) hn h1 h2 (by omega) hl hL1
              obtain ⟨N, hN⟩ := hcl.from
              rw [if_pos ⟨h1, h2⟩]
              exact ⟨H2, sy_v_0 N db n (a : Int) (m : Int) (b : Int) cp H1 (mid : Int) ((mid + m : Nat) : Int) (s : Int) (j' : Int) ((mid + m - 1 : Nat) : Int) .undef ((mid + m - s : Nat) : Int) H2 (by omega) (by omega) hN, hL2, hF2⟩
            · rw [if_neg (fun h => h2 h.2)]
              exact ⟨H1, sy_v_1 0 db n (a : Int) (m : Int) (b : Int) cp H1 (mid : Int) ((mid + m : Nat) : Int) (s : Int) (j' : Int) ((mid + m - 1 : Nat) : Int) .undef ((mid + m - s : Nat) : Int) (by omega) (by omega), hL1, Fd.refl _ _⟩
          · rw [if_neg (fun h => h1 h.1)]
            exact ⟨H1, sy_v_2 0 db n (a : Int) (m : Int) (b : Int) cp H1 (mid : Int) ((mid + m : Nat) : Int) (s : Int) (j' : Int) ((mid + m - 1 : Nat) : Int) .undef ((mid + m - s : Nat) : Int) (by omega), hL1, Fd.refl _ _⟩
        have hl2 : (if s < m ∧ m < mid + m - s then rotate s m (mid + m - s) l else l).length = n := by split; rw [rotate_len]; exact hl; exact hl
        generalize (if s < m ∧ m < mid + m - s then rotate s m (mid + m - s) l else l) = l2 at hL2 hl2
        -- the first half
        obtain ⟨H3, x1, hL3, hF3⟩ : ∃ H3, RunsTo Try.prog polS 72 (sub [1, 1, 1, 1, 1, 1, 1, 1, 1, 1, 0] B72) (sE db n a m b cp .undef .undef .undef .undef .undef .undef .undef .undef (.i (mid : Int)) (.i ((mid + m : Nat) : Int)) (.i (s : Int)) (.i (j' : Int)) (.i ((mid + m - 1 : Nat) : Int)) .undef (.i ((mid + m - s : Nat) : Int))) H2 .normal (polS.keys 72) (sE db n a m b cp .undef .undef .undef .undef .undef .undef .undef .undef (.i (mid : Int)) (.i ((mid + m : Nat) : Int)) (.i (s : Int)) (.i (j' : Int)) (.i ((mid + m - 1 : Nat) : Int)) .undef (.i ((mid + m - s : Nat) : Int))) H3 ∧
            Ls db K dom (if a < s ∧ s < mid then symM f k a s mid l2 else l2) H3 ∧ Fd db H2 H3 := by
          by_cases h1 : a < s
          · by_cases h2 : s < mid
            · obtain ⟨H3, hcl, hL3, hF3⟩ := ih a s mid l2 H2 (by omega) h1 h2 (by omega) hl2 hL2
              obtain ⟨N, hN⟩ := hcl.from
              rw [if_pos ⟨h1, h2⟩]
              exact ⟨H3, sy_w_0 N db n (a : Int) (m : Int) (b : Int) cp H2 (mid : Int) ((mid + m : Nat) : Int) (s : Int) (j' : Int) ((mid + m - 1 : Nat) : Int) .undef ((mid + m - s : Nat) : Int) H3 (by omega) (by omega) hN, hL3, hF3⟩
            · rw [if_neg (fun h => h2 h.2)]
              exact ⟨H2, sy_w_1 0 db n (a : Int) (m : Int) (b : Int) cp H2 (mid : Int) ((mid + m : Nat) : Int) (s : Int) (j' : Int) ((mid + m - 1 : Nat) : Int) .undef ((mid + m - s : Nat) : Int) (by omega) (by omega), hL2, Fd.refl _ _⟩
          · rw [if_neg (fun h => h1 h.1)]
            exact ⟨H2, sy_w_2 0 db n (a : Int) (m : Int) (b : Int) cp H2 (mid : Int) ((mid + m : Nat) : Int) (s : Int) (j' : Int) ((mid + m - 1 : Nat) : Int) .undef ((mid + m - s : Nat) : Int) (by omega), hL2, Fd.refl _ _⟩
        have hl3 : (if a < s ∧ s < mid then symM f k a s mid l2 else l2).length = n := by split; rw [symM_len]; exact hl2; exact hl2
        generalize (if a < s ∧ s < mid then symM f k a s mid l2 else l2) = l3 at hL3 hl3
        -- the other half
        obtain ⟨H4, y1, hL4, hF4⟩ : ∃ H4, RunsTo Try.prog polS 72 (sub [1, 1, 1, 1, 1, 1, 1, 1, 1, 1, 1] B72) (sE db n a m b cp .undef .undef .undef .undef .undef .undef .undef .undef (.i (mid : Int)) (.i ((mid + m : Nat) : Int)) (.i (s : Int)) (.i (j' : Int)) (.i ((mid + m - 1 : Nat) : Int)) .undef (.i ((mid + m - s : Nat) : Int))) H3 .normal (polS.keys 72) (sE db n a m b cp .undef .undef .undef .undef .undef .undef .undef .undef (.i (mid : Int)) (.i ((mid + m : Nat) : Int)) (.i (s : Int)) (.i (j' : Int)) (.i ((mid + m - 1 : Nat) : Int)) .undef (.i ((mid + m - s : Nat) : Int))) H4 ∧
            Ls db K dom (if mid < mid + m - s ∧ mid + m - s < b then symM f k mid (mid + m - s) b l3 else l3) H4 ∧ Fd db H3 H4 := by
          by_cases h1 : mid < mid + m - s
          · by_cases h2 : mid + m - s < b
            · obtain ⟨H4, hcl, hL4, hF4⟩ := ih mid (mid + m - s) b l3 H3 (by omega) h1 h2 hbn hl3 hL3
              obtain ⟨N, hN⟩ := hcl.from
              rw [if_pos ⟨h1, h2⟩]
              exact ⟨H4, sy_x_0 N db n (a : Int) (m : Int) (b : Int) cp H3 (mid : Int) ((mid + m : Nat) : Int) (s : Int) (j' : Int) ((mid + m - 1 : Nat) : Int) .undef ((mid + m - s : Nat) : Int) H4 (by omega) (by omega) hN, hL4, hF4⟩
            · rw [if_neg (fun h => h2 h.2)]
              exact ⟨H3, sy_x_1 0 db n (a : Int) (m : Int) (b : Int) cp H3 (mid : Int) ((mid + m : Nat) : Int) (s : Int) (j' : Int) ((mid + m - 1 : Nat) : Int) .undef ((mid + m - s : Nat) : Int) (by omega) (by omega), hL3, Fd.refl _ _⟩
          · rw [if_neg (fun h => h1 h.1)]
            exact ⟨H3, sy_x_2 0 db n (a : Int) (m : Int) (b : Int) cp H3 (mid : Int) ((mid + m : Nat) : Int) (s : Int) (j' : Int) ((mid + m - 1 : Nat) : Int) .undef ((mid + m - s : Nat) : Int) (by omega), hL3, Fd.refl _ _⟩
        have t1 := RunsTo.seq x1 y1 (c := sub [1, 1, 1, 1, 1, 1, 1, 1, 1, 1] B72) (by kernel_rfl) (by kernel_rfl)
        have t2 := RunsTo.seq w1 t1 (c := sub [1, 1, 1, 1, 1, 1, 1, 1, 1] B72) (by kernel_rfl) (by kernel_rfl)
        have t3 := RunsTo.seq v1 t2 (c := sub [1, 1, 1, 1, 1, 1, 1, 1] B72) (by kernel_rfl) (by kernel_rfl)
        have t4 := RunsTo.seq (RunsTo.block_exit (c := sub [1, 1, 1, 1, 1, 1, 1, 0] B72) u1 (by kernel_rfl)) t3 (c := sub [1, 1, 1, 1, 1, 1, 1] B72) (by kernel_rfl) (by kernel_rfl)
        have t5 := RunsTo.seq s1 t4 (c := sub [1, 1, 1, 1, 1, 1] B72) (by kernel_rfl) (by kernel_rfl)
        have t6 := RunsTo.seq r1 t5 (c := sub [1, 1, 1, 1, 1] B72) (by kernel_rfl) (by kernel_rfl)
        have t7 := RunsTo.seq q1 t6 (c := sub [1, 1, 1, 1] B72) (by kernel_rfl) (by kernel_rfl)
        have t8 := RunsTo.seq p1 t7 (c := sub [1, 1, 1] B72) (by kernel_rfl) (by kernel_rfl)
        have t9 := RunsTo.seq o1 t8 (c := sub [1, 1] B72) (by kernel_rfl) (by kernel_rfl)
        have hF := hF1.fd.trans (hF2.trans (hF3.trans hF4))
        exact ⟨H4, sy_done (first _ _ _ (second _ _ _ t9)) (by simp) hF, hL4, hF⟩
end
end Go.Proofs.Ytmhfkhlamnapdaa
end
section
open Go Go.HL
namespace Go.Proofs.Ytmhfkhlamnapdaa
theorem res69 : Try.f69.results.toList = [] := by kernel_rfl
theorem res66 : Try.f66.results.toList = [] := by kernel_rfl
def stab1 (f : Int → Int) (n : Nat) (l : List Int) : List Int := if 20 ≤ n then insertion f 20 n (insertion f 0 20 l) else insertion f 0 n l
def stable (f : Int → Int) (n : Nat) (l : List Int) : List Int := if 20 < n then symM f n 0 20 n (stab1 f n l) else stab1 f n l
theorem insertion_len (f : Int → Int) (a b : Nat) (l : List Int) : (insertion f a b l).length = l.length := insGo_len _ _ _ _ _
theorem stab1_len (f : Int → Int) (n : Nat) (l : List Int) : (stab1 f n l).length = l.length := by unfold stab1; split <;> simp [insertion_len]
theorem stable_len (f : Int → Int) (n : Nat) (l : List Int) : (stable f n l).length = l.length := by unfold stable; split <;> simp [symM_len, stab1_len]
section
variable {db : Nat} {cp : HV} {f : Int → Int} {dom : Int → Prop} {K : Heap → Prop}
theorem insertion_call' (hc : Cmp db cp f dom K) {n a b : Nat} (hn : n ≤ 1000) (hab : a ≤ b) (hb : b ≤ n) {l : List Int} {H : Heap} (hl : l.length = n) (hL : Ls db K dom l H) :
    ∃ H', Cl 71 [.sl db 0 n none n 1, .int .i64 (a : Int), .int .i64 (b : Int), .func 67 [] [cp]] H (.tuple []) H' ∧ Ls db K dom (insertion f a b l) H' ∧ Fd db H H' := by
  rcases Nat.lt_or_ge a b with h | h
  · exact insertion_call hc hn h hb hl hL
  · have e : a = b := by omega
    subst e
    have a1 := is_a_0 0 db n (a : Int) (a : Int) cp H
    rw [wrap_succ (by omega)] at a1
    have s1 := is_h_1 0 db n (a : Int) (a : Int) cp H ((a + 1 : Nat) : Int) (by omega)
    have r := RunsTo.loop_out (c := sub [1, 0] B71) (RunsTo.seq_out s1 (by simp) (c := sub [1, 0, 0] B71) (b := sub [1, 0, 0, 1] B71) (by kernel_rfl)) (by simp) (by kernel_rfl) (by kernel_rfl)
    have t1 := RunsTo.seq a1 (RunsTo.block_exit (c := sub [1] B71) r (by kernel_rfl)) (c := B71) (by kernel_rfl) (by kernel_rfl)
    have hcl := CallsTo.shared (P := Try.prog) (pol := polS) (g := 71) (fn := Try.f71) (cd := B71) (args := [.sl db 0 n none n 1, .int .i64 (a : Int), .int .i64 (a : Int), .func 67 [] [cp]]) (v := .tuple []) (by kernel_rfl) (by kernel_rfl) (by kernel_rfl) (by kernel_rfl) t1 (by kernel_rfl) (by simp) (by simp only [resultsV, res71, mapO])
    rw [gc_eq _ rfl] at hcl
    have : insertion f a a l = l := by unfold insertion; rw [show a - (a + 1) = 0 by omega]; rfl
    rw [this]
    exact ⟨H, hcl, hL, Fd.refl _ _⟩
end
section
variable {db : Nat} {cp : HV} {f : Int → Int} {dom : Int → Prop} {K : Heap → Prop}
abbrev stE (db n : Nat) (cp : HV) (w : Int) (v7 v8 v9 : HV) : Env := env69 (.sl db 0 n none n 1) (.int .i64 (n : Int)) (.func 67 [] [cp]) (.int .i64 w) v7 v8 v9
end
section
variable {db : Nat} {cp : HV} {f : Int → Int} {dom : Int → Prop} {K : Heap → Prop}
theorem stable_call (hc : Cmp db cp f dom K) {n : Nat} (hn : n ≤ 39) {l : List Int} {H : Heap} (hl : l.length = n) (hL : Ls db K dom l H) :
    ∃ H', Cl 69 [.sl db 0 n none n 1, .int .i64 (n : Int), .func 67 [] [cp]] H (.tuple []) H' ∧ Ls db K dom (stable f n l) H' ∧ Fd db H H' := by
  have a1 := st_a_0 0 db n (n : Int) cp H
  have b1 := st_b_0 0 db n (n : Int) cp H 20
  have done : ∀ E H', RunsTo Try.prog polS 69 (sub [1, 1] B69) (stE db n cp 20 (.int .i64 0) (.int .i64 20) .undef) H .normal (polS.keys 69) E H' → Fd db H H' → Cl 69 [.sl db 0 n none n 1, .int .i64 (n : Int), .func 67 [] [cp]] H (.tuple []) H' := by
    intro E H' t hF
    have t2 := RunsTo.seq a1 (RunsTo.seq b1 t (c := sub [1] B69) (by kernel_rfl) (by kernel_rfl)) (c := B69) (by kernel_rfl) (by kernel_rfl)
    have hcl := CallsTo.shared (P := Try.prog) (pol := polS) (g := 69) (fn := Try.f69) (cd := B69) (args := [.sl db 0 n none n 1, .int .i64 (n : Int), .func 67 [] [cp]]) (v := .tuple []) (by kernel_rfl) (by kernel_rfl) (by kernel_rfl) (by kernel_rfl) t2 (by kernel_rfl) (by simp) (by simp only [resultsV, res69, mapO])
    rw [gc_eq _ hF.len] at hcl
    exact hcl
  have w40 : IntKind.i64.wrap (20 + 20) = 40 := by decide
  have w2 : IntKind.i64.wrap (2 * 20) = 40 := by decide
  have w3 : IntKind.i64.wrap (20 * 2) = 40 := by decide
  have w4 : IntKind.i64.wrap (0 + 20) = 20 := by decide
  by_cases c1 : 20 ≤ n
  · obtain ⟨H1, hcl1, hL1, hF1⟩ := insertion_call' hc (n := n) (a := 0) (b := 20) (by omega) (by omega) c1 hl hL
    obtain ⟨N1, hN1⟩ := hcl1.from
    have s1 := st_c_0 N1 db n (n : Int) cp H 20 0 20 H1 (by omega) hN1
    rw [w40] at s1
    have s2 := st_c_1 0 db n (n : Int) cp H1 20 20 40 (by omega)
    have r1 := RunsTo.loop (c := sub [1, 1, 0, 0] B69) s1 (by kernel_rfl) (gc_eq _ hF1.len) (RunsTo.loop_out (c := sub [1, 1, 0, 0] B69) s2 (by simp) (by kernel_rfl) (by kernel_rfl)) rfl (by kernel_rfl) (by kernel_rfl)
    obtain ⟨H2, hcl2, hL2, hF2⟩ := insertion_call' hc (n := n) (a := 20) (b := n) (by omega) c1 (by omega) (by rw [insertion_len]; exact hl) hL1
    obtain ⟨N2, hN2⟩ := hcl2.from
    have d1 := st_d_0 N2 db n (n : Int) cp H1 20 20 40 H2 hN2
    have hst : stab1 f n l = insertion f 20 n (insertion f 0 20 l) := if_pos c1
    rw [← hst] at hL2
    by_cases c2 : 20 < n
    · obtain ⟨H3, hcl3, hL3, hF3⟩ := symM_call hc n (by omega) n 0 20 n (stab1 f n l) H2 (by omega) (by omega) c2 (by omega) (by rw [stab1_len]; exact hl) hL2
      obtain ⟨N3, hN3⟩ := hcl3.from
      have e1 := st_e_0 0 db n (n : Int) cp H2 20 .undef .undef (by omega)
      have f1 := st_f_0 0 db n (n : Int) cp H2 20 .undef .undef
      rw [w2] at f1
      have g1 := st_g_1 0 db n (n : Int) cp H2 20 0 40 (by omega)
      have h1 := st_h_0 N3 db n (n : Int) cp H2 20 0 40 H3 (by rw [w4]; omega) (by rw [w4]; exact hN3)
      rw [w3, w4] at h1
      have e2 := st_e_1 0 db n (n : Int) cp H3 40 .undef .undef (by omega)
      have u1 := RunsTo.loop_out (c := sub [1, 1, 1, 1, 0, 0, 1, 0, 1, 0, 0] B69) g1 (by simp) (by kernel_rfl) (by kernel_rfl)
      have u2 := RunsTo.seq (RunsTo.block_exit (c := sub [1, 1, 1, 1, 0, 0, 1, 0, 1, 0] B69) u1 (by kernel_rfl)) h1 (c := sub [1, 1, 1, 1, 0, 0, 1, 0, 1] B69) (by kernel_rfl) (by kernel_rfl)
      have u3 := RunsTo.seq f1 u2 (c := sub [1, 1, 1, 1, 0, 0, 1, 0] B69) (by kernel_rfl) (by kernel_rfl)
      have u4 := RunsTo.seq e1 (RunsTo.block_normal (i := 3) (c := sub [1, 1, 1, 1, 0, 0, 1] B69) u3 (by kernel_rfl)) (c := sub [1, 1, 1, 1, 0, 0] B69) (by kernel_rfl) (by kernel_rfl)
      have u5 := RunsTo.loop_out (c := sub [1, 1, 1, 1, 0] B69) (RunsTo.seq_out e2 (by simp) (c := sub [1, 1, 1, 1, 0, 0] B69) (b := sub [1, 1, 1, 1, 0, 0, 1] B69) (by kernel_rfl)) (by simp) (by kernel_rfl) (by kernel_rfl)
      have u6 := RunsTo.loop (c := sub [1, 1, 1, 1, 0] B69) u4 (by kernel_rfl) (gc_eq _ hF3.len) u5 rfl (by kernel_rfl) (by kernel_rfl)
      have u7 := RunsTo.loop_in (e0 := stE db n cp 20 (.int .i64 20) (.int .i64 40) .undef) u6 (b := sub [1, 1, 1, 1, 0, 0] B69) (by kernel_rfl) (by kernel_rfl) (by kernel_rfl)
      have t1 := RunsTo.seq d1 (RunsTo.block_exit (c := sub [1, 1, 1, 1] B69) u7 (by kernel_rfl)) (c := sub [1, 1, 1] B69) (by kernel_rfl) (by kernel_rfl)
      have t2 := RunsTo.seq (RunsTo.block_exit (c := sub [1, 1, 0] B69) r1 (by kernel_rfl)) t1 (c := sub [1, 1] B69) (by kernel_rfl) (by kernel_rfl)
      have hF := hF1.trans (hF2.trans hF3)
      exact ⟨H3, done _ _ t2 hF, by rw [stable, if_pos c2]; exact hL3, hF⟩
    · have e2 := st_e_1 0 db n (n : Int) cp H2 20 .undef .undef (by omega)
      have u5 := RunsTo.loop_out (c := sub [1, 1, 1, 1, 0] B69) (RunsTo.seq_out e2 (by simp) (c := sub [1, 1, 1, 1, 0, 0] B69) (b := sub [1, 1, 1, 1, 0, 0, 1] B69) (by kernel_rfl)) (by simp) (by kernel_rfl) (by kernel_rfl)
      have u7 := RunsTo.loop_in (e0 := stE db n cp 20 (.int .i64 20) (.int .i64 40) .undef) u5 (b := sub [1, 1, 1, 1, 0, 0] B69) (by kernel_rfl) (by kernel_rfl) (by kernel_rfl)
      have t1 := RunsTo.seq d1 (RunsTo.block_exit (c := sub [1, 1, 1, 1] B69) u7 (by kernel_rfl)) (c := sub [1, 1, 1] B69) (by kernel_rfl) (by kernel_rfl)
      have t2 := RunsTo.seq (RunsTo.block_exit (c := sub [1, 1, 0] B69) r1 (by kernel_rfl)) t1 (c := sub [1, 1] B69) (by kernel_rfl) (by kernel_rfl)
      have hF := hF1.trans hF2
      exact ⟨H2, done _ _ t2 hF, by rw [stable, if_neg c2]; exact hL2, hF⟩
  · have s2 := st_c_1 0 db n (n : Int) cp H 20 0 20 (by omega)
    have r1 := RunsTo.loop_out (c := sub [1, 1, 0, 0] B69) s2 (by simp) (by kernel_rfl) (by kernel_rfl)
    obtain ⟨H2, hcl2, hL2, hF2⟩ := insertion_call' hc (n := n) (a := 0) (b := n) (by omega) (by omega) (by omega) hl hL
    obtain ⟨N2, hN2⟩ := hcl2.from
    have d1 := st_d_0 N2 db n (n : Int) cp H 20 0 20 H2 hN2
    have hst : stab1 f n l = insertion f 0 n l := if_neg c1
    rw [← hst] at hL2
    have e2 := st_e_1 0 db n (n : Int) cp H2 20 .undef .undef (by omega)
    have u5 := RunsTo.loop_out (c := sub [1, 1, 1, 1, 0] B69) (RunsTo.seq_out e2 (by simp) (c := sub [1, 1, 1, 1, 0, 0] B69) (b := sub [1, 1, 1, 1, 0, 0, 1] B69) (by kernel_rfl)) (by simp) (by kernel_rfl) (by kernel_rfl)
    have u7 := RunsTo.loop_in (e0 := stE db n cp 20 (.int .i64 0) (.int .i64 20) .undef) u5 (b := sub [1, 1, 1, 1, 0, 0] B69) (by kernel_rfl) (by kernel_rfl) (by kernel_rfl)
    have t1 := RunsTo.seq d1 (RunsTo.block_exit (c := sub [1, 1, 1, 1] B69) u7 (by kernel_rfl)) (c := sub [1, 1, 1] B69) (by kernel_rfl) (by kernel_rfl)
    have t2 := RunsTo.seq (RunsTo.block_exit (c := sub [1, 1, 0] B69) r1 (by kernel_rfl)) t1 (c := sub [1, 1] B69) (by kernel_rfl) (by kernel_rfl)
    exact ⟨H2, done _ _ t2 hF2, by rw [stable, if_neg (by omega)]; exact hL2, hF2⟩
end
section
variable {db : Nat} {cp : HV} {f : Int → Int} {dom : Int → Prop} {K : Heap → Prop}
theorem sort_call (hc : Cmp db cp f dom K) {n : Nat} (hn : n ≤ 39) {l : List Int} {H : Heap} (hl : l.length = n) (hL : Ls db K dom l H) :
    ∃ H', Cl 66 [.sl db 0 n none n 1, .func 67 [] [cp]] H (.tuple []) H' ∧ Ls db K dom (stable f n l) H' ∧ Fd db H H' := by
  obtain ⟨H', hcl, hL', hF⟩ := stable_call hc hn hl hL
  obtain ⟨N, hN⟩ := hcl.from
  have t := so_a_0 N db n cp H H' hN
  have hcl := CallsTo.shared (P := Try.prog) (pol := polS) (g := 66) (fn := Try.f66) (cd := B66) (args := [.sl db 0 n none n 1, .func 67 [] [cp]]) (v := .tuple []) (by kernel_rfl) (by kernel_rfl) (by kernel_rfl) (by kernel_rfl) t (by kernel_rfl) (by simp) (by simp only [resultsV, res66, mapO])
  rw [gc_eq _ hF.len] at hcl
  exact ⟨H', hcl, hL', hF⟩
end
end Go.Proofs.Ytmhfkhlamnapdaa
end
section
open Go Go.HL
namespace Go.Proofs.Ytmhfkhlamnapdaa
def lkG (P : Program) (T : TypeId) (H : Heap) (b : Nat) (k : HV) (ok : Bool) : Option (HV × Heap) :=
  match H[b]? with
  | some (.map ks vs _) => (lookV P T ks vs k ok).map fun v => (v, H)
  | _ => none
theorem u70 : Try.prog.underlying 70 = some (.map 33 3) := by kernel_rfl
theorem z3q : tyZero Try.prog 3 = some (.int .i64 0) := by kernel_rfl
theorem key33 (p : Int × Int) : keyTy Try.prog 33 (encP p) = true := by kernel_rfl
abbrev valT (T : Int → Int → Int) (k : Int × Int) : HV := .int .i64 (T k.1 k.2)
theorem keyEq_pair (p q : Int × Int) : keyEq (encP p) (encP q) = some (decide (p = q)) := by
  obtain ⟨a, b⟩ := p
  obtain ⟨c, d⟩ := q
  simp only [encP, keyEq, aggEq, scEq, if_true, Bool.and_true, Prod.mk.injEq]
  by_cases h1 : a = c <;> by_cases h2 : b = d <;> simp [h1, h2]
theorem findK_pairs (x : Int × Int) : ∀ (ks : List (Int × Int)) (i : Nat), ∃ r, findK (encP x) (ks.map encP) i = some r ∧ ((x ∈ ks ∧ ∃ j, r = some (i + j) ∧ ks[j]? = some x) ∨ (x ∉ ks ∧ r = none))
  | [], i => ⟨none, rfl, .inr ⟨by simp, rfl⟩⟩
  | k :: ks, i => by
    by_cases e : x = k
    · subst e
      refine ⟨some i, ?_, .inl ⟨by simp, 0, rfl, by simp⟩⟩
      simp only [List.map_cons, findK, keyEq_pair, decide_true]
    · obtain ⟨r, h1, h2⟩ := findK_pairs x ks (i + 1)
      refine ⟨r, ?_, ?_⟩
      · simp only [List.map_cons, findK, keyEq_pair, decide_eq_false e]
        exact h1
      · rcases h2 with ⟨h3, j, h4, h5⟩ | ⟨h3, h4⟩
        · exact .inl ⟨by simp [h3], j + 1, by rw [h4]; congr 1; omega, by simpa using h5⟩
        · exact .inr ⟨by simp [h3, e], h4⟩
theorem mxs_le {m : Nat} : ∀ {H : Heap}, mxs H ≤ m ↔ ∀ B ∈ H, B.mx ≤ m
  | [] => by simp [mxs]
  | B :: H => by
    have := mxs_le (m := m) (H := H)
    simp only [mxs, List.mem_cons, forall_eq_or_imp, ← this]
    omega
structure Mem (adj : List (List Nat)) (T : Int → Int → Int) (H : Heap) : Prop where
  near : H[0]? = some (.arr 1 (adj.map rowO) true 0)
  memo : ∃ ks : List (Int × Int), H[1]? = some (.map (ks.map encP) (ks.map (valT T)) 0)
  rf : sameH H H = true
  mx : mxs H ≤ H.length
section
variable {adj : List (List Nat)} {T : Int → Int → Int} {H : Heap}
theorem Mem.two (h : Mem adj T H) : 2 ≤ H.length := by
  obtain ⟨ks, hk⟩ := h.memo
  have := lt_of_get hk
  omega
end
section
variable {adj : List (List Nat)} {T : Int → Int → Int} {H : Heap}
theorem Mem.lk (h : Mem adj T H) (k : Int × Int) : ∃ b : Bool, lkG Try.prog 70 H 1 (encP k) true = some (.tuple [.int .i64 (if b then T k.1 k.2 else 0), .bool b], H) ∧ (b = true → lkG Try.prog 70 H 1 (encP k) false = some (valT T k, H)) := by
  obtain ⟨ks, hm⟩ := h.memo
  obtain ⟨r, h1, h2⟩ := findK_pairs k ks 0
  have hk := key33 k
  have hz := z3q
  rcases h2 with ⟨h3, j, rfl, h5⟩ | ⟨h3, rfl⟩
  · have hj : (ks.map (valT T))[0 + j]? = some (valT T k) := by rw [Nat.zero_add, List.getElem?_map, h5]; rfl
    refine ⟨true, ?_, fun _ => ?_⟩
    · simp only [lkG, hm, lookV, u70, hk, if_true, h1, hj, Option.map]
    · simp only [lkG, hm, lookV, u70, hk, if_true, h1, hj, Option.map, Bool.false_eq_true, if_false]
  · refine ⟨false, ?_, fun h => absurd h (by simp)⟩
    simp only [lkG, hm, lookV, u70, hk, if_true, h1, hz]
    rfl
end
section
variable {adj : List (List Nat)} {T : Int → Int → Int} {H : Heap}
theorem same_val (T : Int → Int → Int) (k : Int × Int) : same (valT T k) (valT T k) = true := by simp [same]
end
section
variable {adj : List (List Nat)} {T : Int → Int → Int} {H : Heap}
theorem same_encP (k : Int × Int) : same (encP k) (encP k) = true := by simp [encP, same, sameL]
end
section
variable {adj : List (List Nat)} {T : Int → Int → Int} {H : Heap}
theorem same_map (T : Int → Int → Int) (ks : List (Int × Int)) : sameH [.map (ks.map encP) (ks.map (valT T)) 0] [.map (ks.map encP) (ks.map (valT T)) 0] = true := by
  have e1 : sameL (ks.map encP) (ks.map encP) = true := sameL_all fun v hv => by
    obtain ⟨k, _, rfl⟩ := List.mem_map.1 hv
    exact same_encP k
  have e2 : sameL (ks.map (valT T)) (ks.map (valT T)) = true := sameL_all fun v hv => by
    obtain ⟨k, _, rfl⟩ := List.mem_map.1 hv
    exact same_val T k
  simp only [sameH, e1, e2, beq_self_eq_true, Bool.and_self]
end
section
variable {adj : List (List Nat)} {T : Int → Int → Int} {H : Heap}
theorem Mem.set (h : Mem adj T H) {k : Nat} {B : Blk} (h1 : 2 ≤ k) (hB : sameH [B] [B] = true) (hm : B.mx ≤ H.length) : Mem adj T (H.set k B) := by
  obtain ⟨ks, hk⟩ := h.memo
  refine ⟨by rw [List.getElem?_set_ne (by omega)]; exact h.near, ⟨ks, by rw [List.getElem?_set_ne (by omega)]; exact hk⟩, sameH_set h.rf hB, ?_⟩
  rw [List.length_set, mxs_le]
  intro C hC
  rcases List.mem_or_eq_of_mem_set hC with hC | rfl
  · exact mxs_le.1 h.mx C hC
  · exact hm
end
section
variable {adj : List (List Nat)} {T : Int → Int → Int} {H : Heap}
theorem Mem.app (h : Mem adj T H) {B : Blk} (hB : sameH [B] [B] = true) (hm : B.mx ≤ H.length + 1) : Mem adj T (H ++ [B]) := by
  obtain ⟨ks, hk⟩ := h.memo
  have h2 := h.two
  refine ⟨by rw [List.getElem?_append_left (by omega)]; exact h.near, ⟨ks, by rw [List.getElem?_append_left (by omega)]; exact hk⟩, sameH_app h.rf hB, ?_⟩
  rw [List.length_append, mxs_le]
  intro C hC
  rcases List.mem_append.1 hC with hC | hC
  · have := mxs_le.1 h.mx C hC; simp; omega
  · rw [List.mem_singleton.1 hC]; simpa using hm
end
section
variable {adj : List (List Nat)} {T : Int → Int → Int} {H : Heap}
theorem Mem.upd (h : Mem adj T H) (k : Int × Int) : ∃ H', updV Try.prog false 70 (.map 1) (encP k) (valT T k) H = some H' ∧ Mem adj T H' ∧ Fr H H' ∧ lkG Try.prog 70 H' 1 (encP k) false = some (valT T k, H') ∧ ∀ j, j ≠ 1 → H'[j]? = H[j]? := by
  obtain ⟨ks, hm⟩ := h.memo
  obtain ⟨r, h1, h2⟩ := findK_pairs k ks 0
  have hk := key33 k
  have h1l := lt_of_get hm
  have key : ∀ ks' : List (Int × Int), k ∈ ks' → updV Try.prog false 70 (.map 1) (encP k) (valT T k) H = some (H.set 1 (.map (ks'.map encP) (ks'.map (valT T)) 0)) → ∃ H', updV Try.prog false 70 (.map 1) (encP k) (valT T k) H = some H' ∧ Mem adj T H' ∧ Fr H H' ∧ lkG Try.prog 70 H' 1 (encP k) false = some (valT T k, H') ∧ ∀ j, j ≠ 1 → H'[j]? = H[j]? := by
    intro ks' hin hu
    have hM : Mem adj T (H.set 1 (.map (ks'.map encP) (ks'.map (valT T)) 0)) := by
      refine ⟨by rw [List.getElem?_set_ne (by omega)]; exact h.near, ⟨ks', List.getElem?_set_self h1l⟩, sameH_set h.rf (same_map T ks'), ?_⟩
      rw [List.length_set, mxs_le]
      intro C hC
      rcases List.mem_or_eq_of_mem_set hC with hC | rfl
      · exact mxs_le.1 h.mx C hC
      · exact Nat.zero_le _
    have hs : ∀ j, j ≠ 1 → (H.set 1 (.map (ks'.map encP) (ks'.map (valT T)) 0))[j]? = H[j]? := fun j hj => List.getElem?_set_ne (by omega)
    refine ⟨_, hu, hM, ⟨by simp, hs⟩, ?_, hs⟩
    obtain ⟨r, h1, h2⟩ := findK_pairs k ks' 0
    rcases h2 with ⟨h3, j, rfl, h5⟩ | ⟨h3, rfl⟩
    · have hj : (ks'.map (valT T))[0 + j]? = some (valT T k) := by rw [Nat.zero_add, List.getElem?_map, h5]; rfl
      simp only [lkG, List.getElem?_set_self h1l, lookV, u70, hk, if_true, h1, hj, Option.map, Bool.false_eq_true, if_false]
    · exact absurd hin h3
  rcases h2 with ⟨h3, j, rfl, h5⟩ | ⟨h3, rfl⟩
  · refine key ks h3 ?_
    simp only [updV, u70, hk, if_true, hm, h1, Bool.false_eq_true, if_false]
    have hs : (ks.map (valT T)).set (0 + j) (valT T k) = ks.map (valT T) := by
      apply List.ext_getElem?
      intro i
      rw [List.getElem?_set, List.length_map]
      have hjl := lt_of_get h5
      by_cases e : 0 + j = i
      · subst e
        rw [if_pos rfl, if_pos (by omega), Nat.zero_add, List.getElem?_map, h5]; rfl
      · rw [if_neg e]
    simp only [hs, bnd, Nat.max_zero]
  · refine key (ks ++ [k]) (by simp) ?_
    have ha : (aggEq (cellsOf (encP k)) (cellsOf (encP k))).isSome = true := by simp [encP, cellsOf, aggEq, scEq]
    simp only [updV, u70, hk, if_true, hm, h1, ha, Bool.false_eq_true, if_false, bnd, Nat.max_zero, List.map_append, List.map_cons, List.map_nil]
end
section
variable {adj : List (List Nat)} {T : Int → Int → Int} {H : Heap}
structure Gr (adj : List (List Nat)) (T : Int → Int → Int) (H H' : Heap) : Prop where
  mem : Mem adj T H'
  len : H.length ≤ H'.length
  same : ∀ k, k ≠ 1 → k < H.length → H'[k]? = H[k]?
  mx : mxs H' ≤ H.length
end
section
variable {adj : List (List Nat)} {T : Int → Int → Int} {H : Heap}
theorem Mem.take (h : Mem adj T H) {m : Nat} (h2 : 2 ≤ m) (hm : m ≤ H.length) (hx : mxs H ≤ m) : Mem adj T (H.take m) := by
  obtain ⟨ks, hk⟩ := h.memo
  refine ⟨by rw [List.getElem?_take, if_pos (by omega)]; exact h.near, ⟨ks, by rw [List.getElem?_take, if_pos (by omega)]; exact hk⟩, sameH_take h.rf, ?_⟩
  rw [List.length_take, mxs_le]
  intro C hC
  have := mxs_le.1 hx C (List.mem_of_mem_take hC)
  omega
end
section
variable {adj : List (List Nat)} {T : Int → Int → Int} {H : Heap}
theorem Gr.cut {H' : Heap} (h : Gr adj T H H') (h2 : 2 ≤ H.length) {r : Nat} (hr : r ≤ H.length) : Mem adj T (gc H.length r H') ∧ (gc H.length r H').length = H.length ∧ ∀ k, k ≠ 1 → (gc H.length r H')[k]? = H[k]? := by
  have e : gc H.length r H' = H'.take H.length := by
    have := h.mx
    unfold gc
    congr 1
    omega
  rw [e]
  refine ⟨h.mem.take h2 h.len h.mx, by rw [List.length_take]; have := h.len; omega, fun k hk => ?_⟩
  rw [List.getElem?_take]
  by_cases c : k < H.length
  · rw [if_pos c]; exact h.same k hk c
  · rw [if_neg c, List.getElem?_eq_none (by omega)]
end
section
variable {adj : List (List Nat)} {T : Int → Int → Int} {H : Heap}
theorem Gr.fr {H' : Heap} (h : Gr adj T H H') (h2 : 2 ≤ H.length) {r : Nat} (hr : r ≤ H.length) : Mem adj T (gc H.length r H') ∧ Fr H (gc H.length r H') := by
  obtain ⟨a, b, c⟩ := h.cut h2 hr
  exact ⟨a, b, c⟩
end
end Go.Proofs.Ytmhfkhlamnapdaa
end
section
open Go Go.HL
namespace Go.Proofs.Ytmhfkhlamnapdaa
set_option maxRecDepth 100000
noncomputable def B25 : Code := Try.f25.body.getD .skip
abbrev env25 (v0 v1 v2 v6 v7 v8 v9 : HV) : Env := [(0, v0), (1, v1), (2, v2), (6, v6), (7, v7), (8, v8), (9, v9)]
theorem fr_a_0 (N : Nat) (n : Int) (lc : List HV) (x : Int) : RunsTo Try.prog polS 25 (sub [0] B25) [(0, .i n), (1, .imm .arg 2 lc), (2, .i x)] [] .normal (polS.keys 25) (env25 (.i n) (.imm .arg 2 lc) (.i x) (.imm .lit 1 []) (.i 0) .undef .undef) [] :=
  RunsTo.hin N 60 [] fun kf hk => ⟨_, by kernel_rfl, .nil⟩
theorem fr_b_0 (N : Nat) (n : Int) (lc : List HV) (x : Int) (m : Nat) (rows : List HV) (g0 : ∀ kf, callN Try.prog polS (kf + 1) 46 [.i n, .imm .arg 2 lc] [] = some (.tuple [.agg [.sl 0 0 m none m 1, .map 1], .bool true], [.arr 1 rows true 0, .map [] [] 0])) : RunsTo Try.prog polS 25 (sub [1, 0] B25) (env25 (.i n) (.imm .arg 2 lc) (.i x) (.imm .lit 1 []) (.i 0) .undef .undef) [] .normal (polS.keys 25) (env25 (.i n) (.imm .arg 2 lc) (.i x) (.imm .lit 1 []) (.i 0) (.ptr 2 0 0 1) (.bool true)) [.arr 1 rows true 0, .map [] [] 0, .arr 2 [.agg [.sl 0 0 m none m 1, .map 1]] true 2] :=
  RunsTo.hin N 60 [⟨1, 2, .tuple [.agg [.sl 0 0 m none m 1, .map 1], .bool true], [.arr 1 rows true 0, .map [] [] 0]⟩] fun kf hk => ⟨_, by kernel_rfl, (oC (g0 kf) .nil)⟩
theorem fr_b_1 (N : Nat) (n : Int) (lc : List HV) (x : Int) (m : Nat) (rows : List HV) (g0 : ∀ kf, callN Try.prog polS (kf + 1) 46 [.i n, .imm .arg 2 lc] [] = some (.tuple [.agg [.sl 0 0 m none m 1, .map 1], .bool false], [.arr 1 rows true 0, .map [] [] 0])) : RunsTo Try.prog polS 25 (sub [1, 0] B25) (env25 (.i n) (.imm .arg 2 lc) (.i x) (.imm .lit 1 []) (.i 0) .undef .undef) [] .normal (polS.keys 25) (env25 (.i n) (.imm .arg 2 lc) (.i x) (.imm .lit 1 []) (.i 0) (.ptr 2 0 0 1) (.bool false)) [.arr 1 rows true 0, .map [] [] 0, .arr 2 [.agg [.sl 0 0 m none m 1, .map 1]] true 2] :=
  RunsTo.hin N 60 [⟨1, 2, .tuple [.agg [.sl 0 0 m none m 1, .map 1], .bool false], [.arr 1 rows true 0, .map [] [] 0]⟩] fun kf hk => ⟨_, by kernel_rfl, (oC (g0 kf) .nil)⟩
theorem fr_b_2 (N : Nat) (n : Int) (lc : List HV) (x : Int)(g0 : ∀ kf, callN Try.prog polS (kf + 1) 46 [.i n, .imm .arg 2 lc] [] = some (.tuple [.agg [.sl 0 0 0 none 0 0, .nilmap], .bool false], [.arr 0 [] true 0])) : RunsTo Try.prog polS 25 (sub [1, 0] B25) (env25 (.i n) (.imm .arg 2 lc) (.i x) (.imm .lit 1 []) (.i 0) .undef .undef) [] .normal (polS.keys 25) (env25 (.i n) (.imm .arg 2 lc) (.i x) (.imm .lit 1 []) (.i 0) (.ptr 1 0 0 1) (.bool false)) [.arr 0 [] true 0, .arr 2 [.agg [.sl 0 0 0 none 0 0, .nilmap]] true 1] :=
  RunsTo.hin N 60 [⟨1, 2, .tuple [.agg [.sl 0 0 0 none 0 0, .nilmap], .bool false], [.arr 0 [] true 0]⟩] fun kf hk => ⟨_, by kernel_rfl, (oC (g0 kf) .nil)⟩
theorem fr_c_0 (N : Nat) (n : Int) (lc : List HV) (x : Int) (m : Nat) (rows : List HV)(g0 : ∀ kf, callN Try.prog polS (kf + 1) 49 [.i x, .i 0, .i (IntKind.i64.wrap (n - 1))] [.arr 1 rows true 0, .map [] [] 0, .arr 2 [.agg [.sl 0 0 m none m 1, .map 1]] true 2] = some (.bool true, [.arr 1 rows true 0, .map [] [] 0, .arr 2 [.agg [.sl 0 0 m none m 1, .map 1]] true 2])) : RunsTo Try.prog polS 25 (sub [1, 1, 0] B25) (env25 (.i n) (.imm .arg 2 lc) (.i x) (.imm .lit 1 []) (.i 0) (.ptr 2 0 0 1) (.bool true)) [.arr 1 rows true 0, .map [] [] 0, .arr 2 [.agg [.sl 0 0 m none m 1, .map 1]] true 2] .normal (polS.keys 25) (env25 (.i n) (.imm .arg 2 lc) (.i x) (.imm .lit 1 []) (.i 0) (.ptr 2 0 0 1) (.bool true)) [.arr 1 rows true 0, .map [] [] 0, .arr 2 [.agg [.sl 0 0 m none m 1, .map 1]] true 2] :=
  RunsTo.hin N 60 [⟨2, 6, .bool true, [.arr 1 rows true 0, .map [] [] 0, .arr 2 [.agg [.sl 0 0 m none m 1, .map 1]] true 2]⟩] fun kf hk => ⟨_, by kernel_rfl, (oC (g0 kf) .nil)⟩
theorem fr_c_1 (N : Nat) (n : Int) (lc : List HV) (x : Int) (m : Nat) (rows : List HV)(g0 : ∀ kf, callN Try.prog polS (kf + 1) 49 [.i x, .i 0, .i (IntKind.i64.wrap (n - 1))] [.arr 1 rows true 0, .map [] [] 0, .arr 2 [.agg [.sl 0 0 m none m 1, .map 1]] true 2] = some (.bool false, [.arr 1 rows true 0, .map [] [] 0, .arr 2 [.agg [.sl 0 0 m none m 1, .map 1]] true 2])) : RunsTo Try.prog polS 25 (sub [1, 1, 0] B25) (env25 (.i n) (.imm .arg 2 lc) (.i x) (.imm .lit 1 []) (.i 0) (.ptr 2 0 0 1) (.bool true)) [.arr 1 rows true 0, .map [] [] 0, .arr 2 [.agg [.sl 0 0 m none m 1, .map 1]] true 2] .ret (polS.keys 25) (env25 (.i n) (.imm .arg 2 lc) (.i x) (.imm .lit 1 []) (.i 2) (.ptr 2 0 0 1) (.bool true)) [.arr 1 rows true 0, .map [] [] 0, .arr 2 [.agg [.sl 0 0 m none m 1, .map 1]] true 2] :=
  RunsTo.hin N 60 [⟨2, 6, .bool false, [.arr 1 rows true 0, .map [] [] 0, .arr 2 [.agg [.sl 0 0 m none m 1, .map 1]] true 2]⟩] fun kf hk => ⟨_, by kernel_rfl, (oC (g0 kf) .nil)⟩
theorem fr_cf_0 (N : Nat) (n : Int) (lc : List HV) (x : Int) (m : Nat) (rows : List HV) : RunsTo Try.prog polS 25 (sub [1, 1, 0] B25) (env25 (.i n) (.imm .arg 2 lc) (.i x) (.imm .lit 1 []) (.i 0) (.ptr 2 0 0 1) (.bool false)) [.arr 1 rows true 0, .map [] [] 0, .arr 2 [.agg [.sl 0 0 m none m 1, .map 1]] true 2] .ret (polS.keys 25) (env25 (.i n) (.imm .arg 2 lc) (.i x) (.imm .lit 1 []) (.i 2) (.ptr 2 0 0 1) (.bool false)) [.arr 1 rows true 0, .map [] [] 0, .arr 2 [.agg [.sl 0 0 m none m 1, .map 1]] true 2] :=
  RunsTo.hin N 60 [] fun kf hk => ⟨_, by kernel_rfl, .nil⟩
theorem fr_cb_0 (N : Nat) (n : Int) (lc : List HV) (x : Int) : RunsTo Try.prog polS 25 (sub [1, 1, 0] B25) (env25 (.i n) (.imm .arg 2 lc) (.i x) (.imm .lit 1 []) (.i 0) (.ptr 1 0 0 1) (.bool false)) [.arr 0 [] true 0, .arr 2 [.agg [.sl 0 0 0 none 0 0, .nilmap]] true 1] .ret (polS.keys 25) (env25 (.i n) (.imm .arg 2 lc) (.i x) (.imm .lit 1 []) (.i 2) (.ptr 1 0 0 1) (.bool false)) [.arr 0 [] true 0, .arr 2 [.agg [.sl 0 0 0 none 0 0, .nilmap]] true 1] :=
  RunsTo.hin N 60 [] fun kf hk => ⟨_, by kernel_rfl, .nil⟩
theorem fr_z_0 (N : Nat) (n : Int) (lc : List HV) (x : Int) (m : Nat) (rows : List HV) (q : Nat) (os : List HV) (g0 : ∀ kf, callN Try.prog polS (kf + 1) 50 [.agg [.sl 0 0 m none m 1, .map 1], .i x] [.arr 1 rows true 0, .map [] [] 0, .arr 2 [.agg [.sl 0 0 m none m 1, .map 1]] true 2] = some (.sl 3 0 q none q 1, [.arr 1 rows true 0, .map [] [] 0, .arr 2 [.agg [.sl 0 0 m none m 1, .map 1]] true 2, .arr 1 os true 0])) : RunsTo Try.prog polS 25 (sub [1, 1, 1] B25) (env25 (.i n) (.imm .arg 2 lc) (.i x) (.imm .lit 1 []) (.i 0) (.ptr 2 0 0 1) (.bool true)) [.arr 1 rows true 0, .map [] [] 0, .arr 2 [.agg [.sl 0 0 m none m 1, .map 1]] true 2] .ret (polS.keys 25) (env25 (.i n) (.imm .arg 2 lc) (.i x) (.sl 3 0 q none q 1) (.i 0) (.ptr 2 0 0 1) (.bool true)) [.arr 1 rows true 0, .map [] [] 0, .arr 2 [.agg [.sl 0 0 m none m 1, .map 1]] true 2, .arr 1 os true 0] :=
  RunsTo.hin N 60 [⟨4, 2, .sl 3 0 q none q 1, [.arr 1 rows true 0, .map [] [] 0, .arr 2 [.agg [.sl 0 0 m none m 1, .map 1]] true 2, .arr 1 os true 0]⟩] fun kf hk => ⟨_, by kernel_rfl, (oC (g0 kf) .nil)⟩
end Go.Proofs.Ytmhfkhlamnapdaa
end
section
open Go Go.HL
namespace Go.Proofs.Ytmhfkhlamnapdaa
set_option maxRecDepth 100000
noncomputable def B48 : Code := Try.f48.body.getD .skip
abbrev env48 (v0 v2 v3 v4 : HV) : Env := [(0, v0), (2, v2), (3, v3), (4, v4)]
theorem mi_a_0 (la : List HV) : RunsTo Try.prog polS 48 (sub [0] B48) [(0, .imm .arg 1 la)] [] .normal (polS.keys 48) (env48 (.imm .arg 1 la) (.i 0) .undef .undef) [] :=
  RunsTo.hin 0 60 [] fun kf hk => ⟨_, by kernel_rfl, .nil⟩
theorem mi_b_1 (la : List HV)(g0 : ¬ ((la.length : Int) < 1)) : RunsTo Try.prog polS 48 (sub [1, 0, 0] B48) (env48 (.imm .arg 1 la) (.i 0) .undef .undef) [] .normal [0, 2, 3, 4, 7] [(0, .imm .arg 1 la), (2, .i 0), (3, .undef), (4, .undef), (7, .bool false)] [] :=
  RunsTo.hin 0 60 [⟨1, 2, .bool false, []⟩] fun kf hk => ⟨_, by kernel_rfl, (oB [] (decide_eq_false g0) .nil)⟩
theorem mi_c_0 (la : List HV) (x0 : Int) (g0 : idxV Try.prog 24 (.imm .arg 1 la) (.i 0) = some (.vptr (.i x0))) : RunsTo Try.prog polS 48 (sub [1, 1, 0] B48) (env48 (.imm .arg 1 la) (.i 0) .undef .undef) [] .normal (polS.keys 48) (env48 (.imm .arg 1 la) (.i 0) (.i x0) .undef) [] :=
  RunsTo.hin 0 60 [⟨3, 1, .vptr (.i x0), []⟩] fun kf hk => ⟨_, by kernel_rfl, (oP [] g0 .nil)⟩
theorem mi_d_0 (la : List HV) (m : Int) : RunsTo Try.prog polS 48 (sub [1, 1, 1, 0, 0] B48) (env48 (.imm .arg 1 la) (.i 0) (.i m) .undef) [] .normal (polS.keys 48) (env48 (.imm .arg 1 la) (.i 0) (.i m) (.i 1)) [] :=
  RunsTo.hin 0 60 [] fun kf hk => ⟨_, by kernel_rfl, .nil⟩
theorem mi_l_0 (la : List HV) (m : Int) (i : Nat) (x0 : Int) (g0 : (i : Int) < (la.length : Int)) (g1 : idxV Try.prog 24 (.imm .arg 1 la) (.i (i : Int)) = some (.vptr (.i x0))) : RunsTo Try.prog polS 48 (sub [1, 1, 1, 0, 1, 0, 0] B48) (env48 (.imm .arg 1 la) (.i 0) (.i m) (.i (i : Int))) [] .normal (polS.keys 48) (env48 (.imm .arg 1 la) (.i 0) (.i (min m x0)) (.i (IntKind.i64.wrap ((i : Int) + 1)))) [] :=
  RunsTo.hin 0 60 [⟨5, 3, .bool true, []⟩, ⟨7, 3, .vptr (.i x0), []⟩] fun kf hk => ⟨_, by kernel_rfl, (oB [] (decide_eq_true g0) (oP [] g1 .nil))⟩
theorem mi_l_1 (la : List HV) (m : Int) (i : Nat)(g0 : ¬ ((i : Int) < (la.length : Int))) : RunsTo Try.prog polS 48 (sub [1, 1, 1, 0, 1, 0, 0] B48) (env48 (.imm .arg 1 la) (.i 0) (.i m) (.i (i : Int))) [] (.exit 0) (polS.keys 48) (env48 (.imm .arg 1 la) (.i 0) (.i m) (.i (i : Int))) [] :=
  RunsTo.hin 0 60 [⟨5, 3, .bool false, []⟩] fun kf hk => ⟨_, by kernel_rfl, (oB [] (decide_eq_false g0) .nil)⟩
theorem mi_z_0 (la : List HV) (m : Int) (i : Nat) : RunsTo Try.prog polS 48 (sub [1, 1, 1, 1] B48) (env48 (.imm .arg 1 la) (.i 0) (.i m) (.i (i : Int))) [] .ret (polS.keys 48) (env48 (.imm .arg 1 la) (.i m) (.i m) (.i (i : Int))) [] :=
  RunsTo.hin 0 60 [] fun kf hk => ⟨_, by kernel_rfl, .nil⟩
end Go.Proofs.Ytmhfkhlamnapdaa
end
section
open Go Go.HL
namespace Go.Proofs.Ytmhfkhlamnapdaa
set_option maxRecDepth 100000
noncomputable def B17 : Code := Try.f17.body.getD .skip
abbrev env17 (v0 v1 v4 v5 v6 v7 v8 v9 v10 v11 v12 v13 v14 v23 v24 v36 v37 v38 : HV) : Env := [(0, v0), (1, v1), (4, v4), (5, v5), (6, v6), (7, v7), (8, v8), (9, v9), (10, v10), (11, v11), (12, v12), (13, v13), (14, v14), (23, v23), (24, v24), (36, v36), (37, v37), (38, v38)]
theorem ce_a_0 (N : Nat) (n : Int) (lc : List HV) : RunsTo Try.prog polS 17 (sub [0] B17) [(0, .i n), (1, .imm .arg 2 lc)] [] .normal (polS.keys 17) (env17 (.i n) (.imm .arg 2 lc) (.imm .lit 1 []) (.i 0) (.i 0) .undef .undef .undef .undef .undef .undef .undef .undef .undef .undef .undef .undef .undef) [] :=
  RunsTo.hin N 60 [] fun kf hk => ⟨_, by kernel_rfl, .nil⟩
theorem ce_b_0 (N : Nat) (n : Int) (lc : List HV) (m : Nat) (rows : List HV) (g0 : ∀ kf, callN Try.prog polS (kf + 1) 46 [.i n, .imm .arg 2 lc] [] = some (.tuple [.agg [.sl 0 0 m none m 1, .map 1], .bool true], [.arr 1 rows true 0, .map [] [] 0])) : RunsTo Try.prog polS 17 (sub [1, 0] B17) (env17 (.i n) (.imm .arg 2 lc) (.imm .lit 1 []) (.i 0) (.i 0) .undef .undef .undef .undef .undef .undef .undef .undef .undef .undef .undef .undef .undef) [] .normal (polS.keys 17) (env17 (.i n) (.imm .arg 2 lc) (.imm .lit 1 []) (.i 0) (.i 0) (.ptr 2 0 0 1) (.bool true) .undef .undef .undef .undef .undef .undef .undef .undef .undef .undef .undef) [.arr 1 rows true 0, .map [] [] 0, .arr 2 [.agg [.sl 0 0 m none m 1, .map 1]] true 2] :=
  RunsTo.hin N 60 [⟨1, 2, .tuple [.agg [.sl 0 0 m none m 1, .map 1], .bool true], [.arr 1 rows true 0, .map [] [] 0]⟩] fun kf hk => ⟨_, by kernel_rfl, (oC (g0 kf) .nil)⟩
theorem ce_b_1 (N : Nat) (n : Int) (lc : List HV) (m : Nat) (rows : List HV) (g0 : ∀ kf, callN Try.prog polS (kf + 1) 46 [.i n, .imm .arg 2 lc] [] = some (.tuple [.agg [.sl 0 0 m none m 1, .map 1], .bool false], [.arr 1 rows true 0, .map [] [] 0])) : RunsTo Try.prog polS 17 (sub [1, 0] B17) (env17 (.i n) (.imm .arg 2 lc) (.imm .lit 1 []) (.i 0) (.i 0) .undef .undef .undef .undef .undef .undef .undef .undef .undef .undef .undef .undef .undef) [] .normal (polS.keys 17) (env17 (.i n) (.imm .arg 2 lc) (.imm .lit 1 []) (.i 0) (.i 0) (.ptr 2 0 0 1) (.bool false) .undef .undef .undef .undef .undef .undef .undef .undef .undef .undef .undef) [.arr 1 rows true 0, .map [] [] 0, .arr 2 [.agg [.sl 0 0 m none m 1, .map 1]] true 2] :=
  RunsTo.hin N 60 [⟨1, 2, .tuple [.agg [.sl 0 0 m none m 1, .map 1], .bool false], [.arr 1 rows true 0, .map [] [] 0]⟩] fun kf hk => ⟨_, by kernel_rfl, (oC (g0 kf) .nil)⟩
theorem ce_b_2 (N : Nat) (n : Int) (lc : List HV)(g0 : ∀ kf, callN Try.prog polS (kf + 1) 46 [.i n, .imm .arg 2 lc] [] = some (.tuple [.agg [.sl 0 0 0 none 0 0, .nilmap], .bool false], [.arr 0 [] true 0])) : RunsTo Try.prog polS 17 (sub [1, 0] B17) (env17 (.i n) (.imm .arg 2 lc) (.imm .lit 1 []) (.i 0) (.i 0) .undef .undef .undef .undef .undef .undef .undef .undef .undef .undef .undef .undef .undef) [] .normal (polS.keys 17) (env17 (.i n) (.imm .arg 2 lc) (.imm .lit 1 []) (.i 0) (.i 0) (.ptr 1 0 0 1) (.bool false) .undef .undef .undef .undef .undef .undef .undef .undef .undef .undef .undef) [.arr 0 [] true 0, .arr 2 [.agg [.sl 0 0 0 none 0 0, .nilmap]] true 1] :=
  RunsTo.hin N 60 [⟨1, 2, .tuple [.agg [.sl 0 0 0 none 0 0, .nilmap], .bool false], [.arr 0 [] true 0]⟩] fun kf hk => ⟨_, by kernel_rfl, (oC (g0 kf) .nil)⟩
theorem ce_c_0 (N : Nat) (n : Int) (lc : List HV) (m : Nat) (rows : List HV) : RunsTo Try.prog polS 17 (sub [1, 1, 0] B17) (env17 (.i n) (.imm .arg 2 lc) (.imm .lit 1 []) (.i 0) (.i 0) (.ptr 2 0 0 1) (.bool true) .undef .undef .undef .undef .undef .undef .undef .undef .undef .undef .undef) [.arr 1 rows true 0, .map [] [] 0, .arr 2 [.agg [.sl 0 0 m none m 1, .map 1]] true 2] .normal (polS.keys 17) (env17 (.i n) (.imm .arg 2 lc) (.imm .lit 1 []) (.i 0) (.i 0) (.ptr 2 0 0 1) (.bool true) .undef .undef .undef .undef .undef .undef .undef .undef .undef .undef .undef) [.arr 1 rows true 0, .map [] [] 0, .arr 2 [.agg [.sl 0 0 m none m 1, .map 1]] true 2] :=
  RunsTo.hin N 60 [] fun kf hk => ⟨_, by kernel_rfl, .nil⟩
theorem ce_cf_0 (N : Nat) (n : Int) (lc : List HV) (m : Nat) (rows : List HV) : RunsTo Try.prog polS 17 (sub [1, 1, 0] B17) (env17 (.i n) (.imm .arg 2 lc) (.imm .lit 1 []) (.i 0) (.i 0) (.ptr 2 0 0 1) (.bool false) .undef .undef .undef .undef .undef .undef .undef .undef .undef .undef .undef) [.arr 1 rows true 0, .map [] [] 0, .arr 2 [.agg [.sl 0 0 m none m 1, .map 1]] true 2] .ret (polS.keys 17) (env17 (.i n) (.imm .arg 2 lc) (.imm .lit 1 []) (.i 0) (.i 2) (.ptr 2 0 0 1) (.bool false) .undef .undef .undef .undef .undef .undef .undef .undef .undef .undef .undef) [.arr 1 rows true 0, .map [] [] 0, .arr 2 [.agg [.sl 0 0 m none m 1, .map 1]] true 2] :=
  RunsTo.hin N 60 [] fun kf hk => ⟨_, by kernel_rfl, .nil⟩
theorem ce_cb_0 (N : Nat) (n : Int) (lc : List HV) : RunsTo Try.prog polS 17 (sub [1, 1, 0] B17) (env17 (.i n) (.imm .arg 2 lc) (.imm .lit 1 []) (.i 0) (.i 0) (.ptr 1 0 0 1) (.bool false) .undef .undef .undef .undef .undef .undef .undef .undef .undef .undef .undef) [.arr 0 [] true 0, .arr 2 [.agg [.sl 0 0 0 none 0 0, .nilmap]] true 1] .ret (polS.keys 17) (env17 (.i n) (.imm .arg 2 lc) (.imm .lit 1 []) (.i 0) (.i 2) (.ptr 1 0 0 1) (.bool false) .undef .undef .undef .undef .undef .undef .undef .undef .undef .undef .undef) [.arr 0 [] true 0, .arr 2 [.agg [.sl 0 0 0 none 0 0, .nilmap]] true 1] :=
  RunsTo.hin N 60 [] fun kf hk => ⟨_, by kernel_rfl, .nil⟩
theorem ce_d_0 (N : Nat) (n : Int) (lc : List HV) (m : Nat) (rows : List HV) : RunsTo Try.prog polS 17 (sub [1, 1, 1, 0] B17) (env17 (.i n) (.imm .arg 2 lc) (.imm .lit 1 []) (.i 0) (.i 0) (.ptr 2 0 0 1) (.bool true) .undef .undef .undef .undef .undef .undef .undef .undef .undef .undef .undef) [.arr 1 rows true 0, .map [] [] 0, .arr 2 [.agg [.sl 0 0 m none m 1, .map 1]] true 2] .normal (polS.keys 17) (env17 (.i n) (.imm .arg 2 lc) (.imm .lit 1 []) (.i 0) (.i 0) (.ptr 2 0 0 1) (.bool true) (.sl 3 0 0 none 0 1) (.sl 4 0 0 none 0 1) .undef .undef .undef .undef .undef .undef .undef .undef .undef) [.arr 1 rows true 0, .map [] [] 0, .arr 2 [.agg [.sl 0 0 m none m 1, .map 1]] true 2, .arr 1 [] true 0, .arr 1 [] true 0] :=
  RunsTo.hin N 60 [] fun kf hk => ⟨_, by kernel_rfl, .nil⟩
theorem ce_e_0 (N : Nat) (n : Int) (lc : List HV) (m : Nat) (H : Heap) : RunsTo Try.prog polS 17 (sub [1, 1, 1, 1, 0, 0] B17) (env17 (.i n) (.imm .arg 2 lc) (.imm .lit 1 []) (.i 0) (.i 0) (.ptr 2 0 0 1) (.bool true) (.sl 3 0 0 none 0 1) (.sl 4 0 0 none 0 1) .undef .undef .undef .undef .undef .undef .undef .undef .undef) H .normal (polS.keys 17) (env17 (.i n) (.imm .arg 2 lc) (.imm .lit 1 []) (.i 0) (.i 0) (.ptr 2 0 0 1) (.bool true) (.sl 3 0 0 none 0 1) (.sl 4 0 0 none 0 1) .undef .undef .undef .undef (.i n) (.i 0) .undef .undef .undef) H :=
  RunsTo.hin N 60 [] fun kf hk => ⟨_, by kernel_rfl, .nil⟩
theorem ce_l_0 (N : Nat) (n : Int) (lc : List HV) (m : Nat) (H : Heap) (k i : Nat) (t : Int) (H0 : Heap) (H1 : Heap) (g0 : (i : Int) < n) (g1 : loadV Try.prog H 72 (.ptr 2 0 0 1) = some (.agg [.sl 0 0 m none m 1, .map 1])) (g2 : ∀ kf, N ≤ kf → callN Try.prog polS (kf + 1) 47 [.agg [.sl 0 0 m none m 1, .map 1], .i (i : Int), .i (-1)] H = some (.i t, H0)) (g3 : appV H0 1 8 (.sl 3 0 k none k 1) [.i t] = some (.sl 3 0 (k + 1) none (k + 1) 1, H1)) : RunsTo Try.prog polS 17 (sub [1, 1, 1, 1, 0, 1, 0, 0] B17) (env17 (.i n) (.imm .arg 2 lc) (.imm .lit 1 []) (.i 0) (.i 0) (.ptr 2 0 0 1) .undef (.sl 3 0 k none k 1) (.sl 4 0 0 none 0 1) .undef .undef .undef .undef (.i n) (.i (i : Int)) .undef .undef .undef) H .normal (polS.keys 17) (env17 (.i n) (.imm .arg 2 lc) (.imm .lit 1 []) (.i 0) (.i 0) (.ptr 2 0 0 1) .undef (.sl 3 0 (k + 1) none (k + 1) 1) (.sl 4 0 0 none 0 1) (.i (i : Int)) .undef .undef .undef (.i n) (.i (IntKind.i64.wrap ((i : Int) + 1))) .undef .undef .undef) H1 :=
  RunsTo.hin N 60 [⟨6, 0, .bool true, H⟩, ⟨8, 1, .agg [.sl 0 0 m none m 1, .map 1], H⟩, ⟨8, 3, .i t, H0⟩, ⟨8, 5, .sl 3 0 (k + 1) none (k + 1) 1, H1⟩] fun kf hk => ⟨_, by kernel_rfl, (oB H (decide_eq_true g0) (oP H g1 (oC (g2 kf (by omega)) (oC (g3) .nil))))⟩
theorem ce_l_1 (N : Nat) (n : Int) (lc : List HV) (m : Nat) (H : Heap) (k i : Nat)(g0 : ¬ ((i : Int) < n)) : RunsTo Try.prog polS 17 (sub [1, 1, 1, 1, 0, 1, 0, 0] B17) (env17 (.i n) (.imm .arg 2 lc) (.imm .lit 1 []) (.i 0) (.i 0) (.ptr 2 0 0 1) .undef (.sl 3 0 k none k 1) (.sl 4 0 0 none 0 1) .undef .undef .undef .undef (.i n) (.i (i : Int)) .undef .undef .undef) H (.exit 0) (polS.keys 17) (env17 (.i n) (.imm .arg 2 lc) (.imm .lit 1 []) (.i 0) (.i 0) (.ptr 2 0 0 1) .undef (.sl 3 0 k none k 1) (.sl 4 0 0 none 0 1) .undef .undef .undef .undef (.i n) (.i (i : Int)) .undef .undef .undef) H :=
  RunsTo.hin N 60 [⟨6, 0, .bool false, H⟩] fun kf hk => ⟨_, by kernel_rfl, (oB H (decide_eq_false g0) .nil)⟩
theorem ce_f_0 (N : Nat) (n : Int) (lc : List HV) (m : Nat) (H : Heap) (k i : Nat) (le : Int) (H0 : Heap) (g0 : ∀ kf, N ≤ kf → callN Try.prog polS (kf + 1) 48 [.sl 3 0 k none k 1] H = some (.i le, H0)) : RunsTo Try.prog polS 17 (sub [1, 1, 1, 1, 1, 0] B17) (env17 (.i n) (.imm .arg 2 lc) (.imm .lit 1 []) (.i 0) (.i 0) (.ptr 2 0 0 1) .undef (.sl 3 0 k none k 1) (.sl 4 0 0 none 0 1) .undef .undef .undef .undef (.i n) (.i (i : Int)) .undef .undef .undef) H .normal (polS.keys 17) (env17 (.i n) (.imm .arg 2 lc) (.imm .lit 1 []) (.i 0) (.i 0) (.ptr 2 0 0 1) .undef (.sl 3 0 k none k 1) (.sl 4 0 0 none 0 1) .undef (.i le) .undef .undef (.i n) (.i (i : Int)) .undef .undef .undef) H0 :=
  RunsTo.hin N 60 [⟨10, 1, .i le, H0⟩] fun kf hk => ⟨_, by kernel_rfl, (oC (g0 kf (by omega)) .nil)⟩
theorem ce_g_0 (N : Nat) (n : Int) (lc : List HV) (m : Nat) (H : Heap) (k i : Nat) (le : Int) : RunsTo Try.prog polS 17 (sub [1, 1, 1, 1, 1, 1, 0, 0] B17) (env17 (.i n) (.imm .arg 2 lc) (.imm .lit 1 []) (.i 0) (.i 0) (.ptr 2 0 0 1) .undef (.sl 3 0 k none k 1) (.sl 4 0 0 none 0 1) .undef (.i le) .undef .undef (.i n) (.i (i : Int)) .undef .undef .undef) H .normal (polS.keys 17) (env17 (.i n) (.imm .arg 2 lc) (.imm .lit 1 []) (.i 0) (.i 0) (.ptr 2 0 0 1) .undef (.sl 3 0 k none k 1) (.sl 4 0 0 none 0 1) .undef (.i le) .undef .undef (.i n) (.i (i : Int)) (.sl 3 0 k none k 1) (.i (k : Int)) (.i 0)) H :=
  RunsTo.hin N 60 [] fun kf hk => ⟨_, by kernel_rfl, .nil⟩
theorem ce_m_0 (N : Nat) (n : Int) (lc : List HV) (m : Nat) (H : Heap) (k i j : Nat) (le : Int) (x0 : Int) (H0 : Heap) (g0 : (i : Int) < (k : Int)) (g1 : idxV Try.prog 24 (.sl 3 0 k none k 1) (.i (i : Int)) = some (.ptr 3 i 0 k)) (g2 : loadV Try.prog H 3 (.ptr 3 i 0 k) = some (.i x0)) (g3 : x0 = le) (g4 : appV H 1 8 (.sl 4 0 j none j 1) [.i (i : Int)] = some (.sl 4 0 (j + 1) none (j + 1) 1, H0)) : RunsTo Try.prog polS 17 (sub [1, 1, 1, 1, 1, 1, 0, 1, 0, 0] B17) (env17 (.i n) (.imm .arg 2 lc) (.imm .lit 1 []) (.i 0) (.i 0) .undef .undef .undef (.sl 4 0 j none j 1) .undef (.i le) .undef .undef .undef .undef (.sl 3 0 k none k 1) (.i (k : Int)) (.i (i : Int))) H .normal (polS.keys 17) (env17 (.i n) (.imm .arg 2 lc) (.imm .lit 1 []) (.i 0) (.i 0) .undef .undef .undef (.sl 4 0 (j + 1) none (j + 1) 1) .undef (.i le) (.i (i : Int)) (.i x0) .undef .undef (.sl 3 0 k none k 1) (.i (k : Int)) (.i (IntKind.i64.wrap ((i : Int) + 1)))) H0 :=
  RunsTo.hin N 60 [⟨12, 0, .bool true, H⟩, ⟨13, 1, .ptr 3 i 0 k, H⟩, ⟨13, 2, .i x0, H⟩, ⟨14, 2, .bool true, H⟩, ⟨15, 3, .sl 4 0 (j + 1) none (j + 1) 1, H0⟩] fun kf hk => ⟨_, by kernel_rfl, (oB H (decide_eq_true g0) (oP H g1 (oP H g2 (oB H (decide_eq_true g3) (oC (g4) .nil)))))⟩
theorem ce_m_1 (N : Nat) (n : Int) (lc : List HV) (m : Nat) (H : Heap) (k i j : Nat) (le : Int) (x0 : Int) (g0 : (i : Int) < (k : Int)) (g1 : idxV Try.prog 24 (.sl 3 0 k none k 1) (.i (i : Int)) = some (.ptr 3 i 0 k)) (g2 : loadV Try.prog H 3 (.ptr 3 i 0 k) = some (.i x0)) (g3 : ¬ (x0 = le)) : RunsTo Try.prog polS 17 (sub [1, 1, 1, 1, 1, 1, 0, 1, 0, 0] B17) (env17 (.i n) (.imm .arg 2 lc) (.imm .lit 1 []) (.i 0) (.i 0) .undef .undef .undef (.sl 4 0 j none j 1) .undef (.i le) .undef .undef .undef .undef (.sl 3 0 k none k 1) (.i (k : Int)) (.i (i : Int))) H .normal (polS.keys 17) (env17 (.i n) (.imm .arg 2 lc) (.imm .lit 1 []) (.i 0) (.i 0) .undef .undef .undef (.sl 4 0 j none j 1) .undef (.i le) (.i (i : Int)) (.i x0) .undef .undef (.sl 3 0 k none k 1) (.i (k : Int)) (.i (IntKind.i64.wrap ((i : Int) + 1)))) H :=
  RunsTo.hin N 60 [⟨12, 0, .bool true, H⟩, ⟨13, 1, .ptr 3 i 0 k, H⟩, ⟨13, 2, .i x0, H⟩, ⟨14, 2, .bool false, H⟩] fun kf hk => ⟨_, by kernel_rfl, (oB H (decide_eq_true g0) (oP H g1 (oP H g2 (oB H (decide_eq_false g3) .nil))))⟩
theorem ce_m_2 (N : Nat) (n : Int) (lc : List HV) (m : Nat) (H : Heap) (k i j : Nat) (le : Int)(g0 : ¬ ((i : Int) < (k : Int))) : RunsTo Try.prog polS 17 (sub [1, 1, 1, 1, 1, 1, 0, 1, 0, 0] B17) (env17 (.i n) (.imm .arg 2 lc) (.imm .lit 1 []) (.i 0) (.i 0) .undef .undef .undef (.sl 4 0 j none j 1) .undef (.i le) .undef .undef .undef .undef (.sl 3 0 k none k 1) (.i (k : Int)) (.i (i : Int))) H (.exit 2) (polS.keys 17) (env17 (.i n) (.imm .arg 2 lc) (.imm .lit 1 []) (.i 0) (.i 0) .undef .undef .undef (.sl 4 0 j none j 1) .undef (.i le) .undef .undef .undef .undef (.sl 3 0 k none k 1) (.i (k : Int)) (.i (i : Int))) H :=
  RunsTo.hin N 60 [⟨12, 0, .bool false, H⟩] fun kf hk => ⟨_, by kernel_rfl, (oB H (decide_eq_false g0) .nil)⟩
theorem ce_z_0 (N : Nat) (n : Int) (lc : List HV) (m : Nat) (H : Heap) (k i j : Nat) (le : Int) : RunsTo Try.prog polS 17 (sub [1, 1, 1, 1, 1, 1, 1] B17) (env17 (.i n) (.imm .arg 2 lc) (.imm .lit 1 []) (.i 0) (.i 0) .undef .undef .undef (.sl 4 0 j none j 1) .undef (.i le) .undef .undef .undef .undef (.sl 3 0 k none k 1) (.i (k : Int)) (.i (i : Int))) H .ret (polS.keys 17) (env17 (.i n) (.imm .arg 2 lc) (.sl 4 0 j none j 1) (.i le) (.i 0) .undef .undef .undef (.sl 4 0 j none j 1) .undef (.i le) .undef .undef .undef .undef (.sl 3 0 k none k 1) (.i (k : Int)) (.i (i : Int))) H :=
  RunsTo.hin N 60 [] fun kf hk => ⟨_, by kernel_rfl, .nil⟩
end Go.Proofs.Ytmhfkhlamnapdaa
end
section
open Go Go.HL
namespace Go.Proofs.Ytmhfkhlamnapdaa
set_option maxRecDepth 100000
noncomputable def B57 : Code := Try.f57.body.getD .skip
abbrev env57 (v0 v1 v2 v3 v8 v9 v10 v11 v12 v13 v14 v15 v16 : HV) : Env := [(0, v0), (1, v1), (2, v2), (3, v3), (8, v8), (9, v9), (10, v10), (11, v11), (12, v12), (13, v13), (14, v14), (15, v15), (16, v16)]
theorem rt_a_0 (N : Nat) (n : Int) (lc : List HV) (x w : Int) (H : Heap) : RunsTo Try.prog polN 57 (sub [0] B57) [(0, .i n), (1, .imm .arg 2 lc), (2, .i x), (3, .i w)] H .normal (polN.keys 57) (env57 (.i n) (.imm .arg 2 lc) (.i x) (.i w) (.i 0) .undef .undef .undef .undef .undef .undef .undef .undef) H :=
  RunsTo.hin N 60 [] fun kf hk => ⟨_, by kernel_rfl, .nil⟩
theorem rt_b_0 (N : Nat) (n : Int) (lc : List HV) (x w : Int) (H : Heap) (tb : Nat) (H0 : Heap) (g0 : some (HV.sl H.length 0 0 none 0 1, H ++ [Blk.arr 1 [] true 0]) = some (.sl tb 0 0 none 0 1, H0)) : RunsTo Try.prog polN 57 (sub [1, 0] B57) (env57 (.i n) (.imm .arg 2 lc) (.i x) (.i w) (.i 0) .undef .undef .undef .undef .undef .undef .undef .undef) H .normal (polN.keys 57) (env57 (.i n) (.imm .arg 2 lc) (.i x) (.i w) (.i 0) (.sl tb 0 0 none 0 1) .undef .undef .undef .undef .undef .undef .undef) H0 :=
  RunsTo.hin N 60 [⟨1, 0, .sl tb 0 0 none 0 1, H0⟩] fun kf hk => ⟨_, by kernel_rfl, (oC (g0) .nil)⟩
theorem rt_c_0 (N : Nat) (n : Int) (lc : List HV) (x w : Int) (H : Heap) (tb : Nat) (nbk : Nat) (m : Nat) (H0 : Heap) (g0 : ∀ kf, callN Try.prog polN (kf + 1) 51 [.i n, .imm .arg 2 lc, .i x] H = some (.sl nbk 0 m none m 1, H0)) : RunsTo Try.prog polN 57 (sub [1, 1, 0] B57) (env57 (.i n) (.imm .arg 2 lc) (.i x) (.i w) (.i 0) (.sl tb 0 0 none 0 1) .undef .undef .undef .undef .undef .undef .undef) H .normal (polN.keys 57) (env57 (.i n) (.imm .arg 2 lc) (.i x) (.i w) (.i 0) (.sl tb 0 0 none 0 1) (.sl nbk 0 m none m 1) .undef .undef .undef .undef .undef .undef) H0 :=
  RunsTo.hin N 60 [⟨2, 3, .sl nbk 0 m none m 1, H0⟩] fun kf hk => ⟨_, by kernel_rfl, (oC (g0 kf) .nil)⟩
theorem rt_d_0 (N : Nat) (n : Int) (lc : List HV) (x w : Int) (H : Heap) (tb k nbk m : Nat) : RunsTo Try.prog polN 57 (sub [1, 1, 1, 0, 0] B57) (env57 (.i n) (.imm .arg 2 lc) (.i x) (.i w) (.i 0) (.sl tb 0 k none k 1) (.sl nbk 0 m none m 1) .undef .undef .undef .undef .undef .undef) H .normal (polN.keys 57) (env57 (.i n) (.imm .arg 2 lc) (.i x) (.i w) (.i 0) (.sl tb 0 k none k 1) (.sl nbk 0 m none m 1) (.i 0) .undef .undef .undef .undef .undef) H :=
  RunsTo.hin N 60 [] fun kf hk => ⟨_, by kernel_rfl, .nil⟩
theorem rt_e_0 (N : Nat) (n : Int) (lc : List HV) (x w : Int) (H : Heap) (tb k nbk m : Nat) (i : Nat)(g0 : (i : Int) < (m : Int)) : RunsTo Try.prog polN 57 (sub [1, 1, 1, 0, 1, 0, 0, 0] B57) (env57 (.i n) (.imm .arg 2 lc) (.i x) (.i w) (.i 0) (.sl tb 0 k none k 1) (.sl nbk 0 m none m 1) (.i (i : Int)) .undef .undef .undef .undef .undef) H .normal (polN.keys 57) (env57 (.i n) (.imm .arg 2 lc) (.i x) (.i w) (.i 0) (.sl tb 0 k none k 1) (.sl nbk 0 m none m 1) (.i (i : Int)) .undef .undef .undef .undef .undef) H :=
  RunsTo.hin N 60 [⟨4, 3, .bool true, H⟩] fun kf hk => ⟨_, by kernel_rfl, (oB H (decide_eq_true g0) .nil)⟩
theorem rt_e_1 (N : Nat) (n : Int) (lc : List HV) (x w : Int) (H : Heap) (tb k nbk m : Nat) (i : Nat)(g0 : ¬ ((i : Int) < (m : Int))) : RunsTo Try.prog polN 57 (sub [1, 1, 1, 0, 1, 0, 0, 0] B57) (env57 (.i n) (.imm .arg 2 lc) (.i x) (.i w) (.i 0) (.sl tb 0 k none k 1) (.sl nbk 0 m none m 1) (.i (i : Int)) .undef .undef .undef .undef .undef) H (.exit 0) (polN.keys 57) (env57 (.i n) (.imm .arg 2 lc) (.i x) (.i w) (.i 0) (.sl tb 0 k none k 1) (.sl nbk 0 m none m 1) (.i (i : Int)) .undef .undef .undef .undef .undef) H :=
  RunsTo.hin N 60 [⟨4, 3, .bool false, H⟩] fun kf hk => ⟨_, by kernel_rfl, (oB H (decide_eq_false g0) .nil)⟩
theorem rt_f_0 (N : Nat) (n : Int) (lc : List HV) (x w : Int) (H : Heap) (tb k nbk m : Nat) (i : Nat) (x0 : Int) (g0 : idxV Try.prog 24 (.sl nbk 0 m none m 1) (.i (i : Int)) = some (.ptr nbk i 0 m)) (g1 : loadV Try.prog H 3 (.ptr nbk i 0 m) = some (.i x0)) (g2 : x0 = w) : RunsTo Try.prog polN 57 (sub [1, 1, 1, 0, 1, 0, 0, 1, 0, 0, 0] B57) (env57 (.i n) (.imm .arg 2 lc) (.i x) (.i w) (.i 0) (.sl tb 0 k none k 1) (.sl nbk 0 m none m 1) (.i (i : Int)) .undef .undef .undef .undef .undef) H (.exit 1) (polN.keys 57) (env57 (.i n) (.imm .arg 2 lc) (.i x) (.i w) (.i 0) (.sl tb 0 k none k 1) (.sl nbk 0 m none m 1) (.i (i : Int)) .undef .undef .undef .undef .undef) H :=
  RunsTo.hin N 60 [⟨6, 2, .ptr nbk i 0 m, H⟩, ⟨6, 3, .i x0, H⟩, ⟨6, 5, .bool true, H⟩] fun kf hk => ⟨_, by kernel_rfl, (oP H g0 (oP H g1 (oB H (decide_eq_true g2) .nil)))⟩
theorem rt_f_1 (N : Nat) (n : Int) (lc : List HV) (x w : Int) (H : Heap) (tb k nbk m : Nat) (i : Nat) (x0 : Int) (g0 : idxV Try.prog 24 (.sl nbk 0 m none m 1) (.i (i : Int)) = some (.ptr nbk i 0 m)) (g1 : loadV Try.prog H 3 (.ptr nbk i 0 m) = some (.i x0)) (g2 : ¬ (x0 = w)) : RunsTo Try.prog polN 57 (sub [1, 1, 1, 0, 1, 0, 0, 1, 0, 0, 0] B57) (env57 (.i n) (.imm .arg 2 lc) (.i x) (.i w) (.i 0) (.sl tb 0 k none k 1) (.sl nbk 0 m none m 1) (.i (i : Int)) .undef .undef .undef .undef .undef) H .normal (polN.keys 57) (env57 (.i n) (.imm .arg 2 lc) (.i x) (.i w) (.i 0) (.sl tb 0 k none k 1) (.sl nbk 0 m none m 1) (.i (i : Int)) .undef .undef .undef .undef .undef) H :=
  RunsTo.hin N 60 [⟨6, 2, .ptr nbk i 0 m, H⟩, ⟨6, 3, .i x0, H⟩, ⟨6, 5, .bool false, H⟩] fun kf hk => ⟨_, by kernel_rfl, (oP H g0 (oP H g1 (oB H (decide_eq_false g2) .nil)))⟩
theorem rt_g_0 (N : Nat) (n : Int) (lc : List HV) (x w : Int) (H : Heap) (tb k nbk m : Nat) (i : Nat) (x0 : Int) (t : Int) (H0 : Heap) (g0 : idxV Try.prog 24 (.sl nbk 0 m none m 1) (.i (i : Int)) = some (.ptr nbk i 0 m)) (g1 : loadV Try.prog H 3 (.ptr nbk i 0 m) = some (.i x0)) (g2 : ∀ kf, N ≤ kf → callN Try.prog polN (kf + 1) 57 [.i n, .imm .arg 2 lc, .i x0, .i x] H = some (.i t, H0)) : RunsTo Try.prog polN 57 (sub [1, 1, 1, 0, 1, 0, 0, 1, 0, 0, 1, 0] B57) (env57 (.i n) (.imm .arg 2 lc) (.i x) (.i w) (.i 0) (.sl tb 0 k none k 1) (.sl nbk 0 m none m 1) (.i (i : Int)) .undef .undef .undef .undef .undef) H .normal (polN.keys 57) (env57 (.i n) (.imm .arg 2 lc) (.i x) (.i w) (.i 0) (.sl tb 0 k none k 1) (.sl nbk 0 m none m 1) (.i (i : Int)) (.i t) .undef .undef .undef .undef) H0 :=
  RunsTo.hin N 60 [⟨7, 4, .ptr nbk i 0 m, H⟩, ⟨7, 5, .i x0, H⟩, ⟨7, 7, .i t, H0⟩] fun kf hk => ⟨_, by kernel_rfl, (oP H g0 (oP H g1 (oC (g2 kf (by omega)) .nil)))⟩
theorem rt_h_0 (N : Nat) (n : Int) (lc : List HV) (x w : Int) (H : Heap) (tb k nbk m : Nat) (i : Nat) (q : Int) : RunsTo Try.prog polN 57 (sub [1, 1, 1, 0, 1, 0, 0, 1, 0, 0, 1, 1, 0] B57) (env57 (.i n) (.imm .arg 2 lc) (.i x) (.i w) (.i 0) (.sl tb 0 k none k 1) (.sl nbk 0 m none m 1) (.i (i : Int)) (.i q) .undef .undef .undef .undef) H .normal (polN.keys 57) (env57 (.i n) (.imm .arg 2 lc) (.i x) (.i w) (.i 0) (.sl tb 0 k none k 1) (.sl nbk 0 m none m 1) (.i (i : Int)) (.i q) (.i 0) .undef .undef .undef) H :=
  RunsTo.hin N 60 [] fun kf hk => ⟨_, by kernel_rfl, .nil⟩
theorem rt_l_0 (N : Nat) (n : Int) (lc : List HV) (x w : Int) (H : Heap) (tb k nbk m : Nat) (i : Nat) (q : Int) (j : Nat) (x0 : Int) (g0 : (j : Int) < (k : Int)) (g1 : idxV Try.prog 24 (.sl tb 0 k none k 1) (.i (j : Int)) = some (.ptr tb j 0 k)) (g2 : loadV Try.prog H 3 (.ptr tb j 0 k) = some (.i x0)) (g3 : q ≤ x0) : RunsTo Try.prog polN 57 (sub [1, 1, 1, 0, 1, 0, 0, 1, 0, 0, 1, 1, 1, 0, 0, 0] B57) (env57 (.i n) (.imm .arg 2 lc) (.i x) (.i w) (.i 0) (.sl tb 0 k none k 1) (.sl nbk 0 m none m 1) (.i (i : Int)) (.i q) (.i (j : Int)) .undef .undef .undef) H .normal (polN.keys 57) (env57 (.i n) (.imm .arg 2 lc) (.i x) (.i w) (.i 0) (.sl tb 0 k none k 1) (.sl nbk 0 m none m 1) (.i (i : Int)) (.i q) (.i (IntKind.i64.wrap ((j : Int) + 1))) .undef .undef .undef) H :=
  RunsTo.hin N 60 [⟨9, 3, .bool true, H⟩, ⟨9, 7, .ptr tb j 0 k, H⟩, ⟨9, 8, .i x0, H⟩, ⟨9, 10, .bool true, H⟩] fun kf hk => ⟨_, by kernel_rfl, (oB H (decide_eq_true g0) (oP H g1 (oP H g2 (oB H (decide_eq_true g3) .nil))))⟩
theorem rt_l_1 (N : Nat) (n : Int) (lc : List HV) (x w : Int) (H : Heap) (tb k nbk m : Nat) (i : Nat) (q : Int) (j : Nat) (x0 : Int) (g0 : (j : Int) < (k : Int)) (g1 : idxV Try.prog 24 (.sl tb 0 k none k 1) (.i (j : Int)) = some (.ptr tb j 0 k)) (g2 : loadV Try.prog H 3 (.ptr tb j 0 k) = some (.i x0)) (g3 : ¬ (q ≤ x0)) : RunsTo Try.prog polN 57 (sub [1, 1, 1, 0, 1, 0, 0, 1, 0, 0, 1, 1, 1, 0, 0, 0] B57) (env57 (.i n) (.imm .arg 2 lc) (.i x) (.i w) (.i 0) (.sl tb 0 k none k 1) (.sl nbk 0 m none m 1) (.i (i : Int)) (.i q) (.i (j : Int)) .undef .undef .undef) H (.exit 2) (polN.keys 57) (env57 (.i n) (.imm .arg 2 lc) (.i x) (.i w) (.i 0) (.sl tb 0 k none k 1) (.sl nbk 0 m none m 1) (.i (i : Int)) (.i q) (.i (j : Int)) .undef .undef .undef) H :=
  RunsTo.hin N 60 [⟨9, 3, .bool true, H⟩, ⟨9, 7, .ptr tb j 0 k, H⟩, ⟨9, 8, .i x0, H⟩, ⟨9, 10, .bool false, H⟩] fun kf hk => ⟨_, by kernel_rfl, (oB H (decide_eq_true g0) (oP H g1 (oP H g2 (oB H (decide_eq_false g3) .nil))))⟩
theorem rt_l_2 (N : Nat) (n : Int) (lc : List HV) (x w : Int) (H : Heap) (tb k nbk m : Nat) (i : Nat) (q : Int) (j : Nat)(g0 : ¬ ((j : Int) < (k : Int))) : RunsTo Try.prog polN 57 (sub [1, 1, 1, 0, 1, 0, 0, 1, 0, 0, 1, 1, 1, 0, 0, 0] B57) (env57 (.i n) (.imm .arg 2 lc) (.i x) (.i w) (.i 0) (.sl tb 0 k none k 1) (.sl nbk 0 m none m 1) (.i (i : Int)) (.i q) (.i (j : Int)) .undef .undef .undef) H (.exit 2) (polN.keys 57) (env57 (.i n) (.imm .arg 2 lc) (.i x) (.i w) (.i 0) (.sl tb 0 k none k 1) (.sl nbk 0 m none m 1) (.i (i : Int)) (.i q) (.i (j : Int)) .undef .undef .undef) H :=
  RunsTo.hin N 60 [⟨9, 3, .bool false, H⟩] fun kf hk => ⟨_, by kernel_rfl, (oB H (decide_eq_false g0) .nil)⟩
theorem rt_m_0 (N : Nat) (n : Int) (lc : List HV) (x w : Int) (H : Heap) (tb k nbk m : Nat) (i : Nat) (q : Int) (j : Nat) (nb2 : Nat) (H0 : Heap) (H1 : Heap) (H2 : Heap) (H3 : Heap) (g0 : some (HV.sl H.length 0 0 none 0 1, H ++ [Blk.arr 1 [] true 0]) = some (.sl nb2 0 0 none 0 1, H0)) (g1 : sliceV Try.prog 24 (.sl tb 0 k none k 1) none (some (.i (j : Int))) none = some (.sl tb 0 j none k 1)) (g2 : builtinV Try.prog .append [24, 24] [.sl nb2 0 0 none 0 1, .sl tb 0 j none k 1] H0 = some (.sl nb2 0 j none j 1, H1)) (g3 : appV H1 1 8 (.sl nb2 0 j none j 1) [.i q] = some (.sl nb2 0 (j + 1) none (j + 1) 1, H2)) (g4 : sliceV Try.prog 24 (.sl tb 0 k none k 1) (some (.i (j : Int))) none none = some (.sl tb j (k - j) none k 1)) (g5 : builtinV Try.prog .append [24, 24] [.sl nb2 0 (j + 1) none (j + 1) 1, .sl tb j (k - j) none k 1] H2 = some (.sl nb2 0 (k + 1) none (k + 1) 1, H3)) : RunsTo Try.prog polN 57 (sub [1, 1, 1, 0, 1, 0, 0, 1, 0, 0, 1, 1, 1, 1] B57) (env57 (.i n) (.imm .arg 2 lc) (.i x) (.i w) (.i 0) (.sl tb 0 k none k 1) (.sl nbk 0 m none m 1) (.i (i : Int)) (.i q) (.i (j : Int)) .undef .undef .undef) H .normal (polN.keys 57) (env57 (.i n) (.imm .arg 2 lc) (.i x) (.i w) (.i 0) (.sl nb2 0 (k + 1) none (k + 1) 1) (.sl nbk 0 m none m 1) (.i (i : Int)) (.i q) (.i (j : Int)) (.sl nb2 0 (j + 1) none (j + 1) 1) .undef .undef) H3 :=
  RunsTo.hin N 60 [⟨11, 0, .sl nb2 0 0 none 0 1, H0⟩, ⟨12, 3, .sl tb 0 j none k 1, H0⟩, ⟨12, 4, .sl nb2 0 j none j 1, H1⟩, ⟨13, 3, .sl nb2 0 (j + 1) none (j + 1) 1, H2⟩, ⟨14, 3, .sl tb j (k - j) none k 1, H2⟩, ⟨14, 4, .sl nb2 0 (k + 1) none (k + 1) 1, H3⟩] fun kf hk => ⟨_, by kernel_rfl, (oC (g0) (oP H0 g1 (oC (g2) (oC (g3) (oP H2 g4 (oC (g5) .nil))))))⟩
theorem rt_n_0 (N : Nat) (n : Int) (lc : List HV) (x w : Int) (H : Heap) (tb k nbk m : Nat) (i : Nat) (x12 x13 x14 : HV) : RunsTo Try.prog polN 57 (sub [1, 1, 1, 0, 1, 0, 0, 1, 1] B57) (env57 (.i n) (.imm .arg 2 lc) (.i x) (.i w) (.i 0) (.sl tb 0 k none k 1) (.sl nbk 0 m none m 1) (.i (i : Int)) x12 x13 x14 .undef .undef) H .normal (polN.keys 57) (env57 (.i n) (.imm .arg 2 lc) (.i x) (.i w) (.i 0) (.sl tb 0 k none k 1) (.sl nbk 0 m none m 1) (.i (IntKind.i64.wrap ((i : Int) + 1))) x12 x13 x14 .undef .undef) H :=
  RunsTo.hin N 60 [] fun kf hk => ⟨_, by kernel_rfl, .nil⟩
theorem rt_o_0 (N : Nat) (n : Int) (lc : List HV) (x w : Int) (H : Heap) (tb k nbk m : Nat) (x11 : HV) : RunsTo Try.prog polN 57 (sub [1, 1, 1, 1, 0] B57) (env57 (.i n) (.imm .arg 2 lc) (.i x) (.i w) (.i 0) (.sl tb 0 k none k 1) (.sl nbk 0 m none m 1) x11 .undef .undef .undef .undef .undef) H .normal (polN.keys 57) (env57 (.i n) (.imm .arg 2 lc) (.i x) (.i w) (.i 0) (.sl tb 0 k none k 1) (.sl nbk 0 m none m 1) x11 .undef .undef .undef (.i 0) .undef) H :=
  RunsTo.hin N 60 [] fun kf hk => ⟨_, by kernel_rfl, .nil⟩
theorem rt_p_0 (N : Nat) (n : Int) (lc : List HV) (x w : Int) (H : Heap) (tb k nbk m : Nat) (x11 : HV) (bx : Int) : RunsTo Try.prog polN 57 (sub [1, 1, 1, 1, 1, 0, 0] B57) (env57 (.i n) (.imm .arg 2 lc) (.i x) (.i w) (.i 0) (.sl tb 0 k none k 1) (.sl nbk 0 m none m 1) x11 .undef .undef .undef (.i bx) .undef) H .normal (polN.keys 57) (env57 (.i n) (.imm .arg 2 lc) (.i x) (.i w) (.i 0) (.sl tb 0 k none k 1) (.sl nbk 0 m none m 1) x11 .undef .undef .undef (.i bx) (.i 0)) H :=
  RunsTo.hin N 60 [] fun kf hk => ⟨_, by kernel_rfl, .nil⟩
theorem rt_q_0 (N : Nat) (n : Int) (lc : List HV) (x w : Int) (H : Heap) (tb k i : Nat) (bx : Int) (x0 : Int) (g0 : (i : Int) < (k : Int)) (g1 : idxV Try.prog 24 (.sl tb 0 k none k 1) (.i (i : Int)) = some (.ptr tb i 0 k)) (g2 : loadV Try.prog H 3 (.ptr tb i 0 k) = some (.i x0)) : RunsTo Try.prog polN 57 (sub [1, 1, 1, 1, 1, 0, 1, 0, 0] B57) (env57 (.i n) (.imm .arg 2 lc) (.i x) (.i w) (.i 0) (.sl tb 0 k none k 1) .undef .undef .undef .undef .undef (.i bx) (.i (i : Int))) H .normal (polN.keys 57) (env57 (.i n) (.imm .arg 2 lc) (.i x) (.i w) (.i 0) (.sl tb 0 k none k 1) .undef .undef .undef .undef .undef (.i (max bx (IntKind.i64.wrap (IntKind.i64.wrap ((i : Int) + 1) + x0)))) (.i (IntKind.i64.wrap ((i : Int) + 1)))) H :=
  RunsTo.hin N 60 [⟨17, 3, .bool true, H⟩, ⟨19, 5, .ptr tb i 0 k, H⟩, ⟨19, 6, .i x0, H⟩] fun kf hk => ⟨_, by kernel_rfl, (oB H (decide_eq_true g0) (oP H g1 (oP H g2 .nil)))⟩
theorem rt_q_1 (N : Nat) (n : Int) (lc : List HV) (x w : Int) (H : Heap) (tb k i : Nat) (bx : Int)(g0 : ¬ ((i : Int) < (k : Int))) : RunsTo Try.prog polN 57 (sub [1, 1, 1, 1, 1, 0, 1, 0, 0] B57) (env57 (.i n) (.imm .arg 2 lc) (.i x) (.i w) (.i 0) (.sl tb 0 k none k 1) .undef .undef .undef .undef .undef (.i bx) (.i (i : Int))) H (.exit 4) (polN.keys 57) (env57 (.i n) (.imm .arg 2 lc) (.i x) (.i w) (.i 0) (.sl tb 0 k none k 1) .undef .undef .undef .undef .undef (.i bx) (.i (i : Int))) H :=
  RunsTo.hin N 60 [⟨17, 3, .bool false, H⟩] fun kf hk => ⟨_, by kernel_rfl, (oB H (decide_eq_false g0) .nil)⟩
theorem rt_z_0 (N : Nat) (n : Int) (lc : List HV) (x w : Int) (H : Heap) (tb k i : Nat) (bx : Int) : RunsTo Try.prog polN 57 (sub [1, 1, 1, 1, 1, 1] B57) (env57 (.i n) (.imm .arg 2 lc) (.i x) (.i w) (.i 0) (.sl tb 0 k none k 1) .undef .undef .undef .undef .undef (.i bx) (.i (i : Int))) H .ret (polN.keys 57) (env57 (.i n) (.imm .arg 2 lc) (.i x) (.i w) (.i bx) (.sl tb 0 k none k 1) .undef .undef .undef .undef .undef (.i bx) (.i (i : Int))) H :=
  RunsTo.hin N 60 [] fun kf hk => ⟨_, by kernel_rfl, .nil⟩
end Go.Proofs.Ytmhfkhlamnapdaa
end
section
open Go Go.HL
namespace Go.Proofs.Ytmhfkhlamnapdaa
set_option maxRecDepth 100000
noncomputable def B64 : Code := Try.f64.body.getD .skip
abbrev env64 (v0 v1 v2 v4 : HV) : Env := [(0, v0), (1, v1), (2, v2), (4, v4)]
theorem by_a_0 (N : Nat) (u v : Int) (tb vb : Nat) (tv : HV) (H : Heap) (t0 : Int) (H0 : Heap) (g0 : loadV Try.prog H 72 (.ptr tb 0 0 1) = some (tv)) (g1 : loadV Try.prog H 3 (.ptr vb 0 0 1) = some (.i v)) (g2 : ∀ kf, N ≤ kf → callN Try.prog polS (kf + 1) 47 [tv, .i u, .i v] H = some (.i t0, H0)) : RunsTo Try.prog polS 64 (sub [] B64) [(0, .i u), (1, .ptr tb 0 0 1), (2, .ptr vb 0 0 1)] H .ret (polS.keys 64) (env64 (.i u) (.ptr tb 0 0 1) (.ptr vb 0 0 1) (.i t0)) H0 :=
  RunsTo.hin N 60 [⟨1, 0, tv, H⟩, ⟨1, 2, .i v, H⟩, ⟨1, 3, .i t0, H0⟩] fun kf hk => ⟨_, by kernel_rfl, (oP H g0 (oP H g1 (oC (g2 kf (by omega)) .nil)))⟩
end Go.Proofs.Ytmhfkhlamnapdaa
end
section
open Go Go.HL
namespace Go.Proofs.Ytmhfkhlamnapdaa
set_option maxRecDepth 100000
noncomputable def B67 : Code := Try.f67.body.getD .skip
abbrev env67 (v0 v1 v2 v5 : HV) : Env := [(0, v0), (1, v1), (2, v2), (5, v5)]
theorem cmq_a_0 (N : Nat) (x y : Int) (fb tb vb : Nat) (H : Heap) (t0 : Int) (H0 : Heap) (t1 : Int) (H1 : Heap) (c0 : Int) (H2 : Heap) (g0 : loadV Try.prog H 62 (.ptr fb 0 0 1) = some (.func 64 [] [.ptr tb 0 0 1, .ptr vb 0 0 1])) (g1 : ∀ kf, N ≤ kf → callN Try.prog polS (kf + 1) 64 [.i y, .ptr tb 0 0 1, .ptr vb 0 0 1] H = some (.i t0, H0)) (g2 : loadV Try.prog H0 62 (.ptr fb 0 0 1) = some (.func 64 [] [.ptr tb 0 0 1, .ptr vb 0 0 1])) (g3 : ∀ kf, N ≤ kf → callN Try.prog polS (kf + 1) 64 [.i x, .ptr tb 0 0 1, .ptr vb 0 0 1] H0 = some (.i t1, H1)) (g4 : ∀ kf, callN Try.prog polS (kf + 1) 68 [.i t0, .i t1] H1 = some (.i c0, H2)) (gS1 : (recL ((loadV Try.prog H0 62 (.ptr fb 0 0 1)).map (fun v => (v, (H0 : Heap)))) ((loadV Try.prog H 62 (.ptr fb 0 0 1)).map (fun v => (v, (H : Heap)))) H0 H && true) = true) : RunsTo Try.prog polS 67 (sub [] B67) [(0, .i x), (1, .i y), (2, .ptr fb 0 0 1)] H .ret (polS.keys 67) (env67 (.i x) (.i y) (.ptr fb 0 0 1) (.i c0)) H2 :=
  RunsTo.hin N 60 [⟨1, 0, .func 64 [] [.ptr tb 0 0 1, .ptr vb 0 0 1], H⟩, ⟨1, 2, .i t0, H0⟩, ⟨1, 3, .func 64 [] [.ptr tb 0 0 1, .ptr vb 0 0 1], H0⟩, ⟨1, 5, .i t1, H1⟩, ⟨1, 6, .i c0, H2⟩] fun kf hk => ⟨_, by kernel_rfl, (oC (gS1) (oP H g0 (oC (g1 kf (by omega)) (oP H0 g2 (oC (g3 kf (by omega)) (oC (g4 kf) .nil))))))⟩
end Go.Proofs.Ytmhfkhlamnapdaa
end
section
open Go Go.HL
namespace Go.Proofs.Ytmhfkhlamnapdaa
theorem i62t : (Try.prog.underlying 62).isSome = true := by kernel_rfl
theorem a62t : tyAgg Try.prog 62 = false := by kernel_rfl
theorem a70t : tyAgg Try.prog 70 = false := by kernel_rfl
theorem i70t : (Try.prog.underlying 70).isSome = true := by kernel_rfl
theorem a55t : tyAgg Try.prog 55 = false := by kernel_rfl
theorem i55t : (Try.prog.underlying 55).isSome = true := by kernel_rfl
abbrev TV (n : Nat) : HV := .agg [.sl 0 0 n none n 1, .map 1]
abbrev boxT (n : Nat) : Blk := .arr 2 [TV n] true 2
abbrev boxI (v : Int) : Blk := .arr 1 [.int .i64 v] true 0
abbrev boxF (tb vb : Nat) : Blk := .arr 1 [.func 64 [] [.ptr tb 0 0 1, .ptr vb 0 0 1]] true (max (tb + 1) (vb + 1))
theorem ld_T {H : Heap} {b n : Nat} (h : H[b]? = some (boxT n)) : loadV Try.prog H 72 (.ptr b 0 0 1) = some (TV n) := load_agg h rfl rfl a72 s72
theorem ld_m {H : Heap} {b n : Nat} (h : H[b]? = some (boxT n)) : loadV Try.prog H 70 (.ptr b 0 1 1) = some (.map 1) := load_cell h rfl rfl a70t i70t rfl
theorem ld_n {H : Heap} {b n : Nat} (h : H[b]? = some (boxT n)) : loadV Try.prog H 55 (.ptr b 0 0 1) = some (.sl 0 0 n none n 1) := load_cell h rfl rfl a55t i55t rfl
theorem ld_I {H : Heap} {b : Nat} {v : Int} (h : H[b]? = some (boxI v)) : loadV Try.prog H 3 (.ptr b 0 0 1) = some (.int .i64 v) := load_elem h rfl rfl rfl a3b i3b
theorem ld_F {H : Heap} {b tb vb : Nat} (h : H[b]? = some (boxF tb vb)) : loadV Try.prog H 62 (.ptr b 0 0 1) = some (.func 64 [] [.ptr tb 0 0 1, .ptr vb 0 0 1]) := load_elem h rfl rfl rfl a62t i62t
theorem same_T (n : Nat) : sameH [boxT n] [boxT n] = true := by simp [sameH, sameL, same]
theorem same_I (v : Int) : sameH [boxI v] [boxI v] = true := by simp [sameH, sameL, same]
theorem same_F (tb vb : Nat) : sameH [boxF tb vb] [boxF tb vb] = true := by simp [sameH, sameL, same]
def TimeOk (adj : List (List Nat)) (T : Int → Int → Int) (n : Nat) (v w : Int) : Prop :=
  ∀ H, Mem adj T H → ∃ H', Cl 47 [TV n, .int .i64 v, .int .i64 w] H (.int .i64 (T v w)) H' ∧ Gr adj T H H'
theorem res64 : Try.f64.results.toList = [.tmp 4] := by kernel_rfl
theorem res67 : Try.f67.results.toList = [.tmp 5] := by kernel_rfl
section
variable {adj : List (List Nat)} {T : Int → Int → Int} {n : Nat}
theorem by_call {H : Heap} {u v : Int} {tb vb : Nat} (hM : Mem adj T H) (ht : H[tb]? = some (boxT n)) (hv : H[vb]? = some (boxI v)) (hT : TimeOk adj T n u v) :
    ∃ H', Cl 64 [.int .i64 u, .ptr tb 0 0 1, .ptr vb 0 0 1] H (.int .i64 (T u v)) H' ∧ Mem adj T H' ∧ Fr H H' := by
  obtain ⟨H1, hcl, hG⟩ := hT H hM
  obtain ⟨N, hN⟩ := hcl.from
  have t := by_a_0 N u v tb vb (TV n) H (T u v) H1 (ld_T ht) (ld_I hv) hN
  have hcl := CallsTo.shared (P := Try.prog) (pol := polS) (g := 64) (fn := Try.f64) (cd := B64) (args := [.int .i64 u, .ptr tb 0 0 1, .ptr vb 0 0 1]) (v := .int .i64 (T u v)) (by kernel_rfl) (by kernel_rfl) (by kernel_rfl) (by kernel_rfl) t (by kernel_rfl) (by simp) (by simp only [resultsV, res64, mapO, resultV]; rfl)
  obtain ⟨h1, h2⟩ := hG.fr hM.two (r := 0) (by omega)
  exact ⟨_, hcl, h1, h2⟩
end
section
variable {adj : List (List Nat)} {T : Int → Int → Int} {n : Nat}
structure KOk (adj : List (List Nat)) (T : Int → Int → Int) (n : Nat) (v : Int) (tb vb fb : Nat) (H : Heap) : Prop where
  mem : Mem adj T H
  t : H[tb]? = some (boxT n)
  v : H[vb]? = some (boxI v)
  f : H[fb]? = some (boxF tb vb)
end
section
variable {adj : List (List Nat)} {T : Int → Int → Int} {n : Nat}
theorem KOk.fr {v : Int} {tb vb fb : Nat} {H H' : Heap} (h : KOk adj T n v tb vb fb H) (hb : tb ≠ 1 ∧ vb ≠ 1 ∧ fb ≠ 1) (hM : Mem adj T H') (hF : Fr H H') : KOk adj T n v tb vb fb H' :=
  ⟨hM, by rw [hF.same _ hb.1]; exact h.t, by rw [hF.same _ hb.2.1]; exact h.v, by rw [hF.same _ hb.2.2]; exact h.f⟩
end
section
variable {adj : List (List Nat)} {T : Int → Int → Int} {n : Nat}
theorem c68 (a b : Int) (H : Heap) : ∀ kf, callN Try.prog polS (kf + 1) 68 [.int .i64 a, .int .i64 b] H = some (.int .i64 (cmpI a b), H) := fun kf => by
  rw [prim_call (pol := polS) (g := 68) (F := compare68) (by kernel_rfl) (rs := [.int .i64 a, .int .i64 b]) rfl (res := .int .i64 (cmpI a b)) rfl]; rfl
end
section
variable {adj : List (List Nat)} {T : Int → Int → Int} {n : Nat}
theorem cmp_call {H : Heap} {v x y : Int} {tb vb fb : Nat} (hb : tb ≠ 1 ∧ vb ≠ 1 ∧ fb ≠ 1) (h : KOk adj T n v tb vb fb H) (hx : TimeOk adj T n x v) (hy : TimeOk adj T n y v) :
    ∃ H', Cl 67 [.int .i64 x, .int .i64 y, .ptr fb 0 0 1] H (.int .i64 (cmpI (T y v) (T x v))) H' ∧ KOk adj T n v tb vb fb H' ∧ Fr H H' := by
  obtain ⟨H1, c1, hM1, hF1⟩ := by_call h.mem h.t h.v hy
  obtain ⟨N1, hN1⟩ := c1.from
  have h1 := h.fr hb hM1 hF1
  obtain ⟨H2, c2, hM2, hF2⟩ := by_call h1.mem h1.t h1.v hx
  obtain ⟨N2, hN2⟩ := c2.from
  have h2 := h1.fr hb hM2 hF2
  have r0 := h.mem.rf
  have r1 := hM1.rf
  have gS : (recL ((loadV Try.prog H1 62 (.ptr fb 0 0 1)).map (fun v => (v, (H1 : Heap)))) ((loadV Try.prog H 62 (.ptr fb 0 0 1)).map (fun v => (v, (H : Heap)))) H1 H && true) = true := by
    have l1 := ld_F h1.f
    have l0 := ld_F h.f
    simp only [l1, l0, Option.map, recL, same, sameL, r0, r1, beq_self_eq_true, Bool.and_self]
  have t := cmq_a_0 (max N1 N2) x y fb tb vb H (T y v) H1 (T x v) H2 (cmpI (T y v) (T x v)) H2 (ld_F h.f) (fun kf hk => hN1 kf (by omega)) (ld_F h1.f) (fun kf hk => hN2 kf (by omega)) (c68 _ _ _) gS
  have hcl := CallsTo.shared (P := Try.prog) (pol := polS) (g := 67) (fn := Try.f67) (cd := B67) (args := [.int .i64 x, .int .i64 y, .ptr fb 0 0 1]) (v := .int .i64 (cmpI (T y v) (T x v))) (by kernel_rfl) (by kernel_rfl) (by kernel_rfl) (by kernel_rfl) t (by kernel_rfl) (by simp) (by simp only [resultsV, res67, mapO, resultV]; rfl)
  have hF := hF1.trans hF2
  rw [gc_eq _ hF.len] at hcl
  exact ⟨_, hcl, h2, hF⟩
end
section
variable {adj : List (List Nat)} {T : Int → Int → Int} {n : Nat}
theorem cmp_ok {v : Int} {tb vb fb db : Nat} {dom : Int → Prop} (hb : tb ≠ 1 ∧ vb ≠ 1 ∧ fb ≠ 1) (hd : 2 ≤ db ∧ db ≠ tb ∧ db ≠ vb ∧ db ≠ fb) (hT : ∀ u, dom u → TimeOk adj T n u v) : Cmp db (.ptr fb 0 0 1) (fun u => T u v) dom (KOk adj T n v tb vb fb) where
  one := by omega
  call H x y hK hx hy := by
    obtain ⟨H', h1, h2, h3⟩ := cmp_call hb hK (hT x hx) (hT y hy)
    refine ⟨_, H', h1, ?_, h2, h3⟩
    unfold cmpI
    split
    · simp; assumption
    · split <;> simp <;> omega
  put H l l' hK hl hlen := by
    refine ⟨hK.mem.set hd.1 ?_ (Nat.zero_le _), ?_, ?_, ?_⟩
    · exact same_arr fun v hv => by
        obtain ⟨k, _, rfl⟩ := List.mem_map.1 hv
        simp [encI, same]
    · rw [List.getElem?_set_ne hd.2.1]; exact hK.t
    · rw [List.getElem?_set_ne hd.2.2.1]; exact hK.v
    · rw [List.getElem?_set_ne hd.2.2.2]; exact hK.f
end
end Go.Proofs.Ytmhfkhlamnapdaa
end
section
open Go Go.HL
namespace Go.Proofs.Ytmhfkhlamnapdaa
set_option maxRecDepth 100000
noncomputable def B62 : Code := Try.f62.body.getD .skip
abbrev env62 (v0 v1 v3 : HV) : Env := [(0, v0), (1, v1), (3, v3)]
theorem eq_a_0 (u : Int) (fb : Nat) (w : Int) (H : Heap)(g0 : loadV Try.prog H 3 (.ptr fb 0 0 1) = some (.i w)) (g1 : u = w) : RunsTo Try.prog polS 62 (sub [] B62) [(0, .i u), (1, .ptr fb 0 0 1)] H .ret (polS.keys 62) (env62 (.i u) (.ptr fb 0 0 1) (.bool true)) H :=
  RunsTo.hin 0 60 [⟨1, 1, .i w, H⟩, ⟨1, 2, .bool true, H⟩] fun kf hk => ⟨_, by kernel_rfl, (oP H g0 (oB H (decide_eq_true g1) .nil))⟩
theorem eq_a_1 (u : Int) (fb : Nat) (w : Int) (H : Heap)(g0 : loadV Try.prog H 3 (.ptr fb 0 0 1) = some (.i w)) (g1 : ¬ (u = w)) : RunsTo Try.prog polS 62 (sub [] B62) [(0, .i u), (1, .ptr fb 0 0 1)] H .ret (polS.keys 62) (env62 (.i u) (.ptr fb 0 0 1) (.bool false)) H :=
  RunsTo.hin 0 60 [⟨1, 1, .i w, H⟩, ⟨1, 2, .bool false, H⟩] fun kf hk => ⟨_, by kernel_rfl, (oP H g0 (oB H (decide_eq_false g1) .nil))⟩
end Go.Proofs.Ytmhfkhlamnapdaa
end
section
open Go Go.HL
namespace Go.Proofs.Ytmhfkhlamnapdaa
set_option maxRecDepth 100000
noncomputable def B65 : Code := Try.f65.body.getD .skip
abbrev env65 (v0 v1 v4 v5 v7 v8 : HV) : Env := [(0, v0), (1, v1), (4, v4), (5, v5), (7, v7), (8, v8)]
theorem ifx_a_0 (N : Nat) (db n fb : Nat) (H : Heap) : RunsTo Try.prog polS 65 (sub [0] B65) [(0, .sl db 0 n none n 1), (1, .func 62 [] [.ptr fb 0 0 1])] H .normal (polS.keys 65) (env65 (.sl db 0 n none n 1) (.func 62 [] [.ptr fb 0 0 1]) (.i 0) .undef .undef .undef) H :=
  RunsTo.hin N 60 [] fun kf hk => ⟨_, by kernel_rfl, .nil⟩
theorem ifx_b_0 (N : Nat) (db n fb : Nat) (H : Heap) : RunsTo Try.prog polS 65 (sub [1, 0, 0] B65) (env65 (.sl db 0 n none n 1) (.func 62 [] [.ptr fb 0 0 1]) (.i 0) .undef .undef .undef) H .normal (polS.keys 65) (env65 (.sl db 0 n none n 1) (.func 62 [] [.ptr fb 0 0 1]) (.i 0) .undef (.i (n : Int)) (.i 0)) H :=
  RunsTo.hin N 60 [] fun kf hk => ⟨_, by kernel_rfl, .nil⟩
theorem ifx_l_0 (N : Nat) (db n fb : Nat) (H : Heap) (i : Nat) (x0 : Int) (H0 : Heap) (g0 : (i : Int) < (n : Int)) (g1 : idxV Try.prog 24 (.sl db 0 n none n 1) (.i (i : Int)) = some (.ptr db i 0 n)) (g2 : loadV Try.prog H 3 (.ptr db i 0 n) = some (.i x0)) (g3 : ∀ kf, N ≤ kf → callN Try.prog polS (kf + 1) 62 [.i x0, .ptr fb 0 0 1] H = some (.bool true, H0)) : RunsTo Try.prog polS 65 (sub [1, 0, 1, 0, 0] B65) (env65 (.sl db 0 n none n 1) (.func 62 [] [.ptr fb 0 0 1]) (.i 0) .undef (.i (n : Int)) (.i (i : Int))) H .ret (polS.keys 65) (env65 (.sl db 0 n none n 1) (.func 62 [] [.ptr fb 0 0 1]) (.i (i : Int)) (.i (i : Int)) (.i (n : Int)) (.i (i : Int))) H0 :=
  RunsTo.hin N 60 [⟨2, 0, .bool true, H⟩, ⟨4, 3, .ptr db i 0 n, H⟩, ⟨4, 4, .i x0, H⟩, ⟨4, 5, .bool true, H0⟩] fun kf hk => ⟨_, by kernel_rfl, (oB H (decide_eq_true g0) (oP H g1 (oP H g2 (oC (g3 kf (by omega)) .nil))))⟩
theorem ifx_l_1 (N : Nat) (db n fb : Nat) (H : Heap) (i : Nat) (x0 : Int) (H0 : Heap) (g0 : (i : Int) < (n : Int)) (g1 : idxV Try.prog 24 (.sl db 0 n none n 1) (.i (i : Int)) = some (.ptr db i 0 n)) (g2 : loadV Try.prog H 3 (.ptr db i 0 n) = some (.i x0)) (g3 : ∀ kf, N ≤ kf → callN Try.prog polS (kf + 1) 62 [.i x0, .ptr fb 0 0 1] H = some (.bool false, H0)) : RunsTo Try.prog polS 65 (sub [1, 0, 1, 0, 0] B65) (env65 (.sl db 0 n none n 1) (.func 62 [] [.ptr fb 0 0 1]) (.i 0) .undef (.i (n : Int)) (.i (i : Int))) H .normal (polS.keys 65) (env65 (.sl db 0 n none n 1) (.func 62 [] [.ptr fb 0 0 1]) (.i 0) (.i (i : Int)) (.i (n : Int)) (.i (IntKind.i64.wrap ((i : Int) + 1)))) H0 :=
  RunsTo.hin N 60 [⟨2, 0, .bool true, H⟩, ⟨4, 3, .ptr db i 0 n, H⟩, ⟨4, 4, .i x0, H⟩, ⟨4, 5, .bool false, H0⟩] fun kf hk => ⟨_, by kernel_rfl, (oB H (decide_eq_true g0) (oP H g1 (oP H g2 (oC (g3 kf (by omega)) .nil))))⟩
theorem ifx_l_2 (N : Nat) (db n fb : Nat) (H : Heap) (i : Nat)(g0 : ¬ ((i : Int) < (n : Int))) : RunsTo Try.prog polS 65 (sub [1, 0, 1, 0, 0] B65) (env65 (.sl db 0 n none n 1) (.func 62 [] [.ptr fb 0 0 1]) (.i 0) .undef (.i (n : Int)) (.i (i : Int))) H (.exit 0) (polS.keys 65) (env65 (.sl db 0 n none n 1) (.func 62 [] [.ptr fb 0 0 1]) (.i 0) .undef (.i (n : Int)) (.i (i : Int))) H :=
  RunsTo.hin N 60 [⟨2, 0, .bool false, H⟩] fun kf hk => ⟨_, by kernel_rfl, (oB H (decide_eq_false g0) .nil)⟩
theorem ifx_z_0 (N : Nat) (db n fb : Nat) (H : Heap) (i : Nat) (x5 : HV) : RunsTo Try.prog polS 65 (sub [1, 1] B65) (env65 (.sl db 0 n none n 1) (.func 62 [] [.ptr fb 0 0 1]) (.i 0) x5 (.i (n : Int)) (.i (i : Int))) H .ret (polS.keys 65) (env65 (.sl db 0 n none n 1) (.func 62 [] [.ptr fb 0 0 1]) (.i (-1)) x5 (.i (n : Int)) (.i (i : Int))) H :=
  RunsTo.hin N 60 [] fun kf hk => ⟨_, by kernel_rfl, .nil⟩
end Go.Proofs.Ytmhfkhlamnapdaa
end
section
open Go Go.HL
namespace Go.Proofs.Ytmhfkhlamnapdaa
set_option maxRecDepth 100000
noncomputable def B60 : Code := Try.f60.body.getD .skip
abbrev env60 (v0 v1 v4 v5 v6 v7 : HV) : Env := [(0, v0), (1, v1), (4, v4), (5, v5), (6, v6), (7, v7)]
theorem df_a_0 (N : Nat) (db n fb : Nat) (H : Heap) : RunsTo Try.prog polS 60 (sub [0] B60) [(0, .sl db 0 n none n 1), (1, .func 62 [] [.ptr fb 0 0 1])] H .normal (polS.keys 60) (env60 (.sl db 0 n none n 1) (.func 62 [] [.ptr fb 0 0 1]) (.imm .lit 1 []) .undef .undef .undef) H :=
  RunsTo.hin N 60 [] fun kf hk => ⟨_, by kernel_rfl, .nil⟩
theorem df_b_0 (N : Nat) (db n fb : Nat) (H : Heap) (r : Int) (H0 : Heap) (g0 : ∀ kf, N ≤ kf → callN Try.prog polS (kf + 1) 65 [.sl db 0 n none n 1, .func 62 [] [.ptr fb 0 0 1]] H = some (.i r, H0)) : RunsTo Try.prog polS 60 (sub [1, 0] B60) (env60 (.sl db 0 n none n 1) (.func 62 [] [.ptr fb 0 0 1]) (.imm .lit 1 []) .undef .undef .undef) H .normal (polS.keys 60) (env60 (.sl db 0 n none n 1) (.func 62 [] [.ptr fb 0 0 1]) (.imm .lit 1 []) (.i r) .undef .undef) H0 :=
  RunsTo.hin N 60 [⟨1, 2, .i r, H0⟩] fun kf hk => ⟨_, by kernel_rfl, (oC (g0 kf (by omega)) .nil)⟩
theorem df_c_0 (N : Nat) (db n fb : Nat) (H : Heap) (i : Int)(g0 : i = (-1)) : RunsTo Try.prog polS 60 (sub [1, 1, 0] B60) (env60 (.sl db 0 n none n 1) (.func 62 [] [.ptr fb 0 0 1]) (.imm .lit 1 []) (.i i) .undef .undef) H .ret (polS.keys 60) (env60 (.sl db 0 n none n 1) (.func 62 [] [.ptr fb 0 0 1]) (.sl db 0 n none n 1) (.i i) .undef .undef) H :=
  RunsTo.hin N 60 [⟨2, 1, .bool true, H⟩] fun kf hk => ⟨_, by kernel_rfl, (oB H (decide_eq_true g0) .nil)⟩
theorem df_c_1 (N : Nat) (db n fb : Nat) (H : Heap) (i : Int)(g0 : ¬ (i = (-1))) : RunsTo Try.prog polS 60 (sub [1, 1, 0] B60) (env60 (.sl db 0 n none n 1) (.func 62 [] [.ptr fb 0 0 1]) (.imm .lit 1 []) (.i i) .undef .undef) H .normal (polS.keys 60) (env60 (.sl db 0 n none n 1) (.func 62 [] [.ptr fb 0 0 1]) (.imm .lit 1 []) (.i i) .undef .undef) H :=
  RunsTo.hin N 60 [⟨2, 1, .bool false, H⟩] fun kf hk => ⟨_, by kernel_rfl, (oB H (decide_eq_false g0) .nil)⟩
theorem df_d_0 (N : Nat) (db n fb : Nat) (H : Heap) (i : Nat) : RunsTo Try.prog polS 60 (sub [1, 1, 1, 0, 0] B60) (env60 (.sl db 0 n none n 1) (.func 62 [] [.ptr fb 0 0 1]) (.imm .lit 1 []) (.i (i : Int)) .undef .undef) H .normal (polS.keys 60) (env60 (.sl db 0 n none n 1) (.func 62 [] [.ptr fb 0 0 1]) (.imm .lit 1 []) (.i (i : Int)) (.i (IntKind.i64.wrap ((i : Int) + 1))) .undef) H :=
  RunsTo.hin N 60 [] fun kf hk => ⟨_, by kernel_rfl, .nil⟩
theorem df_l_0 (N : Nat) (db n fb : Nat) (H : Heap) (i j : Nat) (x7 : HV) (x0 : Int) (H0 : Heap) (g0 : (j : Int) < (n : Int)) (g1 : idxV Try.prog 24 (.sl db 0 n none n 1) (.i (j : Int)) = some (.ptr db j 0 n)) (g2 : loadV Try.prog H 3 (.ptr db j 0 n) = some (.i x0)) (g3 : ∀ kf, N ≤ kf → callN Try.prog polS (kf + 1) 62 [.i x0, .ptr fb 0 0 1] H = some (.bool true, H0)) : RunsTo Try.prog polS 60 (sub [1, 1, 1, 0, 1, 0, 0] B60) (env60 (.sl db 0 n none n 1) (.func 62 [] [.ptr fb 0 0 1]) (.imm .lit 1 []) (.i (i : Int)) (.i (j : Int)) x7) H .normal (polS.keys 60) (env60 (.sl db 0 n none n 1) (.func 62 [] [.ptr fb 0 0 1]) (.imm .lit 1 []) (.i (i : Int)) (.i (IntKind.i64.wrap ((j : Int) + 1))) (.i x0)) H0 :=
  RunsTo.hin N 60 [⟨5, 3, .bool true, H⟩, ⟨7, 2, .ptr db j 0 n, H⟩, ⟨7, 3, .i x0, H⟩, ⟨8, 2, .bool true, H0⟩] fun kf hk => ⟨_, by kernel_rfl, (oB H (decide_eq_true g0) (oP H g1 (oP H g2 (oC (g3 kf (by omega)) .nil))))⟩
theorem df_l_1 (N : Nat) (db n fb : Nat) (H : Heap) (i j : Nat) (x7 : HV) (x0 : Int) (H0 : Heap) (H1 : Heap) (g0 : (j : Int) < (n : Int)) (g1 : idxV Try.prog 24 (.sl db 0 n none n 1) (.i (j : Int)) = some (.ptr db j 0 n)) (g2 : loadV Try.prog H 3 (.ptr db j 0 n) = some (.i x0)) (g3 : ∀ kf, N ≤ kf → callN Try.prog polS (kf + 1) 62 [.i x0, .ptr fb 0 0 1] H = some (.bool false, H0)) (g4 : idxV Try.prog 24 (.sl db 0 n none n 1) (.i (i : Int)) = some (.ptr db i 0 n)) (g5 : storeV Try.prog H0 3 (.ptr db i 0 n) (.i x0) = some H1) : RunsTo Try.prog polS 60 (sub [1, 1, 1, 0, 1, 0, 0] B60) (env60 (.sl db 0 n none n 1) (.func 62 [] [.ptr fb 0 0 1]) (.imm .lit 1 []) (.i (i : Int)) (.i (j : Int)) x7) H .normal (polS.keys 60) (env60 (.sl db 0 n none n 1) (.func 62 [] [.ptr fb 0 0 1]) (.imm .lit 1 []) (.i (IntKind.i64.wrap ((i : Int) + 1))) (.i (IntKind.i64.wrap ((j : Int) + 1))) (.i x0)) H1 :=
  RunsTo.hin N 60 [⟨5, 3, .bool true, H⟩, ⟨7, 2, .ptr db j 0 n, H⟩, ⟨7, 3, .i x0, H⟩, ⟨8, 2, .bool false, H0⟩, ⟨9, 3, .ptr db i 0 n, H0⟩, ⟨9, 4, .tuple [], H1⟩] fun kf hk => ⟨_, by kernel_rfl, (oB H (decide_eq_true g0) (oP H g1 (oP H g2 (oC (g3 kf (by omega)) (oP H0 g4 (oS g5 .nil))))))⟩
theorem df_l_2 (N : Nat) (db n fb : Nat) (H : Heap) (i j : Nat) (x7 : HV)(g0 : ¬ ((j : Int) < (n : Int))) : RunsTo Try.prog polS 60 (sub [1, 1, 1, 0, 1, 0, 0] B60) (env60 (.sl db 0 n none n 1) (.func 62 [] [.ptr fb 0 0 1]) (.imm .lit 1 []) (.i (i : Int)) (.i (j : Int)) x7) H (.exit 0) (polS.keys 60) (env60 (.sl db 0 n none n 1) (.func 62 [] [.ptr fb 0 0 1]) (.imm .lit 1 []) (.i (i : Int)) (.i (j : Int)) x7) H :=
  RunsTo.hin N 60 [⟨5, 3, .bool false, H⟩] fun kf hk => ⟨_, by kernel_rfl, (oB H (decide_eq_false g0) .nil)⟩
theorem df_z_0 (N : Nat) (db n fb : Nat) (H : Heap) (i j : Nat) (x7 : HV) (H0 : Heap) (g0 : sliceV Try.prog 24 (.sl db 0 n none n 1) (some (.i (i : Int))) none none = some (.sl db i (n - i) none n 1)) (g1 : clearV Try.prog H 24 (.sl db i (n - i) none n 1) = some (.tuple [], H0)) (g2 : sliceV Try.prog 24 (.sl db 0 n none n 1) none (some (.i (i : Int))) none = some (.sl db 0 i none n 1)) : RunsTo Try.prog polS 60 (sub [1, 1, 1, 1] B60) (env60 (.sl db 0 n none n 1) (.func 62 [] [.ptr fb 0 0 1]) (.imm .lit 1 []) (.i (i : Int)) (.i (j : Int)) x7) H .ret (polS.keys 60) (env60 (.sl db 0 n none n 1) (.func 62 [] [.ptr fb 0 0 1]) (.sl db 0 i none n 1) (.i (i : Int)) (.i (j : Int)) x7) H0 :=
  RunsTo.hin N 60 [⟨11, 2, .sl db i (n - i) none n 1, H⟩, ⟨11, 3, .tuple [], H0⟩, ⟨12, 2, .sl db 0 i none n 1, H0⟩] fun kf hk => ⟨_, by kernel_rfl, (oP H g0 (oC (g1) (oP H0 g2 .nil)))⟩
end Go.Proofs.Ytmhfkhlamnapdaa
end
section
open Go Go.HL
namespace Go.Proofs.Ytmhfkhlamnapdaa
theorem res62 : Try.f62.results.toList = [.tmp 3] := by kernel_rfl
theorem res65 : Try.f65.results.toList = [.tmp 4] := by kernel_rfl
theorem res60 : Try.f60.results.toList = [.tmp 4] := by kernel_rfl
theorem eq_call {H : Heap} {fb : Nat} {w : Int} (hf : H[fb]? = some (boxI w)) (u : Int) : Cl 62 [.int .i64 u, .ptr fb 0 0 1] H (.bool (decide (u = w))) H := by
  by_cases c : u = w
  · have t := eq_a_0 u fb w H (ld_I hf) c
    have hcl := CallsTo.shared (P := Try.prog) (pol := polS) (g := 62) (fn := Try.f62) (cd := B62) (args := [.int .i64 u, .ptr fb 0 0 1]) (v := .bool (decide (u = w))) (by kernel_rfl) (by kernel_rfl) (by kernel_rfl) (by kernel_rfl) t (by kernel_rfl) (by simp) (by rw [decide_eq_true c]; simp only [resultsV, res62, mapO, resultV]; rfl)
    rw [gc_eq _ rfl] at hcl
    exact hcl
  · have t := eq_a_1 u fb w H (ld_I hf) c
    have hcl := CallsTo.shared (P := Try.prog) (pol := polS) (g := 62) (fn := Try.f62) (cd := B62) (args := [.int .i64 u, .ptr fb 0 0 1]) (v := .bool (decide (u = w))) (by kernel_rfl) (by kernel_rfl) (by kernel_rfl) (by kernel_rfl) t (by kernel_rfl) (by simp) (by rw [decide_eq_false c]; simp only [resultsV, res62, mapO, resultV]; rfl)
    rw [gc_eq _ rfl] at hcl
    exact hcl
theorem eq_N {H : Heap} {fb : Nat} {w : Int} (hf : H[fb]? = some (boxI w)) (u : Int) (b : Bool) (hb : decide (u = w) = b) : ∃ N, ∀ kf, N ≤ kf → callN Try.prog polS (kf + 1) 62 [.int .i64 u, .ptr fb 0 0 1] H = some (.bool b, H) := by
  subst hb; exact (eq_call hf u).from
theorem gi2 {db n y : Nat} (hy : y < n) : idxV Try.prog 24 (.sl db 0 n none n 1) (.int .i64 (y : Int)) = some (.ptr db y 0 n) := by
  have := gi_ (db := db) hy
  rwa [Int.toNat_natCast] at this
theorem gl2 {H : Heap} {db n y : Nat} {l : List Int} (hb : H[db]? = some (bI l)) (hl : l.length = n) (hy : y < n) : loadV Try.prog H 3 (.ptr db y 0 n) = some (.int .i64 (l.getD y 0)) := by
  subst hl; exact load_out hb hy
section
variable {H : Heap} {db n fb : Nat} {l : List Int} {w : Int}
abbrev ifE (db n fb : Nat) (a : Int) (v5 : HV) (b c : Int) : Env := env65 (.sl db 0 n none n 1) (.func 62 [] [.ptr fb 0 0 1]) (.int .i64 a) v5 (.int .i64 b) (.int .i64 c)
end
section
variable {H : Heap} {db n fb : Nat} {l : List Int} {w : Int}
theorem ifx_loop (hb : H[db]? = some (bI l)) (hl : l.length = n) (hn : n ≤ 1000) (hf : H[fb]? = some (boxI w)) : ∀ d i, i + d = n → (∀ j, j < i → l.getD j 0 ≠ w) →
    (∃ j : Nat, j < n ∧ l.getD j 0 = w ∧ (∀ k, k < j → l.getD k 0 ≠ w) ∧ RunsTo Try.prog polS 65 (sub [1, 0, 1, 0] B65) (ifE db n fb 0 .undef n i) H .ret (polS.keys 65) (ifE db n fb j (.int .i64 j) n j) H) ∨
    ((∀ j, j < n → l.getD j 0 ≠ w) ∧ RunsTo Try.prog polS 65 (sub [1, 0, 1, 0] B65) (ifE db n fb 0 .undef n i) H (.exit 0) (polS.keys 65) (ifE db n fb 0 .undef n n) H) := by
  intro d
  induction d with
  | zero =>
    intro i hi h
    have hi : i = n := by omega
    subst hi
    exact .inr ⟨h, RunsTo.loop_out (ifx_l_2 0 db i fb H i (by omega)) (by simp) (by kernel_rfl) (by kernel_rfl)⟩
  | succ d ih =>
    intro i hi h
    by_cases c : l.getD i 0 = w
    · obtain ⟨N, hN⟩ := eq_N hf (l.getD i 0) true (decide_eq_true c)
      exact .inl ⟨i, by omega, c, h, RunsTo.loop_out (ifx_l_0 N db n fb H i _ H (by omega) (gi2 (by omega)) (gl2 hb hl (by omega)) hN) (by simp) (by kernel_rfl) (by kernel_rfl)⟩
    · obtain ⟨N, hN⟩ := eq_N hf (l.getD i 0) false (decide_eq_false c)
      have s := ifx_l_1 N db n fb H i _ H (by omega) (gi2 (by omega)) (gl2 hb hl (by omega)) hN
      rw [wrap_succ (by omega)] at s
      rcases ih (i + 1) (by omega) (fun j hj => by
        by_cases e : j = i
        · rw [e]; exact c
        · exact h j (by omega)) with ⟨j, h1, h2, h3, r⟩ | ⟨h1, r⟩
      · exact .inl ⟨j, h1, h2, h3, RunsTo.loop s (by kernel_rfl) (gc_eq _ rfl) r rfl (by kernel_rfl) (by kernel_rfl)⟩
      · exact .inr ⟨h1, RunsTo.loop s (by kernel_rfl) (gc_eq _ rfl) r rfl (by kernel_rfl) (by kernel_rfl)⟩
end
section
variable {H : Heap} {db n fb : Nat} {l : List Int} {w : Int}
theorem ifx_call (hb : H[db]? = some (bI l)) (hl : l.length = n) (hn : n ≤ 1000) (hf : H[fb]? = some (boxI w)) :
    ∃ r : Int, Cl 65 [.sl db 0 n none n 1, .func 62 [] [.ptr fb 0 0 1]] H (.int .i64 r) H ∧ ((∃ j : Nat, r = j ∧ j < n ∧ l.getD j 0 = w ∧ ∀ k, k < j → l.getD k 0 ≠ w) ∨ (r = -1 ∧ ∀ j, j < n → l.getD j 0 ≠ w)) := by
  have a := ifx_a_0 0 db n fb H
  have b := ifx_b_0 0 db n fb H
  have done : ∀ (r : Int) (E : Env), RunsTo Try.prog polS 65 (sub [1] B65) (env65 (.sl db 0 n none n 1) (.func 62 [] [.ptr fb 0 0 1]) (.int .i64 0) .undef .undef .undef) H .ret (polS.keys 65) E H → E.get 4 = .int .i64 r → Cl 65 [.sl db 0 n none n 1, .func 62 [] [.ptr fb 0 0 1]] H (.int .i64 r) H := by
    intro r E t h4
    have t2 := RunsTo.seq a t (c := B65) (by kernel_rfl) (by kernel_rfl)
    have hcl := CallsTo.shared (P := Try.prog) (pol := polS) (g := 65) (fn := Try.f65) (cd := B65) (args := [.sl db 0 n none n 1, .func 62 [] [.ptr fb 0 0 1]]) (v := .int .i64 r) (by kernel_rfl) (by kernel_rfl) (by kernel_rfl) (by kernel_rfl) t2 (by kernel_rfl) (by simp) (by simp only [resultsV, res65, mapO, resultV, h4])
    rw [gc_eq _ rfl] at hcl
    exact hcl
  rcases ifx_loop hb hl hn hf n 0 (by omega) (fun j hj => by omega) with ⟨j, h1, h2, h3, r⟩ | ⟨h1, r⟩
  · have t1 := RunsTo.seq b (RunsTo.block_ret (i := 0) (c := sub [1, 0, 1] B65) r (by kernel_rfl)) (c := sub [1, 0] B65) (by kernel_rfl) (by kernel_rfl)
    exact ⟨j, done j _ (RunsTo.seq_out t1 (by simp) (c := sub [1] B65) (b := sub [1, 1] B65) (by kernel_rfl)) rfl, .inl ⟨j, rfl, h1, h2, h3⟩⟩
  · have t1 := RunsTo.seq b (RunsTo.block_exit (c := sub [1, 0, 1] B65) r (by kernel_rfl)) (c := sub [1, 0] B65) (by kernel_rfl) (by kernel_rfl)
    have z := ifx_z_0 0 db n fb H n .undef
    exact ⟨-1, done (-1) _ (RunsTo.seq t1 z (c := sub [1] B65) (by kernel_rfl) (by kernel_rfl)) rfl, .inr ⟨rfl, h1⟩⟩
end
section
variable {H : Heap} {db n fb : Nat} {l : List Int} {w : Int}
abbrev dfE (db n fb : Nat) (a b : Int) (v7 : HV) : Env := env60 (.sl db 0 n none n 1) (.func 62 [] [.ptr fb 0 0 1]) (.imm .lit 1 []) (.int .i64 a) (.int .i64 b) v7
end
section
variable {H : Heap} {db n fb : Nat} {l : List Int} {w : Int}
def keep (w : Int) (l : List Int) : List Int := l.filter fun u => !decide (u = w)
end
section
variable {H : Heap} {db n fb : Nat} {l : List Int} {w : Int}
theorem keep_snoc_in (l : List Int) (x : Int) (h : x = w) : keep w (l ++ [x]) = keep w l := by simp [keep, h]
end
section
variable {H : Heap} {db n fb : Nat} {l : List Int} {w : Int}
theorem keep_snoc_out (l : List Int) (x : Int) (h : ¬ x = w) : keep w (l ++ [x]) = keep w l ++ [x] := by simp [keep, h]
end
section
variable {H : Heap} {db n fb : Nat} {l : List Int} {w : Int}
theorem take_snoc {l : List Int} {j : Nat} (h : j < l.length) : l.take (j + 1) = l.take j ++ [l.getD j 0] := by
  rw [List.take_add_one, List.getElem?_eq_getElem h]
  simp [List.getD, List.getElem?_eq_getElem h]
end
section
variable {H : Heap} {db n fb : Nat} {l : List Int} {w : Int}
theorem df_loop (hl : l.length = n) (hn : n ≤ 1000) (hbf : db ≠ fb) (hdl : db < H.length) (hf : H[fb]? = some (boxI w)) : ∀ d i j (m : List Int), j + d = n → i ≤ j → m.length = n → m.take i = keep w (l.take j) → m.drop j = l.drop j →
    ∃ (i' : Nat) (m' : List Int), RunsTo Try.prog polS 60 (sub [1, 1, 1, 0, 1, 0] B60) (dfE db n fb i j .undef) (H.set db (bI m)) (.exit 0) (polS.keys 60) (dfE db n fb i' n .undef) (H.set db (bI m')) ∧ i' ≤ n ∧ m'.length = n ∧ m'.take i' = keep w l := by
  intro d
  induction d with
  | zero =>
    intro i j m hj hij hm h1 h2
    have hj : j = n := by omega
    subst hj
    have e : l.take j = l := List.take_of_length_le (by omega)
    rw [e] at h1
    exact ⟨i, m, RunsTo.loop_out (df_l_2 0 db j fb (H.set db (bI m)) i j .undef (by omega)) (by simp) (by kernel_rfl) (by kernel_rfl), hij, hm, h1⟩
  | succ d ih =>
    intro i j m hj hij hm h1 h2
    have hbk : (H.set db (bI m))[db]? = some (bI m) := List.getElem?_set_self hdl
    have hfb : (H.set db (bI m))[fb]? = some (boxI w) := by rw [List.getElem?_set_ne hbf]; exact hf
    have hmj : m.getD j 0 = l.getD j 0 := by
      have e : (m.drop j).getD 0 0 = (l.drop j).getD 0 0 := by rw [h2]
      simpa [List.getD, List.getElem?_drop] using e
    have hd2 : m.drop (j + 1) = l.drop (j + 1) := by
      have e : (m.drop j).drop 1 = (l.drop j).drop 1 := by rw [h2]
      simpa [List.drop_drop] using e
    by_cases c : m.getD j 0 = w
    · obtain ⟨N, hN⟩ := eq_N hfb (m.getD j 0) true (decide_eq_true c)
      have s := df_l_0 N db n fb (H.set db (bI m)) i j .undef _ _ (by omega) (gi2 (by omega)) (gl2 hbk hm (by omega)) hN
      rw [wrap_succ (by omega)] at s
      obtain ⟨i', m', r, h3, h4, h5⟩ := ih i (j + 1) m (by omega) (by omega) hm (by rw [take_snoc (by omega), keep_snoc_in _ _ (hmj ▸ c)]; exact h1) hd2
      exact ⟨i', m', RunsTo.loop s (by kernel_rfl) (gc_eq _ rfl) r rfl (by kernel_rfl) (by kernel_rfl), h3, h4, h5⟩
    · obtain ⟨N, hN⟩ := eq_N hfb (m.getD j 0) false (decide_eq_false c)
      have hst := store_out hbk (y := i) (by omega) (m.getD j 0)
      rw [hm, List.set_set] at hst
      have s := df_l_1 N db n fb (H.set db (bI m)) i j .undef _ _ _ (by omega) (gi2 (by omega)) (gl2 hbk hm (by omega)) hN (gi2 (by omega)) hst
      rw [wrap_succ (by omega), wrap_succ (by omega)] at s
      obtain ⟨i', m', r, h3, h4, h5⟩ := ih (i + 1) (j + 1) (m.set i (m.getD j 0)) (by omega) (by omega) (by simpa using hm) (by
        have e1 : l.take (j + 1) = l.take j ++ [l.getD j 0] := take_snoc (by omega)
        have e2 : (m.set i (m.getD j 0)).take (i + 1) = (m.set i (m.getD j 0)).take i ++ [(m.set i (m.getD j 0)).getD i 0] := take_snoc (by simp; omega)
        rw [e1, e2, keep_snoc_out _ _ (hmj ▸ c), ← h1, ← hmj, List.take_set_of_le (Nat.le_refl _), getD_set _ _ _ _ (by omega), if_pos rfl]) (by rw [List.drop_set_of_lt (by omega)]; exact hd2)
      exact ⟨i', m', RunsTo.loop s (by kernel_rfl) (gc_eq _ (by simp)) r rfl (by kernel_rfl) (by kernel_rfl), h3, h4, h5⟩
end
section
variable {H : Heap} {db n fb : Nat} {l : List Int} {w : Int}
theorem info3q : (Try.prog.info? 3).map (fun i => (i.size, i.zero.map ofConst)) = some (1, some (.int .i64 0)) := by kernel_rfl
end
section
variable {H : Heap} {db n fb : Nat} {l : List Int} {w : Int}
theorem clear_out {b i : Nat} {m : List Int} (hb : H[b]? = some (bI m)) (hm : m.length = n) (hi : i ≤ n) : ∃ m', clearV Try.prog H 24 (.sl b i (n - i) none n 1) = some (.tuple [], H.set b (bI m')) ∧ m'.length = n ∧ m'.take i = m.take i := by
  have hu : Try.prog.underlying 24 = some (.slice 3) := u24b
  by_cases c : n - i = 0
  · refine ⟨m, ?_, hm, rfl⟩
    have e : H.set b (bI m) = H := by
      apply List.ext_getElem?
      intro k
      rw [List.getElem?_set]
      by_cases e : b = k
      · subst e; rw [if_pos rfl, if_pos (lt_of_get hb), hb]
      · rw [if_neg e]
    simp only [clearV, hu, c, if_true, e]
  · have hi3 := info3q
    cases hinf : Try.prog.info? 3 with
    | none => rw [hinf] at hi3; cases hi3
    | some inf =>
      rw [hinf] at hi3
      simp only [Option.map, Option.some.injEq, Prod.mk.injEq] at hi3
      obtain ⟨e1, e2⟩ := hi3
      cases hz : inf.zero with
      | none => rw [hz] at e2; cases e2
      | some z =>
        rw [hz] at e2
        simp only [Option.map, Option.some.injEq] at e2
        refine ⟨m.take i ++ List.replicate (n - i) 0, ?_, by simp; omega, ?_⟩
        · simp only [clearV, hu, if_neg c, hinf, hb, hz, e1, e2, List.length_map, hm]
          rw [if_pos ⟨trivial, trivial, trivial, by omega, rfl, rfl, by omega⟩]
          congr 4
          simp only [splice, List.length_replicate, List.map_append, List.map_take, List.map_replicate, encI]
          rw [List.drop_eq_nil_of_le (by simp; omega), List.append_nil]
        · rw [List.take_append_of_le_length (by simp; omega), List.take_take, Nat.min_self]
end
section
variable {H : Heap} {db n fb : Nat} {l : List Int} {w : Int}
theorem df_call (hb : H[db]? = some (bI l)) (hl : l.length = n) (hn : n ≤ 1000) (hbf : db ≠ fb) (hf : H[fb]? = some (boxI w)) :
    ∃ (k : Nat) (l' : List Int), Cl 60 [.sl db 0 n none n 1, .func 62 [] [.ptr fb 0 0 1]] H (.sl db 0 k none n 1) (H.set db (bI l')) ∧ k ≤ n ∧ l'.length = n ∧ l'.take k = keep w l := by
  have hdl := lt_of_get hb
  have hself : H.set db (bI l) = H := by
    apply List.ext_getElem?
    intro k
    rw [List.getElem?_set]
    by_cases e : db = k
    · subst e; rw [if_pos rfl, if_pos hdl, hb]
    · rw [if_neg e]
  obtain ⟨r, hcl, hr⟩ := ifx_call hb hl hn hf
  obtain ⟨N, hN⟩ := hcl.from
  have a := df_a_0 0 db n fb H
  have b := df_b_0 N db n fb H r H hN
  have done : ∀ (k : Nat) (l' : List Int) (E : Env), RunsTo Try.prog polS 60 (sub [1, 1] B60) (env60 (.sl db 0 n none n 1) (.func 62 [] [.ptr fb 0 0 1]) (.imm .lit 1 []) (.int .i64 r) .undef .undef) H .ret (polS.keys 60) E (H.set db (bI l')) → E.get 4 = .sl db 0 k none n 1 → Cl 60 [.sl db 0 n none n 1, .func 62 [] [.ptr fb 0 0 1]] H (.sl db 0 k none n 1) (H.set db (bI l')) := by
    intro k l' E t h4
    have t2 := RunsTo.seq a (RunsTo.seq b t (c := sub [1] B60) (by kernel_rfl) (by kernel_rfl)) (c := B60) (by kernel_rfl) (by kernel_rfl)
    have hcl := CallsTo.shared (P := Try.prog) (pol := polS) (g := 60) (fn := Try.f60) (cd := B60) (args := [.sl db 0 n none n 1, .func 62 [] [.ptr fb 0 0 1]]) (v := .sl db 0 k none n 1) (by kernel_rfl) (by kernel_rfl) (by kernel_rfl) (by kernel_rfl) t2 (by kernel_rfl) (by simp) (by simp only [resultsV, res60, mapO, resultV, h4])
    rw [gc_eq _ (by simp)] at hcl
    exact hcl
  rcases hr with ⟨i, rfl, h1, h2, h3⟩ | ⟨rfl, h1⟩
  · have c := df_c_1 0 db n fb H (i : Int) (by omega)
    have d := df_d_0 0 db n fb H i
    rw [wrap_succ (by omega)] at d
    have hke : ∀ j, j ≤ i → keep w (l.take j) = l.take j := by
      intro j hj
      rw [keep, List.filter_eq_self]
      intro v hv
      obtain ⟨k, hk, rfl⟩ := List.mem_iff_getElem.1 hv
      have hkl : k < j := by simp at hk; omega
      have := h3 k (by omega)
      simp only [List.getElem_take]
      simp [List.getD, List.getElem?_eq_getElem (show k < l.length by omega)] at this
      simp [this]
    obtain ⟨i', m, r, h4, h5, h6⟩ := df_loop hl hn hbf hdl hf (n - (i + 1)) i (i + 1) l (by omega) (by omega) hl (by rw [take_snoc (by omega), keep_snoc_in _ _ h2, hke i (Nat.le_refl _)]) rfl
    rw [hself] at r
    have hbk : (H.set db (bI m))[db]? = some (bI m) := List.getElem?_set_self hdl
    obtain ⟨m', e1, e2, e3⟩ := clear_out (n := n) hbk h5 h4
    rw [List.set_set] at e1
    have hb0 : boundV (some (.int .i64 (i' : Int))) = some (some i') := by simp [boundV]
    have hbn : boundV none = some none := rfl
    have z := df_z_0 0 db n fb (H.set db (bI m)) i' n .undef (H.set db (bI m')) (by
      simp only [sliceV, hb0, hbn, u24b, z3b, if_true, Option.getD, Option.map]
      rw [if_pos (by omega)]
      simp) e1 (by
      simp only [sliceV, hb0, hbn, u24b, z3b, if_true, Option.getD, Option.map]
      rw [if_pos (by omega)]
      simp)
    have t1 := RunsTo.seq d (RunsTo.block_exit (c := sub [1, 1, 1, 0, 1] B60) r (by kernel_rfl)) (c := sub [1, 1, 1, 0] B60) (by kernel_rfl) (by kernel_rfl)
    have t2 := RunsTo.seq c (RunsTo.seq t1 z (c := sub [1, 1, 1] B60) (by kernel_rfl) (by kernel_rfl)) (c := sub [1, 1] B60) (by kernel_rfl) (by kernel_rfl)
    exact ⟨i', m', done i' m' _ t2 rfl, h4, e2, by rw [e3]; exact h6⟩
  · have c := df_c_0 0 db n fb H (-1) rfl
    refine ⟨n, l, ?_, Nat.le_refl _, hl, ?_⟩
    · have t := RunsTo.seq_out c (by simp) (c := sub [1, 1] B60) (b := sub [1, 1, 1] B60) (by kernel_rfl)
      exact done n l (env60 (.sl db 0 n none n 1) (.func 62 [] [.ptr fb 0 0 1]) (.sl db 0 n none n 1) (.int .i64 (-1)) .undef .undef) (by rw [hself]; exact t) rfl
    · rw [List.take_of_length_le (by omega), keep, eq_comm, List.filter_eq_self]
      intro v hv
      obtain ⟨k, hk, rfl⟩ := List.mem_iff_getElem.1 hv
      have := h1 k (by omega)
      simp [List.getD, List.getElem?_eq_getElem hk] at this
      simp [this]
end
end Go.Proofs.Ytmhfkhlamnapdaa
end
section
open Go Go.HL
namespace Go.Proofs.Ytmhfkhlamnapdaa
set_option maxRecDepth 100000
noncomputable def B63 : Code := Try.f63.body.getD .skip
abbrev env63 (v0 v1 v3 v4 v5 : HV) : Env := [(0, v0), (1, v1), (3, v3), (4, v4), (5, v5)]
theorem flg_a_0 (N : Nat) (D : HV) (tb vb bb : Nat) (H : Heap) (H0 : Heap) (cb : Nat) (k : Nat) (H1 : Heap) (H2 : Heap) (g0 : some (newV (.func 64 [] [.ptr tb 0 0 1, .ptr vb 0 0 1]) H) = some (.ptr bb 0 0 1, H0)) (g1 : ∀ kf, callN Try.prog polS (kf + 1) 61 [D] H0 = some (.sl cb 0 k none k 1, H1)) (g2 : ∀ kf, N ≤ kf → callN Try.prog polS (kf + 1) 66 [.sl cb 0 k none k 1, .func 67 [] [.ptr bb 0 0 1]] H1 = some (.tuple [], H2)) : RunsTo Try.prog polS 63 (sub [] B63) [(0, D), (1, .func 64 [] [.ptr tb 0 0 1, .ptr vb 0 0 1])] H .ret (polS.keys 63) (env63 D (.func 64 [] [.ptr tb 0 0 1, .ptr vb 0 0 1]) (.ptr bb 0 0 1) (.sl cb 0 k none k 1) (.sl cb 0 k none k 1)) H2 :=
  RunsTo.hin N 60 [⟨0, 0, .ptr bb 0 0 1, H0⟩, ⟨1, 1, .sl cb 0 k none k 1, H1⟩, ⟨2, 2, .tuple [], H2⟩] fun kf hk => ⟨_, by kernel_rfl, (oC (g0) (oC (g1 kf) (oC (g2 kf (by omega)) .nil)))⟩
end Go.Proofs.Ytmhfkhlamnapdaa
end
section
open Go Go.HL
namespace Go.Proofs.Ytmhfkhlamnapdaa
set_option maxRecDepth 100000
noncomputable def B55 : Code := Try.f55.body.getD .skip
abbrev env55 (v0 v1 v2 v3 v4 v5 v6 v7 : HV) : Env := [(0, v0), (1, v1), (2, v2), (3, v3), (4, v4), (5, v5), (6, v6), (7, v7)]
theorem br_a_0 (N : Nat) (n v : Nat) (w : Int) (tb vb fb : Nat) (row : HV) (H : Heap) (H0 : Heap) (H1 : Heap) (H2 : Heap) (cb : Nat) (k : Nat) (H3 : Heap) (D : HV) (H4 : Heap) (R : HV) (H5 : Heap) (g0 : some (newV (.agg [.sl 0 0 n none n 1, .map 1]) H) = some (.ptr tb 0 0 1, H0)) (g1 : some (newV (.i (v : Int)) H0) = some (.ptr vb 0 0 1, H1)) (g2 : some (newV (.i w) H1) = some (.ptr fb 0 0 1, H2)) (g3 : loadV Try.prog H2 55 (.ptr tb 0 0 1) = some (.sl 0 0 n none n 1)) (g4 : loadV Try.prog H2 3 (.ptr vb 0 0 1) = some (.i (v : Int))) (g5 : idxV Try.prog 55 (.sl 0 0 n none n 1) (.i (v : Int)) = some (.ptr 0 v 0 n)) (g6 : loadV Try.prog H2 24 (.ptr 0 v 0 n) = some (row)) (g7 : ∀ kf, callN Try.prog polS (kf + 1) 61 [row] H2 = some (.sl cb 0 k none k 1, H3)) (g8 : ∀ kf, N ≤ kf → callN Try.prog polS (kf + 1) 60 [.sl cb 0 k none k 1, .func 62 [] [.ptr fb 0 0 1]] H3 = some (D, H4)) (g9 : ∀ kf, N ≤ kf → callN Try.prog polS (kf + 1) 63 [D, .func 64 [] [.ptr tb 0 0 1, .ptr vb 0 0 1]] H4 = some (R, H5)) : RunsTo Try.prog polS 55 (sub [] B55) [(0, .agg [.sl 0 0 n none n 1, .map 1]), (1, .i (v : Int)), (2, .i w)] H .ret (polS.keys 55) (env55 (.agg [.sl 0 0 n none n 1, .map 1]) (.i (v : Int)) (.i w) (.ptr tb 0 0 1) (.ptr vb 0 0 1) (.ptr fb 0 0 1) R D) H5 :=
  RunsTo.hin N 60 [⟨0, 0, .ptr tb 0 0 1, H0⟩, ⟨0, 1, .ptr vb 0 0 1, H1⟩, ⟨0, 2, .ptr fb 0 0 1, H2⟩, ⟨1, 1, .sl 0 0 n none n 1, H2⟩, ⟨1, 2, .i (v : Int), H2⟩, ⟨1, 3, .ptr 0 v 0 n, H2⟩, ⟨1, 4, row, H2⟩, ⟨1, 5, .sl cb 0 k none k 1, H3⟩, ⟨1, 7, D, H4⟩, ⟨2, 2, R, H5⟩] fun kf hk => ⟨_, by kernel_rfl, (oC (g0) (oC (g1) (oC (g2) (oP H2 g3 (oP H2 g4 (oP H2 g5 (oP H2 g6 (oC (g7 kf) (oC (g8 kf (by omega)) (oC (g9 kf (by omega)) .nil))))))))))⟩
end Go.Proofs.Ytmhfkhlamnapdaa
end
