import Derived.Test.YtombphphaoeeiaaGreatDoorSr1
/- May a group be (strip's mayBe). -/
namespace Go.Proofs.YtombphphaoeeiaaGreatDoor
open Go.RowKit
set_option linter.unusedSimpArgs false
set_option linter.unusedVariables false
attribute [local irreducible] Callable CallOK CallG CallM DrawG LoopG symR symM
attribute [local irreducible] okV
theorem idsG_take (l : List Pr) {i : Nat} (h : i < l.length) : idsG (l.take i) ++ [(ix l i).1] = idsG (l.take (i + 1)) := by
  unfold idsG
  rw [List.take_add_one, List.map_append, ix_getG h, List.getElem?_eq_getElem h]
  rfl
theorem idsG_len (l : List Pr) : (idsG l).length = l.length := List.length_map ..
theorem may_no1 {g : Gr} (h : may g.ps = false) : g.mayB = false := by unfold Gr.mayB; rw [h]; rfl
theorem may_no2 {g : Gr} (h : ¬ (1 ≤ g.nd ∧ g.nd ≤ g.ps.length)) : g.mayB = false := by unfold Gr.mayB; rw [decide_eq_false h, Bool.false_and, Bool.and_false]
theorem may_no3 {g : Gr} (h : chkS (-1) g.cm = false) : g.mayB = false := by unfold Gr.mayB; rw [h, Bool.false_and, Bool.and_false, Bool.and_false]
theorem may_no4 {g : Gr} (h : 0 < (lessF g.cm (idsG g.ps)).length) : g.mayB = false := by
  have : (lessF g.cm (idsG g.ps)).isEmpty = false := by
    cases hl : lessF g.cm (idsG g.ps) with
    | nil => rw [hl] at h; simp at h
    | cons a r => rfl
  unfold Gr.mayB; rw [this, Bool.false_and, Bool.and_false, Bool.and_false, Bool.and_false]
theorem may_no5 {g : Gr} {i : Nat} (hi : i < g.gv.length) (h : gvOk (idsG g.ps) (ix g.gv i) = false) : g.mayB = false := by
  have : g.gv.all (gvOk (idsG g.ps)) = false := by
    cases ha : g.gv.all (gvOk (idsG g.ps))
    · rfl
    · rw [List.all_eq_true.1 ha _ (ix_memG hi)] at h; cases h
  unfold Gr.mayB; rw [this, Bool.and_false, Bool.and_false, Bool.and_false, Bool.and_false]
theorem may_yes {g : Gr} (h1 : may g.ps = true) (h2 : 1 ≤ g.nd ∧ g.nd ≤ g.ps.length) (h3 : chkS (-1) g.cm = true) (h4 : ¬ 0 < (lessF g.cm (idsG g.ps)).length) (h5 : ∀ i, i < g.gv.length → gvOk (idsG g.ps) (ix g.gv i) = true) : g.mayB = true := by
  have e4 : (lessF g.cm (idsG g.ps)).isEmpty = true := by
    cases hl : lessF g.cm (idsG g.ps) with
    | nil => rfl
    | cons a r => rw [hl] at h4; simp at h4
  have e5 : g.gv.all (gvOk (idsG g.ps)) = true := List.all_eq_true.2 fun e he => by
    obtain ⟨i, hi, rfl⟩ := List.getElem_of_mem he
    have := h5 i hi
    rwa [ix_getG hi] at this
  unfold Gr.mayB; rw [h1, decide_eq_true h2, h3, e4, e5]; rfl
theorem gvOk_no1 {ids : List Int} {e : Int × List UInt64} (h : isIn ids e.1 = false) : gvOk ids e = false := by unfold gvOk; rw [h]; rfl
theorem gvOk_no2 {ids : List Int} {e : Int × List UInt64} (h : ¬ e.2.length = ids.length) : gvOk ids e = false := by unfold gvOk numsOk; rw [decide_eq_false h, Bool.false_and, Bool.and_false]
theorem gvOk_no3 {ids : List Int} {e : Int × List UInt64} {j : Nat} (hj : j < e.2.length) (h : ¬ ix e.2 j < fpP) : gvOk ids e = false := by
  have : (e.2.all fun v => decide (v < fpP)) = false := by
    cases ha : e.2.all fun v => decide (v < fpP)
    · rfl
    · have := List.all_eq_true.1 ha _ (ix_memG hj)
      rw [decide_eq_true_eq] at this
      exact absurd this h
  unfold gvOk numsOk; rw [this, Bool.and_false, Bool.and_false]
theorem gvOk_yes {ids : List Int} {e : Int × List UInt64} (h1 : isIn ids e.1 = true) (h2 : e.2.length = ids.length) (h3 : ∀ j, j < e.2.length → ix e.2 j < fpP) : gvOk ids e = true := by
  have : (e.2.all fun v => decide (v < fpP)) = true := List.all_eq_true.2 fun v hv => by
    obtain ⟨j, hj, rfl⟩ := List.getElem_of_mem hv
    have := h3 j hj
    rw [ix_getG hj] at this
    exact decide_eq_true this
  unfold gvOk numsOk; rw [h1, decide_eq_true h2, this]; rfl
attribute [local irreducible] idsG lessF chkS Gr.mayB gvOk may isIn
set_option maxRecDepth 100000 in
set_option maxHeartbeats 4000000 in
theorem mayBe_any (G : Grp) (w : World) (hG : G.Ok w) : Calls Tryz.prog 19 (List.map (Sv.val []) [.x (.g [.v (.slice G.pA G.ps.length G.pc), .v (.slice G.cA G.cm.length G.cc), .v (.int .i64 G.nd), .v (.map G.mo)])]).toArray w fun e w' => e = .returned (.bool G.gr.mayB) ∧ Below w.heap.size w w' := by
  have F := FP.of hG.pR
  obtain ⟨f1, f2, f3, f4⟩ := hG.few
  refine calls_v (n := 80) Tryz.func19 rfl Tryz.ntmps19 [.x (.g [.v (.slice G.pA G.ps.length G.pc), .v (.slice G.cA G.cm.length G.cc), .v (.int .i64 G.nd), .v (.map G.mo)])] (by simp) (.x (.a (.v (.bool G.gr.mayB)))) (fun _ => rfl) ?_
  simp (config := { maxSteps := 1000000 }) only [undef, push_cast, ↓reduceIte, reduceCtorEq, Nat.reduceEqDiff, Nat.reduceLT, Nat.reduceAdd]
  (repeat (refine And.intro (by first | omega | decide) ?_))
  refine callG_v rfl cb28 rfl (check09OK (showsR_raw hG.pR hG.pl)) (dOk_lt rfl) ?_
  cases hm : may G.ps
  · have hb : G.gr.mayB = false := may_no1 hm
    simp (config := { maxSteps := 1000000 }) only [mayErr_no hm, hb, undef, push_cast, ↓reduceIte, Nat.reduceEqDiff, Nat.reduceLT]
  by_cases h1 : G.nd < 1
  · have hb : G.gr.mayB = false := may_no2 (g := G.gr) fun h => by have := h.1; have : 1 ≤ G.nd := this; omega
    simp (config := { maxSteps := 1000000 }) only [mayErr_yes hm, h1, hb, undef, push_cast, ↓reduceIte, reduceCtorEq, Nat.reduceEqDiff, Nat.reduceLT, Nat.reduceAdd]
  by_cases h2 : (G.ps.length : Int) < G.nd
  · have hb : G.gr.mayB = false := may_no2 (g := G.gr) fun h => by have := h.2; have : G.nd ≤ G.ps.length := this; omega
    simp (config := { maxSteps := 1000000 }) only [mayErr_yes hm, h1, h2, hb, undef, push_cast, ↓reduceIte, reduceCtorEq, Nat.reduceEqDiff, Nat.reduceLT, Nat.reduceAdd]
  simp (config := { maxSteps := 1000000 }) only [mayErr_yes hm, h1, h2, undef, push_cast, ↓reduceIte, reduceCtorEq, Nat.reduceEqDiff, Nat.reduceLT, Nat.reduceAdd]
  (repeat (refine And.intro (by first | omega | decide) ?_))
  refine loop_ghost 3 3 (.i64 []) rfl rfl trivial (by simp (config := { maxSteps := 1000000 }) only [push_cast, Nat.reduceLT]) ?_
  simp (config := { maxSteps := 1000000 }) only [push_cast]
  refine loop_rule (ι := Nat) (fun i => ⟨[(1, .x (.a (.p 0 0))), (3, .x (.a (.o 1))), (28, .x (.a (.v (.slice G.pA G.ps.length G.pc)))), (29, .x (.a (.v (.int .i64 G.ps.length)))), (30, .x (.a (.v (.int .i64 i))))], [.blk 31 (.c [.v (.slice G.pA G.ps.length G.pc), .v (.slice G.cA G.cm.length G.cc), .v (.int .i64 G.nd), .v (.map G.mo)]), .own 3 (.i64 (idsG (G.ps.take i)))]⟩) (fun i => i ≤ G.ps.length) (fun i => G.ps.length - i) 0 [0, 1] (Nat.zero_le _) ?_ ?_
  · have e0 : idsG [] = [] := by unfold idsG; rfl
    simp (config := { maxSteps := 1000000 }) only [List.take_zero, e0, push_cast, ↓Int.cast_ofNat_Int, Int.cast_ofNat_Int, ↓reduceIte, reduceCtorEq, Nat.reduceEqDiff, Nat.reduceLT, Nat.reduceAdd]
  intro i hi
  by_cases hlt : (i : Int) < G.ps.length
  · have i0 : (0 : Int) ≤ i := by omega
    have c0 := F.c0 i (by omega)
    have c1 := F.c1 i (by omega)
    have o0 := F.ok0 i (by omega)
    have o1 := F.ok1 i (by omega)
    have hA := F.some_ (by omega)
    have hn : (idsG (G.ps.take i)).length = i := by rw [idsG_len, List.length_take]; omega
    have ht := idsG_take G.ps (i := i) (by omega)
    have b1 : (i + 1) * 8 ≤ 140737488355328 := by omega
    have b2 : i + 1 ≤ 2 ^ 63 - 1 := by omega
    simp (config := { maxSteps := 1000000 }) only [hlt, i0, c0, c1, o0, o1, hA, hn, ht, b1, b2, pAdd_zero, pAdd_add, pAdd_isSome, undef, push_cast, ↓Int.toNat_natCast, ↓reduceIte, reduceCtorEq, Nat.reduceEqDiff, Nat.reduceLT, Nat.reduceLeDiff, Nat.reduceAdd, Int.reduceNeg]
    (repeat (refine And.intro (by first | omega | decide) ?_))
    refine loopK_normal (i + 1) [0, 4] (by omega) (by omega) ?_
    simp (config := { maxSteps := 1000000 }) only [push_cast, ↓reduceIte, reduceCtorEq, Nat.reduceEqDiff, Nat.reduceLT, Nat.reduceAdd]
  have hil : i = G.ps.length := by omega
  subst hil
  simp (config := { maxSteps := 1000000 }) only [hlt, List.take_length, undef, push_cast, ↓reduceIte, reduceCtorEq, Nat.reduceEqDiff, Nat.reduceLT, Nat.reduceAdd]
  (repeat (refine And.intro (by first | omega | decide) ?_))
  refine callG_v rfl cb37 rfl (checkK (by omega) (shows_raw hG.cR _ _ (by simp) hG.cl)) (dOk_lt rfl) ?_
  cases h3 : chkS (-1) G.cm
  · have hb : G.gr.mayB = false := may_no3 (g := G.gr) h3
    simp (config := { maxSteps := 1000000 }) only [okV_false, hb, undef, push_cast, ↓reduceIte, Nat.reduceEqDiff, Nat.reduceLT, Nat.reduceAdd]
  have hid := idsG_len G.ps
  simp (config := { maxSteps := 1000000 }) only [okV_true, undef, push_cast, ↓reduceIte, reduceCtorEq, Nat.reduceEqDiff, Nat.reduceLT, Nat.reduceAdd]
  (repeat (refine And.intro (by first | omega | decide) ?_))
  refine callG_x rfl cb38 rfl (lessK (a := G.cm) (b := idsG G.ps) (by omega) (by rw [hid]; omega) (shows_raw hG.cR _ _ (by simp) hG.cl) (shows_own rfl fun _ => rfl) (by simp (config := { maxSteps := 1000000 }) only [push_cast, Nat.reduceAdd])) (dOk_lt rfl) (by simp (config := { maxSteps := 1000000 }) only [push_cast, Nat.reduceLT, Nat.reduceAdd]) ?_
  by_cases h4 : 0 < (lessF G.cm (idsG G.ps)).length
  · have hb : G.gr.mayB = false := may_no4 (g := G.gr) h4
    have h4' : (0 : Int) < ((lessF G.cm (idsG G.ps)).length : Int) := by omega
    simp (config := { maxSteps := 1000000 }) only [h4', hb, push_cast, ↓reduceIte, Nat.reduceEqDiff, Nat.reduceLT, Nat.reduceAdd]
  have h4' : ¬ (0 : Int) < ((lessF G.cm (idsG G.ps)).length : Int) := by omega
  simp (config := { maxSteps := 1000000 }) only [h4', undef, push_cast, ↓reduceIte, reduceCtorEq, Nat.reduceEqDiff, Nat.reduceLT, Nat.reduceAdd]
  (repeat (refine And.intro (by first | omega | decide) ?_))
  refine callG_rangeR rfl rfl hG.m Tryz.underlying29 (dOk_lt rfl) (by simp (config := { maxSteps := 1000000 }) only [push_cast, Nat.reduceLT, Nat.reduceAdd]) fun r => ?_
  have hml := G.mLlen
  simp (config := { maxSteps := 1000000 }) only [push_cast]
  have e54 : isIn (idsG G.ps) = isIn (idsG G.ps) := rfl
  refine loop_rule (ι := List Nat) (fun seen => ⟨[(3, .x (.a (.o 0))), (54, .x (.a (.v (.pointer (some ⟨r, 0, none⟩)))))], [.own 3 (.i64 (idsG G.ps)), .abs (ItR (.map G.mo) G.mL.length r seen)]⟩) (fun seen => seen.Nodup ∧ ∀ i ∈ seen, i < G.gv.length ∧ gvOk (idsG G.ps) (ix G.gr.gv i) = true) (fun seen => G.gv.length - seen.length) [] [1, 3] ⟨List.nodup_nil, fun i hi => by cases hi⟩ ?_ ?_
  · simp (config := { maxSteps := 1000000 }) only [push_cast, ↓reduceIte, Nat.reduceEqDiff, Nat.reduceLT, Nat.reduceAdd]
  rintro seen ⟨n1, n2⟩
  simp (config := { maxSteps := 1000000 }) only [push_cast, ↓reduceIte]
  (repeat (refine And.intro (by first | omega | decide) ?_))
  refine callG_nextR (k := 1) rfl rfl hG.m rfl (dOk_lt rfl) (fun hall => ?_) (fun i p hp hns => ?_)
  · have hb : G.gr.mayB = true := may_yes (g := G.gr) hm ⟨by show 1 ≤ G.nd; omega, by show G.nd ≤ (G.ps.length : Int); omega⟩ h3 h4 fun i hi => (n2 i (hall i (by rw [hml, ← G.gvlen]; exact hi))).2
    simp (config := { maxSteps := 1000000 }) only [hb, push_cast, ↓reduceIte, Nat.reduceLT, Nat.reduceAdd]
  obtain ⟨e, he, hi2, rfl, hix, hge⟩ := G.mL_at hp
  obtain ⟨g1, g2⟩ := hG.e e he
  have g3 := f4 e he
  have FE := FV.no g2
  have ne : ∀ {b : Bool}, gvOk (idsG G.ps) (ix G.gr.gv i) = false → G.gr.mayB = false := fun h => may_no5 (g := G.gr) (by rw [G.gvlen]; exact hi2) h
  have hil : G.mL[i]? = some (e.id, e.val) := hp
  have ev : e.val = .slice e.A e.l.length e.c := rfl
  rw [hix] at ne
  simp (config := { maxSteps := 1000000 }) only [push_cast, ↓reduceIte, Nat.reduceLT, Nat.reduceAdd]
  (repeat (refine And.intro (by first | omega | decide) ?_))
  refine callG_entryR (k := 1) rfl rfl hG.m rfl hil (dOk_lt rfl) ?_
  simp (config := { maxSteps := 1000000 }) only [ev, push_cast, ↓reduceIte, Nat.reduceEqDiff, Nat.reduceLT, Nat.reduceAdd]
  (repeat (refine And.intro (by first | omega | decide) ?_))
  refine callG_v rfl cb32 rfl (containsIOK (l := idsG G.ps) e.id (by rw [hid]; omega) (shows_own rfl fun _ => rfl)) (dOk_lt rfl) ?_
  cases h5 : isIn (idsG G.ps) e.id
  · have hb := ne (b := true) (gvOk_no1 h5)
    simp (config := { maxSteps := 1000000 }) only [hb, undef, push_cast, ↓reduceIte, Nat.reduceEqDiff, Nat.reduceLT, Nat.reduceAdd]
  by_cases h6 : (e.l.length : Int) = ((idsG G.ps).length : Int)
  · have h6' := eq_true h6
    simp (config := { maxSteps := 1000000 }) only [h6', push_cast, ↓reduceIte, Nat.reduceEqDiff, Nat.reduceLT, Nat.reduceAdd]
    (repeat (refine And.intro (by first | omega | decide) ?_))
    refine loop_rule (ι := Nat) (fun j => ⟨[(3, .x (.a (.o 0))), (54, .x (.a (.v (.pointer (some ⟨r, 0, none⟩))))), (71, .x (.a (.v (.slice e.A e.l.length e.c)))), (72, .x (.a (.v (.int .i64 e.l.length)))), (73, .x (.a (.v (.int .i64 j))))], [.own 3 (.i64 (idsG G.ps)), .abs (ItR (.map G.mo) G.mL.length r (seen ++ [i]))]⟩) (fun j => j ≤ e.l.length ∧ ∀ k, k < j → ix e.l k < fpP) (fun j => e.l.length - j) 0 [0, 1] ⟨Nat.zero_le _, fun k h => by omega⟩ ?_ ?_
    · simp (config := { maxSteps := 1000000 }) only [push_cast, ↓Int.cast_ofNat_Int, Int.cast_ofNat_Int, ↓reduceIte, reduceCtorEq, Nat.reduceEqDiff, Nat.reduceLT, Nat.reduceAdd]
    rintro j ⟨hj, hJ⟩
    by_cases hjl : (j : Int) < e.l.length
    · have hj' : j < e.l.length := by omega
      have j0 : (0 : Int) ≤ j := by omega
      have cj := (FE.cell (ix_map vU64 e.l j hj')).1
      have oj := (FE.cell (ix_map vU64 e.l j hj')).2
      have hE := FE.some_ (by rw [List.length_map]; omega)
      by_cases h7 : ix e.l j < fpP
      · have h7' : ¬ (fpP ≤ ix e.l j) := by rw [UInt64.le_iff_toNat_le]; rw [UInt64.lt_iff_toNat_lt] at h7; omega
        simp (config := { maxSteps := 1000000 }) only [hjl, j0, cj, oj, hE, h7', fpP_lit, push_cast, ↓Int.toNat_natCast, ↓reduceIte, reduceCtorEq, Nat.reduceEqDiff, Nat.reduceLT, Nat.reduceAdd, Int.reduceNeg]
        (repeat (refine And.intro (by first | omega | decide) ?_))
        refine loopK_normal (j + 1) [0, 1] ⟨by omega, fun k hk => ?_⟩ (by omega) ?_
        · by_cases ek : k = j
          · rw [ek]; exact h7
          · exact hJ k (by omega)
        · simp (config := { maxSteps := 1000000 }) only [push_cast, ↓reduceIte, reduceCtorEq, Nat.reduceEqDiff, Nat.reduceLT, Nat.reduceAdd]
      · have h7' : fpP ≤ ix e.l j := by rw [UInt64.le_iff_toNat_le]; rw [UInt64.lt_iff_toNat_lt] at h7; omega
        have hb := ne (b := true) (gvOk_no3 (e := (e.id, e.l)) hj' h7)
        simp (config := { maxSteps := 1000000 }) only [hjl, j0, cj, oj, hE, h7', hb, fpP_lit, push_cast, ↓Int.toNat_natCast, ↓reduceIte, reduceCtorEq, Nat.reduceEqDiff, Nat.reduceLT, Nat.reduceAdd]
    · have hok : gvOk (idsG G.ps) (ix G.gr.gv i) = true := by
        rw [hix]
        exact gvOk_yes h5 (by have : e.l.length = (idsG G.ps).length := by omega
                              exact this) fun k hk => hJ k (by have : k < e.l.length := hk; omega)
      simp (config := { maxSteps := 1000000 }) only [hjl, push_cast, ↓reduceIte, Nat.reduceEqDiff, Nat.reduceLT, Nat.reduceAdd]
      (repeat (refine And.intro (by first | omega | decide) ?_))
      have hlt2 := hi2
      refine loopK_normal (seen ++ [i]) [0, 1] ⟨?_, fun k hk => ?_⟩ ?_ ?_
      · exact nodup_snoc n1 hns
      · rcases List.mem_append.1 hk with hk | hk
        · exact n2 k hk
        · rw [List.mem_singleton.1 hk]; exact ⟨hi2, hok⟩
      · show G.gv.length - (seen ++ [i]).length < G.gv.length - seen.length
        have h8 := len_lt n1 (fun k hk => (n2 k hk).1) hi2 hns
        rw [List.length_append]
        show G.gv.length - (seen.length + 1) < _
        omega
      · simp (config := { maxSteps := 1000000 }) only [push_cast, ↓reduceIte, reduceCtorEq, Nat.reduceEqDiff, Nat.reduceLT, Nat.reduceAdd]
  · have hb := ne (b := true) (gvOk_no2 (e := (e.id, e.l)) fun h => h6 (by show ((e.l.length : Nat) : Int) = _; rw [show e.l.length = _ from h]))
    simp (config := { maxSteps := 1000000 }) only [h6, hb, push_cast, ↓reduceIte, Nat.reduceEqDiff, Nat.reduceLT, Nat.reduceAdd]
end Go.Proofs.YtombphphaoeeiaaGreatDoor
