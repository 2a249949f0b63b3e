import Derived.Test.YtombphphaoeeiaaGreatDoorSr7
/- Are groups too much to be looked at (law 32's great). -/
namespace Go.Proofs.YtombphphaoeeiaaGreatDoor
open Go.RowKit
set_option linter.unusedSimpArgs false
set_option linter.unusedVariables false
attribute [local irreducible] Callable CallOK CallG CallM DrawG LoopG symR symM
def grtF (g : RfG) : Bool := decide (12 < g.ps.length) || (decide (40 < g.cm.length) || (decide (20 < g.gs.length) || g.gs.any fun e => decide (40 < e.l.length)))
def greatF (l : List RfG) : Bool := ((List.range l.length).any fun i => decide (i < 5) && grtF (ix l i)) || decide (5 < l.length)
theorem grtF_no {g : RfG} (h1 : ¬ 12 < g.ps.length) (h2 : ¬ 40 < g.cm.length) (h3 : ¬ 20 < g.gs.length) (h4 : ∀ k, k < g.gs.length → ¬ 40 < (ix g.gs k).l.length) : grtF g = false := by
  have e4 : (g.gs.any fun e => decide (40 < e.l.length)) = false := by
    cases ha : g.gs.any fun e => decide (40 < e.l.length)
    · rfl
    · obtain ⟨e, he, h⟩ := List.any_eq_true.1 ha
      obtain ⟨k, hk, rfl⟩ := List.getElem_of_mem he
      have := h4 k hk
      rw [ix_getG hk] at this
      exact absurd (of_decide_eq_true h) this
  unfold grtF
  rw [decide_eq_false h1, decide_eq_false h2, decide_eq_false h3, e4]
  rfl
theorem grtF_few {g : RfG} (h : grtF g = false) : g.few := by
  unfold grtF at h
  simp only [Bool.or_eq_false_iff, decide_eq_false_iff_not, Nat.not_lt] at h
  obtain ⟨h1, h2, h3, h4⟩ := h
  refine ⟨h1, h2, h3, fun e he => ?_⟩
  rw [List.any_eq_false] at h4
  have := h4 e he
  simpa using this
theorem grtF_yes1 {g : RfG} (h : 12 < g.ps.length) : grtF g = true := by unfold grtF; rw [decide_eq_true h]; rfl
theorem grtF_yes2 {g : RfG} (h : 40 < g.cm.length) : grtF g = true := by unfold grtF; rw [decide_eq_true h, Bool.true_or, Bool.or_true]
theorem grtF_yes3 {g : RfG} (h : 20 < g.gs.length) : grtF g = true := by unfold grtF; rw [decide_eq_true h, Bool.true_or, Bool.or_true, Bool.or_true]
theorem grtF_yes4 {g : RfG} {k : Nat} (hk : k < g.gs.length) (h : 40 < (ix g.gs k).l.length) : grtF g = true := by
  have : (g.gs.any fun e => decide (40 < e.l.length)) = true := List.any_eq_true.2 ⟨_, ix_memG hk, decide_eq_true h⟩
  unfold grtF; rw [this, Bool.or_true, Bool.or_true, Bool.or_true]
theorem great_yes {l : List RfG} {i : Nat} (hi : i < l.length) (h5 : i < 5) (h : grtF (ix l i) = true) : greatF l = true := by
  have : ((List.range l.length).any fun i => decide (i < 5) && grtF (ix l i)) = true := List.any_eq_true.2 ⟨i, List.mem_range.2 hi, by rw [decide_eq_true h5, h]; rfl⟩
  unfold greatF; rw [this, Bool.true_or]
theorem great_end {l : List RfG} (h : ∀ i, i < l.length → i < 5 → grtF (ix l i) = false) : greatF l = decide (5 < l.length) := by
  have : ((List.range l.length).any fun i => decide (i < 5) && grtF (ix l i)) = false := by
    rw [List.any_eq_false]
    intro i hi
    by_cases h5 : i < 5
    · rw [h i (List.mem_range.1 hi) h5, Bool.and_false]; decide
    · rw [decide_eq_false h5, Bool.false_and]; decide
  unfold greatF; rw [this, Bool.false_or]
theorem great_few {l : List RfG} (h : greatF l = false) : l.length ≤ 5 ∧ ∀ g ∈ l, g.few := by
  unfold greatF at h
  rw [Bool.or_eq_false_iff] at h
  have h5 : l.length ≤ 5 := by have := of_decide_eq_false h.2; omega
  refine ⟨h5, fun g hg => ?_⟩
  obtain ⟨i, hi, rfl⟩ := List.getElem_of_mem hg
  have := List.any_eq_false.1 h.1 i (List.mem_range.2 hi)
  rw [decide_eq_true (by omega : i < 5), Bool.true_and, ix_getG hi] at this
  exact grtF_few (by simpa using this)
structure FRf (w0 : World) (A : Option Addr) (l : List RfG) : Prop where
  some_ : 0 < l.length → A.isSome = true
  c0 : ∀ i, i < l.length → cellOf w0 (pAdd A (i * 4)) = .slice (ix l i).pA (ix l i).ps.length (ix l i).pc
  c1 : ∀ i, i < l.length → cellOf w0 (pAdd A (i * 4 + 1)) = .slice (ix l i).cA (ix l i).cm.length (ix l i).cc
  c2 : ∀ i, i < l.length → cellOf w0 (pAdd A (i * 4 + 2)) = .int .i64 (ix l i).nd
  c3 : ∀ i, i < l.length → cellOf w0 (pAdd A (i * 4 + 3)) = .slice (ix l i).gA (ix l i).gs.length (ix l i).gc
  o0 : ∀ i, i < l.length → rawOk w0 No (pAdd A (i * 4))
  o1 : ∀ i, i < l.length → rawOk w0 No (pAdd A (i * 4 + 1))
  o2 : ∀ i, i < l.length → rawOk w0 No (pAdd A (i * 4 + 2))
  o3 : ∀ i, i < l.length → rawOk w0 No (pAdd A (i * 4 + 3))
theorem FRf.of {w0 : World} {A : Option Addr} {l : List RfG} (hR : RdV w0 w0.heap.size A (rfVs l)) : FRf w0 A l := by
  have h := FV.no hR
  have g : ∀ i j, i < l.length → (hj : j < 4) → (rfVs l)[i * 4 + j]? = some ((ix l i).vals[j]'hj) := fun i j hi hj => by
    have := flat_get RfG.vals_len l i j hi hj
    rw [show rfVs l = l.flatMap RfG.vals from rfl, this]
    exact List.getElem?_eq_getElem hj
  exact ⟨fun hp => h.some_ (by rw [rfVs_len]; omega), fun i hi => (h.cell (g i 0 hi (by omega))).1, fun i hi => (h.cell (g i 1 hi (by omega))).1, fun i hi => (h.cell (g i 2 hi (by omega))).1, fun i hi => (h.cell (g i 3 hi (by omega))).1,
    fun i hi => (h.cell (g i 0 hi (by omega))).2, fun i hi => (h.cell (g i 1 hi (by omega))).2, fun i hi => (h.cell (g i 2 hi (by omega))).2, fun i hi => (h.cell (g i 3 hi (by omega))).2⟩
structure FGf (w0 : World) (A : Option Addr) (l : List GvE) : Prop where
  some_ : 0 < l.length → A.isSome = true
  c0 : ∀ i, i < l.length → cellOf w0 (pAdd A (i * 2)) = .int .i64 (ix l i).id
  c1 : ∀ i, i < l.length → cellOf w0 (pAdd A (i * 2 + 1)) = .slice (ix l i).A (ix l i).l.length (ix l i).c
  o0 : ∀ i, i < l.length → rawOk w0 No (pAdd A (i * 2))
  o1 : ∀ i, i < l.length → rawOk w0 No (pAdd A (i * 2 + 1))
theorem FGf.of {w0 : World} {A : Option Addr} {l : List GvE} (hR : RdV w0 w0.heap.size A (gfVs l)) : FGf w0 A l := by
  have h := FV.no hR
  have g : ∀ i j, i < l.length → (hj : j < 2) → (gfVs l)[i * 2 + j]? = some ((gfV (ix l i))[j]'hj) := fun i j hi hj => by
    have := flat_get gfV_len l i j hi hj
    rw [show gfVs l = l.flatMap gfV from rfl, this]
    exact List.getElem?_eq_getElem hj
  exact ⟨fun hp => h.some_ (by rw [gfVs_len]; omega), fun i hi => (h.cell (g i 0 hi (by omega))).1, fun i hi => (h.cell (g i 1 hi (by omega))).1, fun i hi => (h.cell (g i 0 hi (by omega))).2, fun i hi => (h.cell (g i 1 hi (by omega))).2⟩
attribute [local irreducible] grtF greatF
set_option maxRecDepth 100000 in
set_option maxHeartbeats 4000000 in
theorem great32_any (l : List RfG) (A : Option Addr) (c : Nat) (w : World) (hR : RdV w w.heap.size A (rfVs l)) (hok : ∀ g ∈ l, g.Ok w) : Calls Tryz.prog 4 #[.slice A l.length c] w fun e w' => e = .returned (.bool (greatF l)) ∧ Below w.heap.size w w' := by
  have F := FRf.of hR
  refine calls_v (n := 64) Tryz.func4 rfl Tryz.ntmps4 [(.x (.a (.v (.slice A l.length c))))] (by simp) (.x (.a (.v (.bool (greatF l))))) (fun _ => rfl) ?_
  simp (config := { maxSteps := 1000000 }) only [push_cast, ↓reduceIte, Nat.reduceLT]
  refine loop_rule (ι := Nat) (fun i => ⟨[(0, (.x (.a (.v (.slice A l.length c))))), (3, .x (.a (.v (.int .i64 i))))], []⟩) (fun i => i ≤ l.length ∧ i ≤ 5 ∧ ∀ j, j < i → grtF (ix l j) = false) (fun i => l.length - i) 0 [] ⟨Nat.zero_le _, Nat.zero_le _, fun j h => by omega⟩ ?_ ?_
  · simp (config := { maxSteps := 1000000 }) only [push_cast, ↓Int.cast_ofNat_Int, Int.cast_ofNat_Int, ↓reduceIte, reduceCtorEq]
  rintro i ⟨hi, h5, hI⟩
  by_cases hlt : (i : Int) < l.length
  · have hi' : i < l.length := by omega
    by_cases hi5 : (i : Int) < 5
    · have i0 : (0 : Int) ≤ i := by omega
      have c0 := F.c0 i hi'
      have c1 := F.c1 i hi'
      have c3 := F.c3 i hi'
      have o0 := F.o0 i hi'
      have o1 := F.o1 i hi'
      have o3 := F.o3 i hi'
      have hA := F.some_ (by omega)
      have Fg := FGf.of (hok _ (ix_memG hi')).gR
      have yes : grtF (ix l i) = true → greatF l = true := great_yes hi' (by omega)
      obtain ⟨g, hg⟩ : ∃ g, g = ix l i := ⟨_, rfl⟩
      rw [← hg] at c0 c1 c3 Fg yes
      by_cases g1 : (12 : Int) < g.ps.length
      · have e := yes (grtF_yes1 (by omega))
        simp (config := { maxSteps := 1000000 }) only [hlt, hi5, i0, c0, o0, hA, g1, e, pAdd_zero, pAdd_isSome, undef, push_cast, ↓Int.toNat_natCast, ↓reduceIte, reduceCtorEq, Nat.reduceEqDiff, Nat.reduceLT]
      by_cases g2 : (40 : Int) < g.cm.length
      · have e := yes (grtF_yes2 (by omega))
        simp (config := { maxSteps := 1000000 }) only [hlt, hi5, i0, c0, c1, o0, o1, hA, g1, g2, e, pAdd_zero, pAdd_add, pAdd_isSome, undef, push_cast, ↓Int.toNat_natCast, ↓reduceIte, reduceCtorEq, Nat.reduceEqDiff, Nat.reduceLT]
      by_cases g3 : (20 : Int) < g.gs.length
      · have e := yes (grtF_yes3 (by omega))
        simp (config := { maxSteps := 1000000 }) only [hlt, hi5, i0, c0, c1, c3, o0, o1, o3, hA, g1, g2, g3, e, pAdd_zero, pAdd_add, pAdd_isSome, push_cast, ↓Int.toNat_natCast, ↓reduceIte, reduceCtorEq, Nat.reduceEqDiff, Nat.reduceLT]
      simp (config := { maxSteps := 1000000 }) only [hlt, hi5, i0, c0, c1, c3, o0, o1, o3, hA, g1, g2, g3, pAdd_zero, pAdd_add, pAdd_isSome, push_cast, ↓Int.toNat_natCast, ↓reduceIte, reduceCtorEq, Nat.reduceEqDiff, Nat.reduceLT]
      (repeat (refine And.intro (by first | omega | decide) ?_))
      refine loop_rule (ι := Nat) (fun k => ⟨[(0, (.x (.a (.v (.slice A l.length c))))), (3, .x (.a (.v (.int .i64 i)))), (4, .x (.a (.v (.int .i64 k))))], []⟩) (fun k => k ≤ g.gs.length ∧ ∀ j, j < k → ¬ 40 < (ix g.gs j).l.length) (fun k => g.gs.length - k) 0 [] ⟨Nat.zero_le _, fun j h => by omega⟩ ?_ ?_
      · simp (config := { maxSteps := 1000000 }) only [push_cast, ↓Int.cast_ofNat_Int, Int.cast_ofNat_Int, ↓reduceIte, reduceCtorEq, Nat.reduceEqDiff]
      rintro k ⟨hk, hK⟩
      by_cases hkl : (k : Int) < g.gs.length
      · have k0 : (0 : Int) ≤ k := by omega
        have d1 := Fg.c1 k (by omega)
        have q1 := Fg.o1 k (by omega)
        have hB := Fg.some_ (by omega)
        by_cases g4 : (40 : Int) < (ix g.gs k).l.length
        · have e := yes (grtF_yes4 (k := k) (by omega) (by omega))
          simp (config := { maxSteps := 1000000 }) only [hlt, hkl, i0, k0, c3, o3, d1, q1, hA, hB, g4, e, pAdd_add, pAdd_isSome, push_cast, ↓Int.toNat_natCast, ↓reduceIte, reduceCtorEq, Nat.reduceEqDiff, Nat.reduceLT]
        simp (config := { maxSteps := 1000000 }) only [hlt, hkl, i0, k0, c3, o3, d1, q1, hA, hB, g4, pAdd_add, pAdd_isSome, push_cast, ↓Int.toNat_natCast, ↓reduceIte, reduceCtorEq, Nat.reduceEqDiff, Nat.reduceLT, Int.reduceNeg]
        (repeat (refine And.intro (by first | omega | decide) ?_))
        refine loopK_normal (k + 1) [] ⟨by omega, fun j hj => ?_⟩ (by omega) ?_
        · by_cases e : j = k
          · rw [e]; omega
          · exact hK j (by omega)
        · simp (config := { maxSteps := 1000000 }) only [push_cast, ↓reduceIte, reduceCtorEq, Nat.reduceEqDiff]
      · simp (config := { maxSteps := 1000000 }) only [hlt, hkl, i0, c3, o3, hA, pAdd_add, pAdd_isSome, push_cast, ↓Int.toNat_natCast, ↓reduceIte, reduceCtorEq, Nat.reduceEqDiff, Nat.reduceLT, Int.reduceNeg]
        (repeat (refine And.intro (by first | omega | decide) ?_))
        refine loopK_normal (i + 1) [] ⟨by omega, by omega, fun j hj => ?_⟩ (by omega) ?_
        · by_cases e : j = i
          · rw [e, ← hg]
            exact grtF_no (by omega) (by omega) (by omega) fun k hk => hK k (by omega)
          · exact hI j (by omega)
        · simp (config := { maxSteps := 1000000 }) only [push_cast, ↓reduceIte, reduceCtorEq]
    · have e := great_end (l := l) fun j hj h5' => hI j (by omega)
      by_cases g5 : (5 : Int) < l.length
      · have e2 : greatF l = true := by rw [e]; exact decide_eq_true (by omega)
        simp (config := { maxSteps := 1000000 }) only [hlt, hi5, g5, e2, push_cast, ↓reduceIte, reduceCtorEq, Nat.reduceEqDiff, Nat.reduceLT]
      · have e2 : greatF l = false := by rw [e]; exact decide_eq_false (by omega)
        simp (config := { maxSteps := 1000000 }) only [hlt, hi5, g5, e2, push_cast, ↓reduceIte, reduceCtorEq, Nat.reduceEqDiff, Nat.reduceLT]
  · have e := great_end (l := l) fun j hj h5' => hI j (by omega)
    have g5 : ¬ (5 : Int) < l.length := by omega
    have e2 : greatF l = false := by rw [e]; exact decide_eq_false (by omega)
    simp (config := { maxSteps := 1000000 }) only [hlt, g5, e2, undef, push_cast, ↓reduceIte, reduceCtorEq, Nat.reduceEqDiff, Nat.reduceLT]
theorem great32K {w0 : World} {hp : List Res} {l : List RfG} {A : Option Addr} {c : Nat} (hR : RdV w0 w0.heap.size A (rfVs l)) (hok : ∀ g ∈ l, g.Ok w0) : CallOK Tryz.prog w0 No 4 [.x (.a (.v (.slice A l.length c)))] hp (.x (.a (.v (.bool (greatF l))))) hp := callOK_v fun γ w hS =>
  great32_any l A c w (rdV_later hR hS) fun g hg => (hok g hg).later hS
end Go.Proofs.YtombphphaoeeiaaGreatDoor
