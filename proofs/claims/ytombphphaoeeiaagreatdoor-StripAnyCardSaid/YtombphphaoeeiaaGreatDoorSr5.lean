import Derived.Test.YtombphphaoeeiaaGreatDoorSr1
import Derived.Test.YtombphphaoeeiaaGreatDoorCst0
/- Do groups lie apart (strip's apart). -/
namespace Go.Proofs.YtombphphaoeeiaaGreatDoor
open Go.RowKit
set_option linter.unusedSimpArgs false
set_option linter.unusedVariables false
attribute [local irreducible] Callable CallOK CallG CallM DrawG LoopG symR symM
theorem apI_iff {l : List Gr} {i : Nat} : apI l i = true ↔ ∀ j, j < (ix l i).ps.length → ∀ q a, lookI (fsJ i (ix l i).ps (fsI l i) j) (ix (ix l i).ps j).1 = some (.a (.v (.int q a))) → a = i := by
  unfold apI
  rw [List.all_eq_true]
  constructor
  · intro h j hj q a e
    have := h j (List.mem_range.2 hj)
    rw [e] at this
    exact of_decide_eq_true this
  · intro h j hj
    split
    · rename_i q a e
      exact decide_eq_true (h j (List.mem_range.1 hj) q a e)
    · rfl
/-- What stands there are numbers of groups. -/
theorem putI_look {P : Sc → Prop} {m : List (Int × Sc)} {i : Int} {x : Sc} (hm : ∀ k y, lookI m k = some y → P y) (hx : P x) : ∀ k y, lookI (putI m i x) k = some y → P y := fun k y h => by
  rw [lookI_putI] at h
  split at h
  · obtain rfl := Option.some.inj h; exact hx
  · exact hm k y h
def isNum (x : Sc) : Prop := ∃ a : Nat, x = .a (.v (.int .i64 a))
theorem fsJ_num (i : Nat) (ps : List Pr) {m : List (Int × Sc)} (hm : ∀ k y, lookI m k = some y → isNum y) : ∀ j k y, lookI (fsJ i ps m j) k = some y → isNum y
  | 0 => hm
  | j + 1 => putI_look (fsJ_num i ps hm j) ⟨i, rfl⟩
theorem fsI_num (l : List Gr) : ∀ i k y, lookI (fsI l i) k = some y → isNum y
  | 0 => fun k y h => by cases h
  | i + 1 => fsJ_num i _ (fsI_num l i) _
theorem fsJ_bnd (n i : Nat) (ps : List Pr) {m : List (Int × Sc)} (hm : mpBnd n m) : ∀ j, mpBnd n (fsJ i ps m j)
  | 0 => hm
  | j + 1 => putI_bnd (fsJ_bnd n i ps hm j) trivial
theorem fsI_bnd (n : Nat) (l : List Gr) : ∀ i, mpBnd n (fsI l i)
  | 0 => fun _ h => by cases h
  | i + 1 => fsJ_bnd n i _ (fsI_bnd n l i) _
theorem fsJ_ren (ρ : List Nat) (i : Nat) (ps : List Pr) {m : List (Int × Sc)} (hm : mpRen ρ m = m) : ∀ j, mpRen ρ (fsJ i ps m j) = fsJ i ps m j
  | 0 => hm
  | j + 1 => by
    show mpRen ρ (putI _ _ _) = putI _ _ _
    have := putI_ren ρ (fsJ i ps m j) (ix ps j).1 (.a (.v (.int .i64 i)))
    unfold mpRen
    rw [this]
    have e := fsJ_ren ρ i ps hm j
    unfold mpRen at e
    rw [e]
    rfl
theorem fsI_ren (ρ : List Nat) (l : List Gr) : ∀ i, mpRen ρ (fsI l i) = fsI l i
  | 0 => rfl
  | i + 1 => fsJ_ren ρ i _ (fsI_ren ρ l i) _
theorem apart_no {l : List Gr} {i : Nat} (hi : i < l.length) (h : apI l i = false) : apartG l = false := by
  cases ha : apartG l
  · rfl
  · unfold apartG at ha
    rw [List.all_eq_true] at ha
    rw [ha i (List.mem_range.2 hi)] at h
    cases h
theorem apart_yes {l : List Gr} (h : ∀ i, i < l.length → apI l i = true) : apartG l = true := by
  unfold apartG
  rw [List.all_eq_true]
  exact fun i hi => h i (List.mem_range.1 hi)
/-- Groups that lie in a slice. -/
def grs (l : List Grp) : List Gr := l.map Grp.gr
theorem grs_len (l : List Grp) : (grs l).length = l.length := List.length_map ..
theorem grs_ix {l : List Grp} {i : Nat} (h : i < l.length) : ix (grs l) i = (ix l i).gr := by
  rw [ix_getG (by rw [grs_len]; exact h), ix_getG h]
  exact List.getElem_map ..
structure FGr (w0 : World) (A : Option Addr) (l : List Grp) : Prop where
  some_ : 0 < l.length → A.isSome = true
  c0 : ∀ i, i < l.length → cellOf w0 (pAdd A (i * 4)) = .slice (ix l i).pA (ix l i).ps.length (ix l i).pc
  c1 : ∀ i, i < l.length → cellOf w0 (pAdd A (i * 4 + 1)) = .slice (ix l i).cA (ix l i).cm.length (ix l i).cc
  c2 : ∀ i, i < l.length → cellOf w0 (pAdd A (i * 4 + 2)) = .int .i64 (ix l i).nd
  c3 : ∀ i, i < l.length → cellOf w0 (pAdd A (i * 4 + 3)) = .map (ix l i).mo
  o0 : ∀ i, i < l.length → rawOk w0 No (pAdd A (i * 4))
  o1 : ∀ i, i < l.length → rawOk w0 No (pAdd A (i * 4 + 1))
  o2 : ∀ i, i < l.length → rawOk w0 No (pAdd A (i * 4 + 2))
  o3 : ∀ i, i < l.length → rawOk w0 No (pAdd A (i * 4 + 3))
theorem FGr.of {w0 : World} {A : Option Addr} {l : List Grp} (hR : RdV w0 w0.heap.size A (grVs l)) : FGr w0 A l := by
  have h := FV.no hR
  have g : ∀ i j, i < l.length → (hj : j < 4) → (grVs l)[i * 4 + j]? = some ((ix l i).vals[j]'hj) := fun i j hi hj => by
    have := flat_get Grp.vals_len l i j hi hj
    rw [show grVs l = l.flatMap Grp.vals from rfl, this]
    exact List.getElem?_eq_getElem hj
  exact ⟨fun hp => h.some_ (by rw [grVs_len]; omega), fun i hi => (h.cell (g i 0 hi (by omega))).1, fun i hi => (h.cell (g i 1 hi (by omega))).1, fun i hi => (h.cell (g i 2 hi (by omega))).1, fun i hi => (h.cell (g i 3 hi (by omega))).1,
    fun i hi => (h.cell (g i 0 hi (by omega))).2, fun i hi => (h.cell (g i 1 hi (by omega))).2, fun i hi => (h.cell (g i 2 hi (by omega))).2, fun i hi => (h.cell (g i 3 hi (by omega))).2⟩
structure GrsOk (w : World) (A : Option Addr) (c : Nat) (l : List Grp) : Prop where
  le : l.length ≤ c
  rd : RdV w w.heap.size A (grVs l)
  ok : ∀ G ∈ l, G.Ok w
  few : l.length ≤ 1000
attribute [local irreducible] fsI fsJ apI apartG
set_option maxRecDepth 100000 in
set_option maxHeartbeats 4000000 in
theorem apart_any (l : List Grp) (A : Option Addr) (c : Nat) (w : World) (hG : GrsOk w A c l) : Calls Tryz.prog 15 #[.slice A l.length c] w fun e w' => e = .returned (.bool (apartG (grs l))) ∧ Below w.heap.size w w' := by
  have F := FGr.of hG.rd
  have hl := grs_len l
  refine calls_v (n := 44) Tryz.func15 rfl Tryz.ntmps15 [(.x (.a (.v (.slice A l.length c))))] (by simp) (.x (.a (.v (.bool (apartG (grs l)))))) (fun _ => rfl) ?_
  simp (config := { maxSteps := 1000000 }) only [push_cast, ↓reduceIte, reduceCtorEq, Nat.reduceLT]
  (repeat (refine And.intro (by first | omega | decide) ?_))
  refine loop_rule (ι := Nat) (fun i => ⟨[(3, .x (.a (.o 0))), (11, (.x (.a (.v (.slice A l.length c))))), (12, .x (.a (.v (.int .i64 l.length)))), (13, .x (.a (.v (.int .i64 i))))], [.mp .i64 (fsI (grs l) i)]⟩) (fun i => i ≤ l.length ∧ ∀ j, j < i → apI (grs l) j = true) (fun i => l.length - i) 0 [0] ⟨Nat.zero_le _, fun j h => by omega⟩ ?_ ?_
  · have e0 : fsI (grs l) 0 = [] := by unfold fsI; rfl
    simp (config := { maxSteps := 1000000 }) only [e0, mpBnd_nil, push_cast, ↓Int.cast_ofNat_Int, Int.cast_ofNat_Int, ↓reduceIte, Nat.reduceEqDiff, Nat.reduceLT]
  rintro i ⟨hi, hI⟩
  by_cases hlt : (i : Int) < l.length
  · have hi' : i < l.length := by omega
    have i0 : (0 : Int) ≤ i := by omega
    have c0 := F.c0 i hi'
    have c1 := F.c1 i hi'
    have c2 := F.c2 i hi'
    have c3 := F.c3 i hi'
    have o0 := F.o0 i hi'
    have o1 := F.o1 i hi'
    have o2 := F.o2 i hi'
    have o3 := F.o3 i hi'
    have hA := F.some_ (by omega)
    have bI := fun n => eq_true (fsI_bnd n (grs l) i)
    have rI := fun ρ => fsI_ren ρ (grs l) i
    simp (config := { maxSteps := 1000000 }) only [hlt, i0, c0, c1, c2, c3, o0, o1, o2, o3, hA, bI, pAdd_zero, pAdd_add, pAdd_isSome, undef, push_cast, ↓Int.toNat_natCast, ↓reduceIte, reduceCtorEq, Nat.reduceEqDiff, Nat.reduceLT, Nat.reduceAdd]
    (repeat (refine And.intro (by first | omega | decide) ?_))
    have hGi := hG.ok _ (ix_memG hi')
    have egr := grs_ix hi'
    obtain ⟨G, hGe⟩ : ∃ G, G = ix l i := ⟨_, rfl⟩
    rw [← hGe] at hGi egr
    rw [← hGe]
    have Fp := FP.of hGi.pR
    have f1 := hGi.few.1
    have f0 := hG.few
    have hai : apI (grs l) i = true ↔ ∀ j, j < G.ps.length → ∀ q a, lookI (fsJ i G.ps (fsI (grs l) i) j) (ix G.ps j).1 = some (.a (.v (.int q a))) → a = i := by
      rw [apI_iff, egr]
      exact Iff.rfl
    refine loop_rule (ι := Nat) (fun j => ⟨[(3, .x (.a (.o 0))), (4, .x (.a (.v (.int .i64 i)))), (11, (.x (.a (.v (.slice A l.length c))))), (12, .x (.a (.v (.int .i64 l.length)))), (13, .x (.a (.v (.int .i64 i)))), (19, .x (.a (.v (.slice G.pA G.ps.length G.pc)))), (20, .x (.a (.v (.int .i64 G.ps.length)))), (21, .x (.a (.v (.int .i64 j))))], [.mp .i64 (fsJ i G.ps (fsI (grs l) i) j)]⟩)
      (fun j => j ≤ G.ps.length ∧ ∀ k, k < j → ∀ q a, lookI (fsJ i G.ps (fsI (grs l) i) k) (ix G.ps k).1 = some (.a (.v (.int q a))) → a = i) (fun j => G.ps.length - j) 0 [0] ⟨Nat.zero_le _, fun k h => by omega⟩ ?_ ?_
    · have e0 : fsJ i G.ps (fsI (grs l) i) 0 = fsI (grs l) i := by unfold fsJ; rfl
      simp (config := { maxSteps := 1000000 }) only [e0, bI, rI, push_cast, ↓Int.cast_ofNat_Int, Int.cast_ofNat_Int, ↓reduceIte, Nat.reduceEqDiff, Nat.reduceLT]
    rintro j ⟨hj, hJ⟩
    have bJ := fun n => eq_true (fsJ_bnd n i G.ps (fsI_bnd n (grs l) i) j)
    have rJ := fun ρ => fsJ_ren ρ i G.ps (fsI_ren ρ (grs l) i) j
    by_cases hjl : (j : Int) < G.ps.length
    · have hj' : j < G.ps.length := by omega
      have j0 : (0 : Int) ≤ j := by omega
      have d0 := Fp.c0 j hj'
      have d1 := Fp.c1 j hj'
      have q0 := Fp.ok0 j hj'
      have q1 := Fp.ok1 j hj'
      have hB := Fp.some_ (by omega)
      have es : putI (fsJ i G.ps (fsI (grs l) i) j) (ix G.ps j).1 (.a (.v (.int .i64 i))) = fsJ i G.ps (fsI (grs l) i) (j + 1) := by rw [fsJ]
      have bK := fun n => eq_true (fsJ_bnd n i G.ps (fsI_bnd n (grs l) i) (j + 1))
      have rK := fun ρ => fsJ_ren ρ i G.ps (fsI_ren ρ (grs l) i) (j + 1)
      cases hlk : lookI (fsJ i G.ps (fsI (grs l) i) j) (ix G.ps j).1 with
      | none =>
        simp (config := { maxSteps := 1000000 }) only [hjl, j0, d0, d1, q0, q1, hB, bJ, hlk, es, pAdd_zero, pAdd_add, pAdd_isSome, undef, push_cast, ↓Int.toNat_natCast, ↓reduceIte, reduceCtorEq, Nat.reduceEqDiff, Nat.reduceLT, Nat.reduceAdd, Int.reduceNeg]
        (repeat (refine And.intro (by first | omega | decide) ?_))
        refine loopK_normal (j + 1) [0] ⟨by omega, fun k hk q a ha => ?_⟩ (by omega) ?_
        · by_cases ek : k = j
          · rw [ek, hlk] at ha; cases ha
          · exact hJ k (by omega) q a ha
        · simp (config := { maxSteps := 1000000 }) only [bK, rK, push_cast, ↓reduceIte, Nat.reduceEqDiff, Nat.reduceLT]
      | some y =>
        obtain ⟨a, rfl⟩ := fsJ_num i G.ps (fsI_num (grs l) i) j _ _ hlk
        by_cases hai2 : (a : Int) = i
        · have hai3 := eq_true hai2
          simp (config := { maxSteps := 1000000 }) only [hjl, j0, d0, d1, q0, q1, hB, bJ, hlk, es, hai3, pAdd_zero, pAdd_add, pAdd_isSome, undef, push_cast, ↓Int.toNat_natCast, ↓reduceIte, reduceCtorEq, Nat.reduceEqDiff, Nat.reduceLT, Nat.reduceAdd, Int.reduceNeg]
          (repeat (refine And.intro (by first | omega | decide) ?_))
          refine loopK_normal (j + 1) [0] ⟨by omega, fun k hk q b hb => ?_⟩ (by omega) ?_
          · by_cases ek : k = j
            · rw [ek, hlk] at hb
              cases hb
              exact hai2
            · exact hJ k (by omega) q b hb
          · simp (config := { maxSteps := 1000000 }) only [bK, rK, push_cast, ↓reduceIte, Nat.reduceEqDiff, Nat.reduceLT]
        · have hb : apartG (grs l) = false := apart_no (i := i) (by omega) (by
            cases ha : apI (grs l) i
            · rfl
            · exact absurd (hai.1 ha j hj' _ _ hlk) hai2)
          simp (config := { maxSteps := 1000000 }) only [hjl, j0, d0, d1, q0, q1, hB, bJ, hlk, hai2, hb, pAdd_zero, pAdd_add, pAdd_isSome, undef, push_cast, ↓Int.toNat_natCast, ↓reduceIte, reduceCtorEq, Nat.reduceEqDiff, Nat.reduceLT, Nat.reduceAdd]
    · have hjj : j = G.ps.length := by omega
      have ei : fsJ i G.ps (fsI (grs l) i) G.ps.length = fsI (grs l) (i + 1) := by
        rw [fsI, egr]
        rfl
      subst hjj
      have bK := fun n => eq_true (fsI_bnd n (grs l) (i + 1))
      have rK := fun ρ => fsI_ren ρ (grs l) (i + 1)
      simp (config := { maxSteps := 1000000 }) only [hjl, ei, push_cast, ↓reduceIte, Nat.reduceEqDiff, Nat.reduceLT, Int.reduceNeg]
      (repeat (refine And.intro (by first | omega | decide) ?_))
      refine loopK_normal (i + 1) [0] ⟨by omega, fun k hk => ?_⟩ (by omega) ?_
      · by_cases ek : k = i
        · rw [ek]; exact hai.2 hJ
        · exact hI k (by omega)
      · simp (config := { maxSteps := 1000000 }) only [bK, rK, push_cast, ↓reduceIte, Nat.reduceEqDiff, Nat.reduceLT]
  · have hb : apartG (grs l) = true := apart_yes fun k hk => hI k (by omega)
    simp (config := { maxSteps := 1000000 }) only [hlt, hb, push_cast, ↓reduceIte, Nat.reduceEqDiff, Nat.reduceLT]
end Go.Proofs.YtombphphaoeeiaaGreatDoor
