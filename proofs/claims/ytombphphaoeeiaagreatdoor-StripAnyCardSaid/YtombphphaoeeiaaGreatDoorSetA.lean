import Derived.Test.YtombphphaoeeiaaGreatDoorPrA
import Derived.Test.YtombphphaoeeiaaGreatDoorRef7
import Derived.Test.YtombphphaoeeiaaGreatDoorShA
import Derived.Test.YtombphphaoeeiaaGreatDoorTy
/- The sum of rows (vec.Sum). -/
namespace Go.Proofs.YtombphphaoeeiaaGreatDoor
open Go.RowKit
set_option linter.unusedSimpArgs false
/-- The sum of the first so many rows. -/
def sumR (n : Nat) (L : List (List UInt32)) : Nat → List UInt32
  | 0 => List.replicate n 0
  | i + 1 => opTo (· + ·) (sumR n L i) (ix L i) n
/-- A sum that is made in place, so far. -/
def mixTo (a b : List UInt32) (j : Nat) : List UInt32 := opTo (· + ·) a b j ++ a.drop j
attribute [local irreducible] opTo mixTo sumR
attribute [local irreducible] Callable CallOK CallG CallM DrawG LoopG symR symM
end Go.Proofs.YtombphphaoeeiaaGreatDoor
/- PrB: PrP, Sum, joined. -/
/- Plain facts on powers, rows and peers. No program in sight. -/
namespace Go.Proofs.YtombphphaoeeiaaGreatDoor
open Go.RowKit
set_option linter.unusedSimpArgs false
theorem opTo_get (F : UInt32 → UInt32 → UInt32) (a b : List UInt32) (n j : Nat) (h : j < n) : ix (opTo F a b n) j = F (ix a j) (ix b j) := by
  induction n with
  | zero => omega
  | succ n ih =>
    have hl := opTo_length F a b n
    rw [opTo_succ]
    by_cases e : j = n
    · subst e
      unfold ix
      rw [List.getD_eq_getElem?_getD, List.getElem?_append_right (by omega), hl, Nat.sub_self]
      rfl
    · rw [← ih (by omega)]
      unfold ix
      rw [List.getD_eq_getElem?_getD, List.getElem?_append_left (by omega), List.getD_eq_getElem?_getD]
section
variable (n : Nat)
theorem prOk_of {me : Int} {l : List Pr} (h1 : may l = true) (h2 : n ≤ 32) (h3 : foundTo me l l.length = true) : prOk me l n = true := by
  rw [prOk_found h1 (zOk_yes (by omega) (by omega)), h3]
end
theorem prTo_eq {me : Int} {key : UInt64} {l : List Pr} {n : Nat} (h : prOk me l n = true) : prOut me key l n = pairTo me key l n l.length := by
  rw [prOut_yes h, Int.toNat_natCast]
end Go.Proofs.YtombphphaoeeiaaGreatDoor
/- Sums of numbers that wrap: over lists, over squares. No program in sight. -/
namespace Go.Proofs.YtombphphaoeeiaaGreatDoor
open Go.RowKit
def sumN (f : Nat → UInt32) : Nat → UInt32
  | 0 => 0
  | n + 1 => sumN f n + f n
/-- A list's sum. -/
def sumL (l : List UInt32) : UInt32 := l.foldl (· + ·) 0
theorem take_ix {α : Type} [Inhabited α] (l : List α) (i : Nat) (h : i < l.length) : l.take (i + 1) = l.take i ++ [ix l i] := by
  rw [List.take_add_one, List.getElem?_eq_getElem h]
  simp [ix, List.getD_eq_getElem?_getD, h]
end Go.Proofs.YtombphphaoeeiaaGreatDoor
/- SetA: Bl0, Set0, joined. -/
/- Where something is first in a list. No program in sight. -/
namespace Go.Proofs.YtombphphaoeeiaaGreatDoor
open Go.RowKit
set_option linter.unusedSimpArgs false
abbrev vI64 (n : Int) : Value := .int .i64 n
theorem ix_mem {α : Type} [Inhabited α] {l : List α} {i : Nat} (h : i < l.length) : ix l i ∈ l := by
  simp only [ix, List.getD_eq_getElem?_getD, List.getElem?_eq_getElem h, Option.getD_some]
  exact List.getElem_mem h
theorem mem_ix {α : Type} [Inhabited α] {l : List α} {x : α} (h : x ∈ l) : ∃ i, i < l.length ∧ ix l i = x := by
  obtain ⟨i, hi, e⟩ := List.getElem_of_mem h
  exact ⟨i, hi, by simp only [ix, List.getD_eq_getElem?_getD, List.getElem?_eq_getElem hi, Option.getD_some, e]⟩
/-- The first place below n where F is. -/
def firstI (F : Nat → Bool) (n : Nat) : Int := match (List.range n).find? F with | some k => k | none => -1
theorem firstI_at {F : Nat → Bool} {n i : Nat} (hi : i < n) (h : F i = true) (hj : ∀ j, j < i → F j = false) : firstI F n = i := by
  have : (List.range n).find? F = some i := by
    rw [List.find?_range_eq_some]
    exact ⟨h, List.mem_range.2 hi, fun j hji => by rw [hj j hji]; rfl⟩
  unfold firstI
  rw [this]
theorem firstI_no {F : Nat → Bool} {n : Nat} (hj : ∀ j, j < n → F j = false) : firstI F n = -1 := by
  have : (List.range n).find? F = none := by
    rw [List.find?_eq_none]
    intro j hjn
    rw [hj j (List.mem_range.1 hjn)]; simp
  unfold firstI
  rw [this]
theorem firstI_ge {F : Nat → Bool} {n : Nat} : (0 : Int) ≤ firstI F n ↔ ∃ i, i < n ∧ F i = true := by
  unfold firstI
  cases h : (List.range n).find? F with
  | some k =>
    rw [List.find?_range_eq_some] at h
    exact ⟨fun _ => ⟨k, List.mem_range.1 h.2.1, h.1⟩, fun _ => by simp⟩
  | none =>
    rw [List.find?_eq_none] at h
    exact ⟨fun h => by simp at h, fun ⟨i, hi, hF⟩ => absurd hF (h i (List.mem_range.2 hi))⟩
def isIn (l : List Int) (n : Int) : Bool := l.any fun x => decide (x = n)
theorem isIn_iff {l : List Int} {n : Int} : isIn l n = true ↔ n ∈ l := by
  unfold isIn
  rw [List.any_eq_true]
  constructor
  · rintro ⟨x, hx, h⟩
    rw [← of_decide_eq_true h]; exact hx
  · intro h
    exact ⟨n, h, decide_eq_true rfl⟩
def posI (l : List Int) (n : Int) : Int := firstI (fun i => decide (ix l i = n)) l.length
theorem posI_at {l : List Int} {n : Int} {i : Nat} (hi : i < l.length) (h : ix l i = n) (hj : ∀ j, j < i → ¬ ix l j = n) : posI l n = i := firstI_at hi (decide_eq_true h) fun j h => decide_eq_false (hj j h)
theorem posI_no {l : List Int} {n : Int} (hj : ∀ j, j < l.length → ¬ ix l j = n) : posI l n = -1 := firstI_no fun j h => decide_eq_false (hj j h)
theorem posI_in (l : List Int) (n : Int) : decide (0 ≤ posI l n) = isIn l n := by
  rw [Bool.eq_iff_iff, decide_eq_true_eq, isIn_iff]
  unfold posI
  rw [firstI_ge]
  constructor
  · rintro ⟨i, hi, h⟩
    rw [← of_decide_eq_true h]; exact ix_mem hi
  · intro h
    obtain ⟨i, hi, e⟩ := mem_ix h
    exact ⟨i, hi, decide_eq_true e⟩
end Go.Proofs.YtombphphaoeeiaaGreatDoor
/- slices.Index, slices.Contains on whole numbers: where a number is first, and whether. -/
namespace Go.Proofs.YtombphphaoeeiaaGreatDoor
open Go.RowKit
set_option linter.unusedSimpArgs false
attribute [local irreducible] Callable CallOK CallG CallM DrawG LoopG symR symM
set_option maxRecDepth 100000 in
theorem indexI_any (l : List Int) (n : Int) (A : Option Addr) (c : Nat) (w : World) (hl : l.length ≤ 1000000) (hR : RdV w w.heap.size A (l.map vI64)) : Calls Tryz.prog 54 #[.slice A l.length c, .int .i64 n] w fun e w' => e = .returned (.int .i64 (posI l n)) ∧ Below w.heap.size w w' := by
  have F := FM.of hR
  refine calls_v (n := 19) Tryz.func54 rfl Tryz.ntmps54 [.x (.a (.v (.slice A l.length c))), .x (.a (.v (.int .i64 n)))] (by simp) (.x (.a (.v (.int .i64 (posI l n))))) (fun _ => rfl) ?_
  simp only [push_cast, ↓reduceIte, reduceCtorEq, Nat.reduceLT, Int.reduceNeg]
  refine loop_rule (ι := Nat) (fun i => ⟨[(0, .x (.a (.v (.slice A l.length c)))), (1, .x (.a (.v (.int .i64 n)))), (7, .x (.a (.v (.int .i64 l.length)))), (8, .x (.a (.v (.int .i64 i))))], []⟩) (fun i => i ≤ l.length ∧ ∀ j, j < i → ¬ ix l j = n) (fun i => l.length - i) 0 [] ⟨by omega, fun j h => by omega⟩ ?_ ?_
  · simp only [push_cast, ↓Int.cast_ofNat_Int, Int.cast_ofNat_Int, ↓reduceIte, reduceCtorEq, Nat.reduceEqDiff]
  · rintro i ⟨hi, hj⟩
    by_cases hlt : (i : Int) < l.length
    · have i0 : (0 : Int) ≤ i := by omega
      have c0 : cellOf w (pAdd A i) = .int .i64 (ix l i) := F.cell i (by omega)
      have o0 := F.ok i (by omega)
      have hA := F.some_ (by omega)
      by_cases h : n = ix l i
      · have hp := posI_at (l := l) (n := n) (i := i) (by omega) h.symm hj
        simp only [hlt, i0, c0, o0, hA, h.symm, hp, push_cast, ↓Int.toNat_natCast, ↓reduceIte, reduceCtorEq, Nat.reduceEqDiff, Nat.reduceLT, Int.reduceNeg]
      · simp only [hlt, i0, c0, o0, hA, h, push_cast, ↓Int.toNat_natCast, ↓reduceIte, reduceCtorEq, Nat.reduceEqDiff, Nat.reduceLT, Int.reduceNeg]
        (repeat (refine And.intro (by first | omega | decide) ?_))
        refine loopK_normal (i + 1) [] ⟨by omega, fun j hjl => ?_⟩ (by omega) ?_
        · by_cases e : j = i
          · rw [e]; exact fun e => h e.symm
          · exact hj j (by omega)
        · simp only [push_cast, ↓reduceIte, reduceCtorEq, Nat.reduceEqDiff]
    · have hp := posI_no (l := l) (n := n) (fun j h => hj j (by omega))
      simp only [hlt, hp, push_cast, ↓reduceIte, reduceCtorEq, Nat.reduceEqDiff, Nat.reduceLT, Int.reduceNeg]
theorem indexIOK {w0 : World} {hp : List Res} {sv : Sv} {l : List Int} (n : Int) (hl : l.length ≤ 1000000) (h : Shows w0 No hp sv (l.map vI64)) : CallOK Tryz.prog w0 No 54 [sv, .x (.a (.v (.int .i64 n)))] hp (.x (.a (.v (.int .i64 (posI l n))))) hp := callOK_v fun γ w hS => by
  obtain ⟨A, c, e1, b1, r1⟩ := h γ w hS
  rw [List.length_map] at e1
  show Calls _ _ #[sv.val γ, .int .i64 n] w _
  rw [e1]
  exact indexI_any l n A c w hl r1
set_option maxRecDepth 100000 in
theorem containsI_any (l : List Int) (n : Int) (A : Option Addr) (c : Nat) (w : World) (hl : l.length ≤ 1000000) (hc : l.length ≤ c) (hR : RdV w w.heap.size A (l.map vI64)) : Calls Tryz.prog 32 #[.slice A l.length c, .int .i64 n] w fun e w' => e = .returned (.bool (isIn l n)) ∧ Below w.heap.size w w' := by
  refine calls_v (n := 9) Tryz.func32 rfl Tryz.ntmps32 [.x (.a (.v (.slice A l.length c))), .x (.a (.v (.int .i64 n)))] (by simp) (.x (.a (.v (.bool (isIn l n))))) (fun _ => rfl) ?_
  have hp := posI_in l n
  simp only [push_cast, ↓reduceIte, reduceCtorEq, Nat.reduceEqDiff, Nat.reduceLT]
  refine callG_v rfl cb54 rfl (indexIOK n hl (shows_raw hR _ _ (by simp) hc)) (dOk_lt rfl) ?_
  simp only [hp, push_cast, ↓reduceIte, Nat.reduceLT]
theorem containsIOK {w0 : World} {hp : List Res} {sv : Sv} {l : List Int} (n : Int) (hl : l.length ≤ 1000000) (h : Shows w0 No hp sv (l.map vI64)) : CallOK Tryz.prog w0 No 32 [sv, .x (.a (.v (.int .i64 n)))] hp (.x (.a (.v (.bool (isIn l n))))) hp := callOK_v fun γ w hS => by
  obtain ⟨A, c, e1, b1, r1⟩ := h γ w hS
  rw [List.length_map] at e1 b1
  show Calls _ _ #[sv.val γ, .int .i64 n] w _
  rw [e1]
  exact containsI_any l n A c w hl b1 r1
end Go.Proofs.YtombphphaoeeiaaGreatDoor
