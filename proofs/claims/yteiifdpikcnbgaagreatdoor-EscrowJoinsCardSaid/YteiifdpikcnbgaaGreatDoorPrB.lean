/- PrB: PrP, Sum, joined. -/
import Derived.Test.YteiifdpikcnbgaaGreatDoorPrA
import Derived.Test.YteiifdpikcnbgaaGreatDoorVs
import Derived.Test.YteiifdpikcnbgaaGreatDoorPr8
/- Plain facts on powers, rows and peers. No program in sight. -/
namespace Go.Proofs.YteiifdpikcnbgaaGreatDoor
open Go.RowKit
set_option linter.unusedSimpArgs false
theorem n8_rem (u n : UInt8) (hn : 0 < n.toNat) : ∃ p : Nat, n8 (u % n) = p ∧ p < n.toNat := ⟨(u % n).toNat, rfl, by
  rw [UInt8.toNat_mod]
  exact Nat.mod_lt _ hn⟩
theorem powU_lt (a n : UInt64) : powU a n < fpP := by
  rw [UInt64.lt_iff_toNat_lt, powU_toNat]
  exact Nat.mod_lt _ (by decide)
theorem pow3_ne (k : Nat) : ¬ 3 ^ k % 2305843009213693951 = 0 := fun h => by
  have h1 : (3 ^ k * 1537228672809129301 ^ k) % 2305843009213693951 = 1 := by
    rw [← Nat.mul_pow, Nat.pow_mod, show 3 * 1537228672809129301 % 2305843009213693951 = 1 from by decide, Nat.one_pow]
  rw [Nat.mul_mod, h, Nat.zero_mul] at h1
  exact absurd h1 (by decide)
theorem powU_ne (n : UInt64) : ¬ powU 3 n = 0 := fun h => pow3_ne n.toNat (by
  have := congrArg UInt64.toNat h
  rwa [powU_toNat] at this)
theorem powU_comm (a b : UInt64) : powU (powU 3 a) b = powU (powU 3 b) a := by
  apply UInt64.toNat_inj.1
  rw [powU_toNat, powU_toNat, powU_toNat, powU_toNat, ← Nat.pow_mod, ← Nat.pow_mod, ← Nat.pow_mul, ← Nat.pow_mul, Nat.mul_comm]
theorem opTo_get (F : UInt32 → UInt32 → UInt32) (a b : List UInt32) (n j : Nat) (h : j < n) : ix (opTo F a b n) j = F (ix a j) (ix b j) := by
  induction n with
  | zero => omega
  | succ n ih =>
    have hl := opTo_length F a b n
    rw [opTo_succ]
    by_cases e : j = n
    · subst e
      unfold ix
      rw [List.getD_eq_getElem?_getD, List.getElem?_append_right (by omega), hl, Nat.sub_self]
      rfl
    · rw [← ih (by omega)]
      unfold ix
      rw [List.getD_eq_getElem?_getD, List.getElem?_append_left (by omega), List.getD_eq_getElem?_getD]
theorem zeros_get (n j : Nat) : ix (List.replicate n (0 : UInt32)) j = 0 := by
  simp [ix, List.getD_eq_getElem?_getD, List.getElem?_replicate]
  split <;> rfl
theorem may_list {l : List Pr} (h : ∀ i, i < l.length → lastP l i < (ix l i).1 ∧ (ix l i).1 < 64 ∧ ∃ k, (ix l i).2 = powU 3 k) : may l = true := may_iff.2 fun i hi => by
  obtain ⟨h1, h2, k, h3⟩ := h i hi
  exact ⟨h1, h2, by rw [h3]; exact powU_ne k, by rw [h3]; exact powU_lt 3 k⟩
section
variable (n : Nat)
theorem prOk_of {me : Int} {l : List Pr} (h1 : may l = true) (h2 : n ≤ 32) (h3 : foundTo me l l.length = true) : prOk me l n = true := by
  rw [prOk_found h1 (zOk_yes (by omega) (by omega)), h3]
end
theorem prTo_eq {me : Int} {key : UInt64} {l : List Pr} {n : Nat} (h : prOk me l n = true) : prOut me key l n = pairTo me key l n l.length := by
  rw [prOut_yes h, Int.toNat_natCast]
theorem prTo_len {me : Int} {key : UInt64} {l : List Pr} {n : Nat} (h : prOk me l n = true) : (prOut me key l n).length = n := by rw [prTo_eq h, pairTo_length]
theorem pairW_comm (k1 k3 : UInt64) (n : Nat) : pairW (powU 3 k3) k1 n = pairW (powU 3 k1) k3 n := by unfold pairW; rw [powU_comm]
end Go.Proofs.YteiifdpikcnbgaaGreatDoor
/- Sums of numbers that wrap: over lists, over squares. No program in sight. -/
namespace Go.Proofs.YteiifdpikcnbgaaGreatDoor
open Go.RowKit
def sumN (f : Nat → UInt32) : Nat → UInt32
  | 0 => 0
  | n + 1 => sumN f n + f n
theorem u32_mid (a b c d : UInt32) : a + b + (c + d) = a + c + (b + d) := by
  rw [UInt32.add_assoc, UInt32.add_assoc, ← UInt32.add_assoc b c, UInt32.add_comm b c, UInt32.add_assoc c b]
theorem sumN_add (f g : Nat → UInt32) (n : Nat) : sumN (fun i => f i + g i) n = sumN f n + sumN g n := by
  induction n with
  | zero => rfl
  | succ n ih =>
    simp only [sumN, ih]
    exact u32_mid _ _ _ _
theorem sumN_congr {f g : Nat → UInt32} {n : Nat} (h : ∀ i, i < n → f i = g i) : sumN f n = sumN g n := by
  induction n with
  | zero => rfl
  | succ n ih => simp only [sumN]; rw [ih fun i hi => h i (by omega), h n (by omega)]
theorem sumN_zero (n : Nat) : sumN (fun _ => 0) n = 0 := by
  induction n with
  | zero => rfl
  | succ n ih => simp only [sumN, ih]; rfl
theorem sumN_anti (a : Nat → Nat → UInt32) (n : Nat) (h : ∀ i m, i < n → m < n → a i m + a m i = 0) (h0 : ∀ i, i < n → a i i = 0) : sumN (fun i => sumN (a i) n) n = 0 := by
  induction n with
  | zero => rfl
  | succ n ih =>
    have ih := ih (fun i m hi hm => h i m (by omega) (by omega)) fun i hi => h0 i (by omega)
    have e1 : sumN (fun i => sumN (a i) (n + 1)) n = sumN (fun i => sumN (a i) n) n + sumN (fun i => a i n) n := by
      rw [← sumN_add]; exact sumN_congr fun i _ => rfl
    show sumN (fun i => sumN (a i) (n + 1)) n + (sumN (a n) n + a n n) = 0
    rw [e1, ih, h0 n (by omega), UInt32.add_zero, UInt32.zero_add, ← sumN_add]
    rw [sumN_congr (g := fun _ => 0) fun i hi => h i n (by omega) (by omega)]
    exact sumN_zero n
/-- A list's sum. -/
def sumL (l : List UInt32) : UInt32 := l.foldl (· + ·) 0
theorem sumL_nil : sumL [] = 0 := rfl
theorem sumL_snoc (l : List UInt32) (x : UInt32) : sumL (l ++ [x]) = sumL l + x := by unfold sumL; rw [List.foldl_append]; rfl
theorem sumL_range (f : Nat → UInt32) (n : Nat) : sumL ((List.range n).map f) = sumN f n := by
  induction n with
  | zero => rfl
  | succ n ih => rw [List.range_succ, List.map_append, List.map_cons, List.map_nil, sumL_snoc, ih]; rfl
theorem sumL_filter (p : Nat → Bool) (f : Nat → UInt32) (n : Nat) : sumL (((List.range n).filter p).map f) = sumN (fun i => if p i = true then f i else 0) n := by
  induction n with
  | zero => rfl
  | succ n ih =>
    rw [List.range_succ, List.filter_append, List.map_append]
    simp only [sumN]
    rw [← ih]
    cases h : p n
    · simp [List.filter, h]
    · simp only [List.filter, h, List.map_cons, List.map_nil, sumL_snoc, if_true]
theorem take_ix {α : Type} [Inhabited α] (l : List α) (i : Nat) (h : i < l.length) : l.take (i + 1) = l.take i ++ [ix l i] := by
  rw [List.take_add_one, List.getElem?_eq_getElem h]
  simp [ix, List.getD_eq_getElem?_getD, h]
theorem sumR_sum (d : Nat) (L : List (List UInt32)) (j i : Nat) (hj : j < d) (hi : i ≤ L.length) : ix (sumR d L i) j = sumL ((L.take i).map fun r => ix r j) := by
  induction i with
  | zero => rw [sumR_zero, zeros_get]; rfl
  | succ i ih => rw [sumR_succ, opTo_get _ _ _ _ _ hj, ih (by omega), take_ix _ _ (by omega), List.map_append, List.map_cons, List.map_nil, sumL_snoc]
theorem sumR_all (d : Nat) (L : List (List UInt32)) (j : Nat) (hj : j < d) : ix (sumR d L L.length) j = sumL (L.map fun r => ix r j) := by
  rw [sumR_sum d L j _ hj (Nat.le_refl _), List.take_length]
end Go.Proofs.YteiifdpikcnbgaaGreatDoor
