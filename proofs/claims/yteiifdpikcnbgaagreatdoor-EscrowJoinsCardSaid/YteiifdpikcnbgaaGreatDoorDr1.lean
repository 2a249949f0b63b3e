/- A number's decimal digits, by the library and by the document (caucusref24, 25). -/
import Derived.Test.YteiifdpikcnbgaaGreatDoorPgA
import Derived.Test.YteiifdpikcnbgaaGreatDoorShA
import Derived.Test.YteiifdpikcnbgaaGreatDoorLib
import Derived.Lib.ItoaMem
import Derived.Lib.AppendIntMem
import Derived.Lib.SmallJoins
import Derived.Laws.Strings
namespace Go.Proofs.YteiifdpikcnbgaaGreatDoor
open Go.RowKit
set_option linter.unusedSimpArgs false
def dch (m : Nat) : UInt8 := UInt8.ofNat (48 + m % 10)
/-- What is told in all: the digits still to come, and those that stand. -/
def full (m : Nat) (l : List UInt8) : List UInt8 := if m = 0 ∧ l ≠ [] then l else Lib.decDigits m ++ l
theorem full_start (n : Nat) : full n [] = Lib.decDigits n := by unfold full; rw [if_neg (by simp), List.append_nil]
theorem full_end {l : List UInt8} (h : l ≠ []) : full 0 l = l := by unfold full; rw [if_pos ⟨rfl, h⟩]
theorem full_step (m : Nat) (l : List UInt8) (h : 0 < m ∨ l = []) : full (m / 10) (dch m :: l) = full m l := by
  have e : full m l = Lib.decDigits m ++ l := by
    unfold full
    rw [if_neg]
    rintro ⟨h1, h2⟩
    rcases h with h | h
    · omega
    · exact h2 h
  rw [e]
  by_cases h10 : m < 10
  · have h0 : m / 10 = 0 := by omega
    rw [h0, full_end (by simp), Lib.decDigits_one h10]
    unfold dch
    rw [show m % 10 = m from by omega]
    rfl
  · unfold full
    rw [if_neg (by rintro ⟨h1, _⟩; omega)]
    conv => rhs; rw [Lib.decDigits, dif_neg h10]
    rw [List.append_assoc]
    rfl
theorem bstr_app (a b : List UInt8) : bstr a ++ bstr b = bstr (a ++ b) := by
  apply ByteArray.ext
  rw [ByteArray.data_append]
  simp [bstr]
theorem ten_piece (m : Nat) : ({ data := #[48, 49, 50, 51, 52, 53, 54, 55, 56, 57] } : ByteArray).extract (m % 10) (m % 10 + 1) = bstr [dch m] := by
  have h : m % 10 < 10 := Nat.mod_lt _ (by omega)
  unfold dch
  generalize m % 10 = k at h
  revert k
  decide
theorem bstr_nil (l : List UInt8) : ((bstr l).toList == ({ data := #[] } : ByteArray).toList) = decide (l = []) := by
  rw [ByteArray.toList_eq, ByteArray.toList_eq]
  show (l == []) = decide (l = [])
  cases l <;> simp
theorem tmod10 (m : Nat) : (m : Int).tmod 10 = ((m % 10 : Nat) : Int) := by rw [Int.tmod_eq_emod_of_nonneg (by omega)]; push_cast
theorem tdiv10 (m : Nat) : (m : Int).tdiv 10 = ((m / 10 : Nat) : Int) := by rw [Int.tdiv_eq_ediv_of_nonneg (by omega)]; push_cast
theorem bstr_size (l : List UInt8) : (bstr l).size = l.length := rfl
attribute [local irreducible] full
theorem dec_ch (n : Nat) : ∀ b ∈ Lib.decDigits n, chB b = true := by
  induction n using Nat.strongRecOn with
  | _ n ih =>
    intro b hb
    have hd : ∀ k, k < 10 → chB (UInt8.ofNat (48 + k)) = true := by decide
    by_cases h : n < 10
    · rw [Lib.decDigits_one h] at hb
      rw [List.mem_singleton.1 hb]
      exact hd n h
    · rw [Lib.decDigits, dif_neg h] at hb
      rcases List.mem_append.1 hb with hb | hb
      · exact ih (n / 10) (by omega) b hb
      · rw [List.mem_singleton.1 hb]
        exact hd _ (Nat.mod_lt _ (by omega))
theorem dec_len (k : Nat) : ∀ n, n < 10 ^ k → (Lib.decDigits n).length ≤ k + 1 := by
  induction k with
  | zero =>
    intro n hn
    rw [Lib.decDigits_one (by omega)]
    simp
  | succ k ih =>
    intro n hn
    by_cases h : n < 10
    · rw [Lib.decDigits_one h]; simp
    · rw [Lib.decDigits, dif_neg h, List.length_append]
      have := ih (n / 10) (by rw [Nat.pow_succ] at hn; omega)
      simp
      omega
theorem labTo_all (l : List UInt8) (h : ∀ b ∈ l, chB b = true) (k : Nat) (hk : k ≤ l.length) : labTo (bstr l) k = true := by
  induction k with
  | zero => rfl
  | succ k ih =>
    rw [labTo_succ, ih (by omega)]
    have e : sAt (bstr l) k = l[k] := by
      unfold sAt ix bstr
      simp [List.getD_eq_getElem?_getD, List.getElem?_eq_getElem (show k < l.length by omega)]
    rw [e, h _ (List.getElem_mem _)]
    rfl
def TabW (w : World) : Prop := Lib.TabIs Tryz.prog w "internal/strconv.uint64pow10" .u64 Lib.pow10Tab
theorem pow_global : Tryz.prog.globalNamed "internal/strconv.uint64pow10" = some 1 := by kernel_rfl
theorem TabW.later {w0 w : World} {γ : List Nm} {hp : List Res} (h : TabW w0) (hS : Sat w0 No γ hp w) : TabW w := Go.Joins.tab_stays pow_global h (keeps_below hS.keeps) (Nat.le_refl _)
theorem itoaOK {w0 : World} {hp : List Res} (n : Nat) (hn : n ≤ 9223372036854775807) (ht : TabW w0) : CallOK Tryz.prog w0 No 43 [.x (.a (.v (.int .i64 n)))] hp (.x (.a (.v (.string (bstr (Lib.decDigits n)))))) hp := callOK_v fun γ w hS => by
  refine (Tryz.strconv_Itoa n (by omega) (by omega) w (ht.later hS)).mono ?_
  rintro e w' ⟨rfl, k, os, rfl⟩
  rw [Lib.itoa_nonneg]
  exact ⟨rfl, Lib.below_grow _ _ (Nat.le_refl _) k os⟩
end Go.Proofs.YteiifdpikcnbgaaGreatDoor
