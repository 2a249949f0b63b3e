/- The document's sums (caucusref05): plain functions beside the code, and the walks of add, rotr, words, bytes, Padded. -/
import Derived.Test.YtkchdhkpjnnliaaDoorSha0
import Derived.Test.YtkchdhkpjnnliaaDoorOwn
import Derived.Test.YtkchdhkpjnnliaaDoorProg
namespace Go.Proofs.YtkchdhkpjnnliaaDoor
open Go.RowKit

/-! ### A word turned right, by division -/
theorem rr_nat (x : UInt32) (n : Nat) (h1 : 1 ≤ n) (h2 : n ≤ 31) : (rr x n).toNat = x.toNat / 2 ^ n + x.toNat % 2 ^ n * 2 ^ (32 - n) := by
  have hx := w32_lt x
  have e1 : (UInt32.ofNat (32 - n)).toNat % 32 = 32 - n := by simp; omega
  have e2 : (UInt32.ofNat n).toNat % 32 = n := by simp; omega
  have hp : 2 ^ n * 2 ^ (32 - n) = 4294967296 := by rw [← Nat.pow_add, show n + (32 - n) = 32 from by omega]
  have hm : x.toNat * 2 ^ (32 - n) % 4294967296 = x.toNat % 2 ^ n * 2 ^ (32 - n) := by rw [← hp, Nat.mul_mod_mul_right]
  unfold rr
  rw [UInt32.toNat_or, UInt32.toNat_shiftLeft, UInt32.toNat_shiftRight, e1, e2, Nat.shiftLeft_eq, Nat.shiftRight_eq_div_pow, show (2 : Nat) ^ 32 = 4294967296 from rfl, hm]
  rw [nat_join (32 - n) _ _ (Nat.mul_mod_left _ _) (by rw [Nat.div_lt_iff_lt_mul (Nat.pow_pos (by omega)), Nat.mul_comm, hp]; exact hx), Nat.add_comm]
theorem half_two (n : Nat) (h1 : 1 ≤ n) (h2 : n ≤ 31) : 2147483648 / 2 ^ n * 2 = 2 ^ (32 - n) := by
  have : (2147483648 : Nat) = 2 ^ (31 - n) * 2 ^ n := by rw [← Nat.pow_add, show 31 - n + n = 31 from by omega]
  rw [this, Nat.mul_div_cancel _ (Nat.pow_pos (by omega)), ← Nat.pow_succ, show (31 - n).succ = 32 - n from by omega]

set_option maxHeartbeats 400000 in
theorem refRotr_any (x : UInt32) (n : Int) (h1 : 1 ≤ n) (h2 : n ≤ 31) (w : World) :
    Calls Tryd.prog 63 #[vU32 x, .int .i64 n] w fun e w' => e = .returned (vU32 (rr x n.toNat)) ∧ Drawn w w' := by
  obtain ⟨m, rfl⟩ := Int.eq_ofNat_of_zero_le (show 0 ≤ n by omega)
  have g1 : 1 ≤ m := by omega
  have g2 : m ≤ 31 := by omega
  have hb := n32_bd x
  obtain ⟨b0, b1⟩ := hb
  go_enter Tryd.func63, Tryd.ntmps63
  go_wp2
  go_loop [5, 6] (fun p c => ∃ i : Nat, i ≤ m ∧ c = .int .i64 i ∧ p = .int .u32 ((2 ^ i : Nat) : Int)) (fun _ c => m - (intOf c).toNat)
  case atStart => exact ⟨0, by omega, rfl, rfl⟩
  case round =>
    obtain ⟨i, hi, rfl, rfl⟩ := hrel
    by_cases hlt : i < m
    · have hp : 2 ^ i ≤ 2 ^ 30 := Nat.pow_le_pow_right (by omega) (by omega)
      have hs : Hid (2 ^ (i + 1) = 2 * 2 ^ i) := Lib.hid (by rw [Nat.pow_succ, Nat.mul_comm])
      generalize 2 ^ i = p at hp hs ⊢
      have hp' : p ≤ 1073741824 := hp
      clear hp
      go_wp2
      go_round
      case rel => exact ⟨i + 1, by omega, by go_num, by rw [hs.out]; go_num⟩
      case measure => simp [intOf]; omega
    · obtain rfl : i = m := by omega
      have hv := rr_nat x i g1 g2
      have hh := half_two i g1 g2
      have hp2 : 2 ≤ 2 ^ i := by have := Nat.pow_le_pow_right (n := 2) (by omega) g1; omega
      have hq : 2 ^ i * 2 ^ (32 - i) = 4294967296 := by rw [← Nat.pow_add, show i + (32 - i) = 32 from by omega]
      have hxl := w32_lt x
      have hmod : x.toNat % 2 ^ i < 2 ^ i := Nat.mod_lt _ (by omega)
      have hdl : 2147483648 / 2 ^ i ≤ 1073741824 := by rw [Nat.div_le_iff_le_mul_add_pred (by omega)]; omega
      have hrl := w32_lt (rr x i)
      have HV : Hid (n32 (rr x i) = n32 x / ((2 ^ i : Nat) : Int) + n32 x % ((2 ^ i : Nat) : Int) * (2147483648 / ((2 ^ i : Nat) : Int) * 2)) := Lib.hid (by
        unfold n32
        rw [hv, ← hh]
        simp)
      generalize 2 ^ i = p at hp2 HV hdl ⊢
      have h34 : (2147483648 : Int) / (p : Int) ≤ 1073741824 ∧ (0 : Int) ≤ 2147483648 / (p : Int) := by
        have e : ((2147483648 / p : Nat) : Int) = 2147483648 / (p : Int) := by simp
        exact ⟨by rw [← e]; exact Int.ofNat_le.2 hdl, Int.ediv_nonneg (by omega) (by omega)⟩
      obtain ⟨h3, h4⟩ := h34
      have h5 : Hid (n32 x / (p : Int) + n32 x % (p : Int) * (2147483648 / (p : Int) * 2) ≤ 4294967295) := Lib.hid (by rw [← HV.out]; exact (n32_bd _).2)
      have h6 : Hid (0 ≤ n32 x / (p : Int)) := Lib.hid (Int.ediv_nonneg b0 (by omega))
      have h7 : Hid (0 ≤ n32 x % (p : Int) * (2147483648 / (p : Int) * 2)) := Lib.hid (Int.mul_nonneg (Int.emod_nonneg _ (by omega)) (by omega))
      have hw1 : IntKind.u32.wrap (n32 x % (p : Int) * (2147483648 / (p : Int) * 2)) = n32 x % (p : Int) * (2147483648 / (p : Int) * 2) := IntWalk.u32_in _ (by have := h5.out; have := h6.out; have := h7.out; omega)
      have hw2 : IntKind.u32.wrap (n32 x / (p : Int) + n32 x % (p : Int) * (2147483648 / (p : Int) * 2)) = n32 x / (p : Int) + n32 x % (p : Int) * (2147483648 / (p : Int) * 2) := IntWalk.u32_in _ (by have := h5.out; have := h6.out; have := h7.out; omega)
      have hne : ((p : Int) == 0) = false := by simp; omega
      clear hv hh hq hmod hxl hrl
      go_wp2_with fail
      go_quiet (fail)
      go_wp2
      go_ret
      exact ⟨congrArg (fun z => Ending.returned (.int .u32 z)) HV.out.symm, ⟨_, rfl⟩⟩

/-! ### A sum of words -/
def sumI (l : List UInt32) : Nat → Int
  | 0 => 0
  | i + 1 => sumI l i + n32 (ix l i)
def sumW (l : List UInt32) : Nat → UInt32
  | 0 => 0
  | i + 1 => sumW l i + ix l i
theorem sumI_bd (l : List UInt32) (i : Nat) : 0 ≤ sumI l i ∧ sumI l i ≤ i * 4294967295 := by
  induction i with
  | zero => simp [sumI]
  | succ i ih =>
    have := n32_bd (ix l i)
    simp only [sumI]
    omega
theorem sumI_mod (l : List UInt32) (i : Nat) : sumI l i % 4294967296 = n32 (sumW l i) := by
  induction i with
  | zero => rfl
  | succ i ih =>
    have h := w32_add (sumW l i) (ix l i)
    rw [IntKind.wrap_u32'] at h
    show (sumI l i + n32 (ix l i)) % 4294967296 = n32 (sumW l i + ix l i)
    omega
theorem add_any (l : List UInt32) (A : Option Addr) (c B : Nat) (w : World) (hl : l.length ≤ 1000) (hR : RdV w B A (l.map vU32)) :
    Calls Tryd.prog 62 #[.slice A l.length c] w fun e w' => e = .returned (vU32 (sumW l l.length)) ∧ w = w' := by
  go_enter Tryd.func62, Tryd.ntmps62
  have HR := Lib.hid hR
  clear hR
  go_wp2
  go_loop [3, 4] (fun n i => ∃ k : Nat, k ≤ l.length ∧ i = .int .i64 k ∧ n = .int .u64 (sumI l k)) (fun _ i => l.length - (intOf i).toNat)
  case atStart => exact ⟨0, by omega, rfl, rfl⟩
  case round =>
    obtain ⟨k, hk, rfl, rfl⟩ := hrel
    obtain ⟨s0, s1⟩ := sumI_bd l k
    by_cases hlt : k < l.length
    · obtain ⟨b, off, hA, _, hc⟩ := HR.out (by simpa using (by omega : 0 < l.length))
      subst hA
      have hck := hc k _ (by rw [List.getElem?_map, List.getElem?_eq_getElem hlt]; rfl)
      have hix : l[k] = ix l k := by simp [ix, List.getD_eq_getElem?_getD, List.getElem?_eq_getElem hlt]
      rw [hix] at hck
      have hS : Hid (sumI l (k + 1) = sumI l k + n32 (ix l k)) := Lib.hid rfl
      obtain ⟨n0, n1⟩ := n32_bd (ix l k)
      have s2 : sumI l k ≤ 4294967295000 := by omega
      generalize sumI l k = sk at s0 s1 s2 hS ⊢
      clear hc hix s1
      go_wp2
      go_round
      case rel => exact ⟨k + 1, by omega, by go_num, by rw [hS.out]⟩
      case measure => simp [intOf]; omega
    · obtain rfl : k = l.length := by omega
      have hm := Lib.hid (sumI_mod l l.length)
      have s2 : sumI l l.length ≤ 4294967295000 := by omega
      generalize sumI l l.length = sk at s0 s1 s2 hm ⊢
      clear s1
      go_wp2
      go_ret
      exact ⟨congrArg (fun z => Ending.returned (.int .u32 z)) hm.out, rfl⟩

/-! ### Bytes as words, words as bytes -/
section
variable (x : UInt32)
theorem n32_lit (k : Nat) (hk : k < 4294967296) : n32 (UInt32.ofNat k) = (k : Int) := by
  unfold n32; rw [UInt32.toNat_ofNat']; omega
theorem w32_mulK (k : Nat) (hk : k < 4294967296) : IntKind.u32.wrap ((k : Int) * n32 x) = n32 (UInt32.ofNat k * x) := by
  rw [← w32_mul, n32_lit k hk]
theorem w32_divK (k : Nat) (hk : k < 4294967296) : n32 x / (k : Int) = n32 (x / UInt32.ofNat k) := by
  unfold n32; rw [UInt32.toNat_div, UInt32.toNat_ofNat']
  rw [show k % 2 ^ 32 = k from Nat.mod_eq_of_lt hk]; rfl
theorem w32_modK (k : Nat) (hk : k < 4294967296) : n32 x % (k : Int) = n32 (x % UInt32.ofNat k) := by
  unfold n32; rw [UInt32.toNat_mod, UInt32.toNat_ofNat']
  rw [show k % 2 ^ 32 = k from Nat.mod_eq_of_lt hk]; rfl
theorem w32_mul24 : IntKind.u32.wrap ((16777216 : Int) * n32 x) = n32 (16777216 * x) := w32_mulK x 16777216 (by omega)
theorem w32_mul16 : IntKind.u32.wrap ((65536 : Int) * n32 x) = n32 (65536 * x) := w32_mulK x 65536 (by omega)
theorem w32_mul8 : IntKind.u32.wrap ((256 : Int) * n32 x) = n32 (256 * x) := w32_mulK x 256 (by omega)
theorem w32_div24 : n32 x / (16777216 : Int) = n32 (x / 16777216) := w32_divK x 16777216 (by omega)
theorem w32_div16 : n32 x / (65536 : Int) = n32 (x / 65536) := w32_divK x 65536 (by omega)
theorem w32_div8 : n32 x / (256 : Int) = n32 (x / 256) := w32_divK x 256 (by omega)
theorem w32_mod8 : n32 x % (256 : Int) = n32 (x % 256) := w32_modK x 256 (by omega)
end
def be4 (b : List UInt8) (i : Nat) : UInt32 := 16777216 * (ix b i).toUInt32 + 65536 * (ix b (i + 1)).toUInt32 + 256 * (ix b (i + 2)).toUInt32 + (ix b (i + 3)).toUInt32
theorem be4_eq (b : List UInt8) (i : Nat) : be4 b i = 16777216 * (ix b i).toUInt32 + 65536 * (ix b (i + 1)).toUInt32 + 256 * (ix b (i + 2)).toUInt32 + (ix b (i + 3)).toUInt32 := rfl
def wordsTo (b : List UInt8) : Nat → List UInt32
  | 0 => []
  | k + 1 => wordsTo b k ++ [be4 b (4 * k)]
theorem wordsTo_succ (b : List UInt8) (k : Nat) : wordsTo b (k + 1) = wordsTo b k ++ [be4 b (4 * k)] := rfl
theorem wordsTo_zero (b : List UInt8) : wordsTo b 0 = [] := rfl
@[simp] theorem wordsTo_length (b : List UInt8) (k : Nat) : (wordsTo b k).length = k := by
  induction k with
  | zero => rfl
  | succ k ih => simp [wordsTo, ih]
def byte4 (x : UInt32) : List UInt8 := [(x / 16777216).toUInt8, (x / 65536 % 256).toUInt8, (x / 256 % 256).toUInt8, (x % 256).toUInt8]
theorem byte4_eq (x : UInt32) : byte4 x = [(x / 16777216).toUInt8, (x / 65536 % 256).toUInt8, (x / 256 % 256).toUInt8, (x % 256).toUInt8] := rfl
def bytesTo (l : List UInt32) : Nat → List UInt8
  | 0 => []
  | k + 1 => bytesTo l k ++ byte4 (ix l k)
theorem bytesTo_succ (l : List UInt32) (k : Nat) : bytesTo l (k + 1) = bytesTo l k ++ byte4 (ix l k) := rfl
theorem bytesTo_zero (l : List UInt32) : bytesTo l 0 = [] := rfl
@[simp] theorem bytesTo_length (l : List UInt32) (k : Nat) : (bytesTo l k).length = 4 * k := by
  induction k with
  | zero => rfl
  | succ k ih => simp [bytesTo, byte4, ih]; omega
end Go.Proofs.YtkchdhkpjnnliaaDoor
