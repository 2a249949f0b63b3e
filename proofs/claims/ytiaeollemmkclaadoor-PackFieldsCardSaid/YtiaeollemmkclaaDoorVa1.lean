import Derived.Test.YtiaeollemmkclaaDoorVa0
/- Digits of a number, as they are shifted out and in. No program in sight. -/
namespace Go.Proofs.YtiaeollemmkclaaDoor
theorem dgV_get : ∀ (k v j : Nat), j < k → ix (dgV k v) j = UInt8.ofNat (v / 256 ^ (k - 1 - j) % 256)
  | 0, _, _, h => absurd h (Nat.not_lt_zero _)
  | k + 1, v, j, h => by
    have hl := dgV_length k (v / 256)
    rw [dgV]
    unfold ix
    by_cases hj : j < k
    · have ih := dgV_get k (v / 256) j hj
      unfold ix at ih
      rw [List.getD_eq_getElem?_getD, List.getElem?_append_left (by omega), ← List.getD_eq_getElem?_getD, ih, Nat.div_div_eq_div_mul, show k + 1 - 1 - j = (k - 1 - j) + 1 by omega, Nat.pow_succ, Nat.mul_comm 256]
    · obtain rfl : j = k := by omega
      rw [List.getD_eq_getElem?_getD, List.getElem?_append_right (by omega), hl]
      simp
theorem shr_byte (v : UInt64) (i : Nat) (h : i < 8) : (shr64 v (8 * i)).toUInt8 = UInt8.ofNat (v.toNat / 256 ^ i % 256) := by
  have h8 : 8 * i < 64 := by omega
  unfold shr64
  rw [if_pos h8]
  apply UInt8.toNat_inj.1
  have e : (UInt64.ofNat (8 * i)).toNat = 8 * i := by rw [UInt64.toNat_ofNat']; exact Nat.mod_eq_of_lt (Nat.lt_trans h8 (by decide))
  rw [UInt64.toNat_toUInt8, UInt64.toNat_shiftRight, e, UInt8.toNat_ofNat', Nat.shiftRight_eq_div_pow, Nat.mod_eq_of_lt h8, show (256 : Nat) = 2 ^ 8 from rfl, ← Nat.pow_mul, Nat.mod_mod]
theorem len_nb (v : UInt64) (h : 1 ≤ v.toNat) : (Nat.log2 v.toNat + 1 + 7) / 8 = nb8 v := by
  have hb := nb8_le v
  obtain ⟨h1, h2⟩ := nb8_lo v h
  rw [show (256 : Nat) = 2 ^ 8 from rfl, ← Nat.pow_mul] at h1 h2
  have h3 : 8 * (nb8 v - 1) ≤ Nat.log2 v.toNat := (Nat.le_log2 (by omega)).2 h1
  have h4 : Nat.log2 v.toNat < 8 * nb8 v := (Nat.log2_lt (by omega)).2 h2
  omega
theorem shl_or (v : UInt64) (x : UInt8) (h : v.toNat < 2 ^ 56) : (shl64 v 8 ||| x.toUInt64) = UInt64.ofNat (256 * v.toNat + x.toNat) := by
  have hx := x.toNat_lt
  unfold shl64
  rw [if_pos (by decide)]
  apply UInt64.toNat_inj.1
  have e : (UInt64.ofNat 8).toNat = 8 := rfl
  rw [UInt64.toNat_or, UInt64.toNat_shiftLeft, e, UInt8.toNat_toUInt64, UInt64.toNat_ofNat', Nat.mod_eq_of_lt (by decide : 8 < 64), Nat.shiftLeft_eq, Nat.mod_eq_of_lt (by omega), Nat.mod_eq_of_lt (by omega), Nat.mul_comm, show (256 : Nat) = 2 ^ 8 from rfl]
  exact (Nat.two_pow_add_eq_or_of_lt (by omega) _).symm
end Go.Proofs.YtiaeollemmkclaaDoor
