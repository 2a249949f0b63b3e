/- The plain law of the sums: the document's blocks are the program's. No program in sight. -/
import Derived.Test.YtkchdhkpjnnliaaDoorRefP
namespace Go.Proofs.YtkchdhkpjnnliaaDoor
set_option linter.unusedSimpArgs false
theorem setLen_ix (blk : List UInt8) (v : UInt64) (n i : Nat) (hl : blk.length = 64) (hn : n ≤ 8) (hi : i < 64) : ix (setLen blk v n) i = if 64 - n ≤ i then shB v (63 - i) else ix blk i := by
  induction n with
  | zero => rw [if_neg (by omega)]; rfl
  | succ n ih =>
    show ix ((setLen blk v n).set (63 - n) (shB v n)) i = _
    rw [ix_set _ _ _ _ (by rw [setLen_length, hl]; omega)]
    by_cases h : 63 - n = i
    · rw [if_pos h, if_pos (by omega)]
      congr 1
      omega
    · rw [if_neg h, ih (by omega)]
      by_cases h2 : 64 - n ≤ i
      · rw [if_pos h2, if_pos (by omega)]
      · rw [if_neg h2, if_neg (by omega)]
theorem ofInt_bits (m : Nat) : UInt64.ofInt (m : Int) * 8 = UInt64.ofNat (8 * m) := by
  rw [← UInt64.toNat_inj, UInt64.toNat_mul]
  unfold UInt64.ofInt
  rw [UInt64.toNat_ofNat', UInt64.toNat_ofNat']
  show ((m : Int) % 2 ^ 64).toNat % 2 ^ 64 * 8 % 2 ^ 64 = 8 * m % 2 ^ 64
  omega
theorem hiByte (v : UInt64) (k : Nat) (hk : k < 4) : ((v / 4294967296).toUInt32 >>> UInt32.ofNat (24 - 8 * k)).toUInt8 = shB v (7 - k) := by
  have hv := v.toNat_lt
  unfold shB
  rw [← UInt8.toNat_inj]
  rcases k with _ | _ | _ | _ | k
  · simp [UInt32.toNat_shiftRight, UInt64.toNat_shiftRight, Nat.shiftRight_eq_div_pow]; omega
  · simp [UInt32.toNat_shiftRight, UInt64.toNat_shiftRight, Nat.shiftRight_eq_div_pow]; omega
  · simp [UInt32.toNat_shiftRight, UInt64.toNat_shiftRight, Nat.shiftRight_eq_div_pow]; omega
  · simp [UInt32.toNat_shiftRight, UInt64.toNat_shiftRight, Nat.shiftRight_eq_div_pow]
  · omega
theorem loByte (v : UInt64) (k : Nat) (hk : k < 4) : ((v % 4294967296).toUInt32 >>> UInt32.ofNat (24 - 8 * k)).toUInt8 = shB v (3 - k) := by
  have hv := v.toNat_lt
  unfold shB
  rw [← UInt8.toNat_inj]
  rcases k with _ | _ | _ | _ | k
  · simp [UInt32.toNat_shiftRight, UInt64.toNat_shiftRight, Nat.shiftRight_eq_div_pow]; omega
  · simp [UInt32.toNat_shiftRight, UInt64.toNat_shiftRight, Nat.shiftRight_eq_div_pow]; omega
  · simp [UInt32.toNat_shiftRight, UInt64.toNat_shiftRight, Nat.shiftRight_eq_div_pow]; omega
  · simp [UInt32.toNat_shiftRight, UInt64.toNat_shiftRight, Nat.shiftRight_eq_div_pow]
  · omega
theorem len8_ix (b : List UInt8) (k : Nat) (hk : k < 8) : ix (bytesTo (lenWords b.length) 2) k = shB (bitsOf b) (7 - k) := by
  rw [bytesTo_ix _ 2 k (by omega)]
  unfold bitsOf lenWords
  rw [ofInt_bits]
  by_cases h : k < 4
  · rw [show k / 4 = 0 from by omega, show k % 4 = k from by omega]
    exact (ix_byte4 _ k h).trans (hiByte _ k h)
  · rw [show k / 4 = 1 from by omega]
    refine (ix_byte4 _ (k % 4) (by omega)).trans ((loByte _ (k % 4) (by omega)).trans ?_)
    congr 1
    omega
theorem padded_ix (b : List UInt8) (i : Nat) (hi : i < 64 * nBlk b) : ix (padded b) i = if i < b.length then ix b i else if i = b.length then 128 else if i < b.length + 1 + padN b.length then 0 else shB (bitsOf b) (64 * nBlk b - 1 - i) := by
  have hl := padded_length b
  have h8 : (padded b).length = b.length + 1 + padN b.length + 8 := by simp [padded, padTo_length]
  unfold padded
  by_cases h1 : i < b.length
  · rw [if_pos h1, ix_left _ _ _ (by rw [padTo_length]; omega), padTo, List.append_assoc, ix_left _ _ _ h1]
  · rw [if_neg h1]
    by_cases h2 : i = b.length
    · rw [if_pos h2, ix_left _ _ _ (by rw [padTo_length]; omega), padTo, List.append_assoc, ix_right _ _ _ (by omega), h2, Nat.sub_self]
      rfl
    · rw [if_neg h2]
      by_cases h3 : i < b.length + 1 + padN b.length
      · rw [if_pos h3, ix_left _ _ _ (by rw [padTo_length]; omega), padTo, ix_right _ _ _ (by simp; omega)]
        simp [ix, List.getD_eq_getElem?_getD, List.getElem?_replicate]
        split <;> rfl
      · rw [if_neg h3, ix_right _ _ _ (by rw [padTo_length]; omega), padTo_length, len8_ix _ _ (by omega)]
        congr 1
        omega
theorem padBlk_ix (b : List UInt8) (j i : Nat) (hi : i < 64) : ix (padBlk b j) i = ix (padded b) (64 * j + i) := by
  unfold padBlk
  rw [ix_take _ _ _ hi]
  simp [ix, List.getD_eq_getElem?_getD, List.getElem?_drop]
theorem padBlk_length (b : List UInt8) (j : Nat) (hj : j < nBlk b) : (padBlk b j).length = 64 := by
  unfold padBlk
  rw [List.length_take, List.length_drop, padded_length]
  omega
theorem pad64_ix (r : List UInt8) (i : Nat) (hr : r.length < 64) (_hi : i < 64) : ix (pad64 r) i = if i < r.length then ix r i else if i = r.length then 128 else 0 := by
  unfold pad64
  rw [ix_set _ _ _ _ (by simp; omega)]
  by_cases h : r.length = i
  · rw [if_pos h, if_neg (by omega), if_pos h.symm]
  · rw [if_neg h]
    by_cases h2 : i < r.length
    · rw [if_pos h2, ix_left _ _ _ h2]
    · rw [if_neg h2, if_neg (fun e => h e.symm), ix_right _ _ _ (by omega)]
      simp [ix, List.getD_eq_getElem?_getD, List.getElem?_replicate]
      split <;> rfl
theorem zb_ix (n i : Nat) : ix (zb n) i = 0 := by
  simp [zb, ix, List.getD_eq_getElem?_getD, List.getElem?_replicate]
  split <;> rfl
theorem drop_ix (b : List UInt8) (k i : Nat) : ix (b.drop k) i = ix b (k + i) := by simp [ix, List.getD_eq_getElem?_getD, List.getElem?_drop]
theorem ix_of_get {l : List B64} {k : Nat} {x : B64} (h : l[k]? = some x) : ix l k = x := by simp [ix, List.getD_eq_getElem?_getD, h]
/-- The blocks are the same. -/
theorem blk_eq (b : List UInt8) : (chunks b).length = nBlk b ∧ ∀ j, j < nBlk b → (ix (chunks b) j).1 = padBlk b j := by
  have hpl := padded_length b
  have h8 : (padded b).length = b.length + 1 + padN b.length + 8 := by simp [padded, padTo_length]
  have hcl := chunks_length b
  have hrl : (b.drop (64 * (b.length / 64))).length = b.length % 64 := by rw [List.length_drop]; omega
  have hpn : padN b.length = (119 - b.length % 64) % 64 := rfl
  have ht := chunks_tail b (b.length / 64)
  by_cases h56 : 56 < b.length % 64 + 1
  · have htl := tails_big (b.drop (64 * (b.length / 64))) (bitsOf b) (by rw [hrl]; exact h56)
    rw [htl] at hcl
    have hn : nBlk b = b.length / 64 + 2 := by omega
    refine ⟨by rw [hcl, hn]; rfl, fun j hj => ?_⟩
    by_cases hf : 64 * j + 64 ≤ b.length
    · rw [ix_of_get (chunks_full b j hf), b64_val (by simp; omega)]
      refine list_ix (by rw [padBlk_length b j hj]; simp; omega) fun i hi => ?_
      have hi' : i < 64 := by simp at hi; omega
      rw [padBlk_ix b j i hi', padded_ix b _ (by omega), if_pos (by omega), ix_take _ _ _ hi', drop_ix]
    · have hj2 : j = b.length / 64 + (j - b.length / 64) := by omega
      rw [hj2]
      have hg := ht (j - b.length / 64) rfl
      rw [htl] at hg
      by_cases h0 : j - b.length / 64 = 0
      · rw [h0] at hg ⊢
        rw [ix_of_get hg, b64_val (pad64_length (by omega))]
        refine list_ix (by rw [padBlk_length b _ (by omega), pad64_length (by omega)]) fun i hi => ?_
        rw [pad64_length (by omega)] at hi
        rw [padBlk_ix b _ i hi, padded_ix b _ (by omega), pad64_ix _ _ (by omega) hi, hrl]
        by_cases h1 : i < b.length % 64
        · rw [if_pos h1, if_pos (by omega), drop_ix]; congr 1
        · rw [if_neg h1]
          by_cases h2 : i = b.length % 64
          · rw [if_pos h2, if_neg (by omega), if_pos (by omega)]
          · rw [if_neg h2, if_neg (by omega), if_neg (by omega), if_pos (by omega)]
      · have h1 : j - b.length / 64 = 1 := by omega
        rw [h1] at hg ⊢
        rw [ix_of_get hg, b64_val (by simp)]
        refine list_ix (by rw [padBlk_length b _ (by omega)]; simp) fun i hi => ?_
        have hi' : i < 64 := by simpa using hi
        rw [padBlk_ix b _ i hi', padded_ix b _ (by omega), setLen_ix _ _ 8 i (by simp) (Nat.le_refl _) hi']
        by_cases h3 : 64 - 8 ≤ i
        · rw [if_pos h3, if_neg (by omega), if_neg (by omega), if_neg (by omega)]
          congr 1
          omega
        · rw [if_neg h3, zb_ix, if_neg (by omega), if_neg (by omega), if_pos (by omega)]
  · have htl := tails_small (b.drop (64 * (b.length / 64))) (bitsOf b) (by rw [hrl]; exact h56)
    rw [htl] at hcl
    have hn : nBlk b = b.length / 64 + 1 := by omega
    refine ⟨by rw [hcl, hn]; rfl, fun j hj => ?_⟩
    by_cases hf : 64 * j + 64 ≤ b.length
    · rw [ix_of_get (chunks_full b j hf), b64_val (by simp; omega)]
      refine list_ix (by rw [padBlk_length b j hj]; simp; omega) fun i hi => ?_
      have hi' : i < 64 := by simp at hi; omega
      rw [padBlk_ix b j i hi', padded_ix b _ (by omega), if_pos (by omega), ix_take _ _ _ hi', drop_ix]
    · have hj2 : j = b.length / 64 := by omega
      subst hj2
      have hg := ht 0 rfl
      rw [htl, Nat.add_zero] at hg
      have hp := pad64_length (r := b.drop (64 * (b.length / 64))) (by omega)
      rw [ix_of_get hg, b64_val (by rw [setLen_length, hp])]
      refine list_ix (by rw [padBlk_length b _ (by omega), setLen_length, hp]) fun i hi => ?_
      rw [setLen_length, hp] at hi
      rw [padBlk_ix b _ i hi, padded_ix b _ (by omega), setLen_ix _ _ 8 i hp (Nat.le_refl _) hi, pad64_ix _ _ (by omega) hi, hrl]
      by_cases h3 : 64 - 8 ≤ i
      · rw [if_pos h3, if_neg (by omega), if_neg (by omega), if_neg (by omega)]
        congr 1
        omega
      · rw [if_neg h3]
        by_cases h1 : i < b.length % 64
        · rw [if_pos h1, if_pos (by omega), drop_ix]
        · rw [if_neg h1]
          by_cases h2 : i = b.length % 64
          · rw [if_pos h2, if_neg (by omega), if_pos (by omega)]
          · rw [if_neg h2, if_neg (by omega), if_neg (by omega), if_pos (by omega)]
theorem refState_eq (b : List UInt8) (j : Nat) (hj : j ≤ nBlk b) : refState b j = stateTo (chunks b) j := by
  induction j with
  | zero => rfl
  | succ j ih => rw [refState_succ, stateTo_succ, ih (by omega), (blk_eq b).2 j (by omega)]
/-- The document's sum is the program's. -/
theorem ref_sha (b : List UInt8) : outTo (refState b (nBlk b)) 32 = shaOf b := by
  rw [shaOf_eq, (blk_eq b).1, refState_eq b _ (Nat.le_refl _)]
end Go.Proofs.YtkchdhkpjnnliaaDoor
