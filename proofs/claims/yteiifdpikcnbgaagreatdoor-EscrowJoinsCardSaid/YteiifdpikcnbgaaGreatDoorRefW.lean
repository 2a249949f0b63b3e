/- RefW: Ref5a, RefP, RefC, joined. -/
import Derived.Test.YteiifdpikcnbgaaGreatDoorSha0
import Derived.Test.YteiifdpikcnbgaaGreatDoorBase
import Derived.Test.YteiifdpikcnbgaaGreatDoorProg
/- The document's sums (caucusref05): plain functions beside the code, and the walks of add, rotr, words, bytes, Padded. -/
namespace Go.Proofs.YteiifdpikcnbgaaGreatDoor
open Go.RowKit

/-! ### A word turned right, by division -/
theorem rr_nat (x : UInt32) (n : Nat) (h1 : 1 ≤ n) (h2 : n ≤ 31) : (rr x n).toNat = x.toNat / 2 ^ n + x.toNat % 2 ^ n * 2 ^ (32 - n) := by
  have hx := w32_lt x
  have e1 : (UInt32.ofNat (32 - n)).toNat % 32 = 32 - n := by simp; omega
  have e2 : (UInt32.ofNat n).toNat % 32 = n := by simp; omega
  have hp : 2 ^ n * 2 ^ (32 - n) = 4294967296 := by rw [← Nat.pow_add, show n + (32 - n) = 32 from by omega]
  have hm : x.toNat * 2 ^ (32 - n) % 4294967296 = x.toNat % 2 ^ n * 2 ^ (32 - n) := by rw [← hp, Nat.mul_mod_mul_right]
  unfold rr
  rw [UInt32.toNat_or, UInt32.toNat_shiftLeft, UInt32.toNat_shiftRight, e1, e2, Nat.shiftLeft_eq, Nat.shiftRight_eq_div_pow, show (2 : Nat) ^ 32 = 4294967296 from rfl, hm]
  rw [nat_join (32 - n) _ _ (Nat.mul_mod_left _ _) (by rw [Nat.div_lt_iff_lt_mul (Nat.pow_pos (by omega)), Nat.mul_comm, hp]; exact hx), Nat.add_comm]
theorem half_two (n : Nat) (h1 : 1 ≤ n) (h2 : n ≤ 31) : 2147483648 / 2 ^ n * 2 = 2 ^ (32 - n) := by
  have : (2147483648 : Nat) = 2 ^ (31 - n) * 2 ^ n := by rw [← Nat.pow_add, show 31 - n + n = 31 from by omega]
  rw [this, Nat.mul_div_cancel _ (Nat.pow_pos (by omega)), ← Nat.pow_succ, show (31 - n).succ = 32 - n from by omega]

/-! ### A sum of words -/
def sumI (l : List UInt32) : Nat → Int
  | 0 => 0
  | i + 1 => sumI l i + n32 (ix l i)
def sumW (l : List UInt32) : Nat → UInt32
  | 0 => 0
  | i + 1 => sumW l i + ix l i
theorem sumI_bd (l : List UInt32) (i : Nat) : 0 ≤ sumI l i ∧ sumI l i ≤ i * 4294967295 := by
  induction i with
  | zero => simp [sumI]
  | succ i ih =>
    have := n32_bd (ix l i)
    simp only [sumI]
    omega
theorem sumI_mod (l : List UInt32) (i : Nat) : sumI l i % 4294967296 = n32 (sumW l i) := by
  induction i with
  | zero => rfl
  | succ i ih =>
    have h := w32_add (sumW l i) (ix l i)
    rw [IntKind.wrap_u32'] at h
    show (sumI l i + n32 (ix l i)) % 4294967296 = n32 (sumW l i + ix l i)
    omega
/-! ### Bytes as words, words as bytes -/
section
variable (x : UInt32)
theorem n32_lit (k : Nat) (hk : k < 4294967296) : n32 (UInt32.ofNat k) = (k : Int) := by
  unfold n32; rw [UInt32.toNat_ofNat']; omega
theorem w32_mulK (k : Nat) (hk : k < 4294967296) : IntKind.u32.wrap ((k : Int) * n32 x) = n32 (UInt32.ofNat k * x) := by
  rw [← w32_mul, n32_lit k hk]
theorem w32_divK (k : Nat) (hk : k < 4294967296) : n32 x / (k : Int) = n32 (x / UInt32.ofNat k) := by
  unfold n32; rw [UInt32.toNat_div, UInt32.toNat_ofNat']
  rw [show k % 2 ^ 32 = k from Nat.mod_eq_of_lt hk]; rfl
theorem w32_modK (k : Nat) (hk : k < 4294967296) : n32 x % (k : Int) = n32 (x % UInt32.ofNat k) := by
  unfold n32; rw [UInt32.toNat_mod, UInt32.toNat_ofNat']
  rw [show k % 2 ^ 32 = k from Nat.mod_eq_of_lt hk]; rfl
theorem w32_mul24 : IntKind.u32.wrap ((16777216 : Int) * n32 x) = n32 (16777216 * x) := w32_mulK x 16777216 (by omega)
theorem w32_mul16 : IntKind.u32.wrap ((65536 : Int) * n32 x) = n32 (65536 * x) := w32_mulK x 65536 (by omega)
theorem w32_mul8 : IntKind.u32.wrap ((256 : Int) * n32 x) = n32 (256 * x) := w32_mulK x 256 (by omega)
theorem w32_div24 : n32 x / (16777216 : Int) = n32 (x / 16777216) := w32_divK x 16777216 (by omega)
theorem w32_div16 : n32 x / (65536 : Int) = n32 (x / 65536) := w32_divK x 65536 (by omega)
theorem w32_div8 : n32 x / (256 : Int) = n32 (x / 256) := w32_divK x 256 (by omega)
theorem w32_mod8 : n32 x % (256 : Int) = n32 (x % 256) := w32_modK x 256 (by omega)
end
def be4 (b : List UInt8) (i : Nat) : UInt32 := 16777216 * (ix b i).toUInt32 + 65536 * (ix b (i + 1)).toUInt32 + 256 * (ix b (i + 2)).toUInt32 + (ix b (i + 3)).toUInt32
theorem be4_eq (b : List UInt8) (i : Nat) : be4 b i = 16777216 * (ix b i).toUInt32 + 65536 * (ix b (i + 1)).toUInt32 + 256 * (ix b (i + 2)).toUInt32 + (ix b (i + 3)).toUInt32 := rfl
def wordsTo (b : List UInt8) : Nat → List UInt32
  | 0 => []
  | k + 1 => wordsTo b k ++ [be4 b (4 * k)]
theorem wordsTo_succ (b : List UInt8) (k : Nat) : wordsTo b (k + 1) = wordsTo b k ++ [be4 b (4 * k)] := rfl
theorem wordsTo_zero (b : List UInt8) : wordsTo b 0 = [] := rfl
@[simp] theorem wordsTo_length (b : List UInt8) (k : Nat) : (wordsTo b k).length = k := by
  induction k with
  | zero => rfl
  | succ k ih => simp [wordsTo, ih]
def byte4 (x : UInt32) : List UInt8 := [(x / 16777216).toUInt8, (x / 65536 % 256).toUInt8, (x / 256 % 256).toUInt8, (x % 256).toUInt8]
theorem byte4_eq (x : UInt32) : byte4 x = [(x / 16777216).toUInt8, (x / 65536 % 256).toUInt8, (x / 256 % 256).toUInt8, (x % 256).toUInt8] := rfl
def bytesTo (l : List UInt32) : Nat → List UInt8
  | 0 => []
  | k + 1 => bytesTo l k ++ byte4 (ix l k)
theorem bytesTo_succ (l : List UInt32) (k : Nat) : bytesTo l (k + 1) = bytesTo l k ++ byte4 (ix l k) := rfl
theorem bytesTo_zero (l : List UInt32) : bytesTo l 0 = [] := rfl
@[simp] theorem bytesTo_length (l : List UInt32) (k : Nat) : (bytesTo l k).length = 4 * k := by
  induction k with
  | zero => rfl
  | succ k ih => simp [bytesTo, byte4, ih]; omega
end Go.Proofs.YteiifdpikcnbgaaGreatDoor
/- The plain law of the sums: the document's words, bytes and blocks are the program's. No program in sight. -/
namespace Go.Proofs.YteiifdpikcnbgaaGreatDoor
/-! ### Words -/
theorem shl8_byte (x : UInt32) (c : UInt8) : (x <<< 8) ||| c.toUInt32 = 256 * x + c.toUInt32 := by
  rw [← UInt32.toNat_inj, UInt32.toNat_or, UInt32.toNat_shiftLeft, UInt32.toNat_add, UInt32.toNat_mul, UInt8.toNat_toUInt32]
  have hc := c.toNat_lt
  have hx := x.toNat_lt
  show (x.toNat <<< 8 % 4294967296 ||| c.toNat) = (256 * x.toNat % 4294967296 + c.toNat) % 4294967296
  have e : x.toNat <<< 8 % 4294967296 = (x.toNat % 16777216) <<< 8 := by rw [Nat.shiftLeft_eq, Nat.shiftLeft_eq]; omega
  rw [e, ← Nat.shiftLeft_add_eq_or_of_lt (show c.toNat < 2 ^ 8 by omega), Nat.shiftLeft_eq]
  omega
/-- m bytes of the j-th word. -/
def w4 (B : List UInt8) (j : Nat) : Nat → UInt32
  | 0 => 0
  | m + 1 => (w4 B j m <<< 8) ||| (ix B (4 * j + m)).toUInt32
theorem ix_set {α : Type} [Inhabited α] (l : List α) (i j : Nat) (x : α) (hi : i < l.length) : ix (l.set i x) j = if i = j then x else ix l j := by
  unfold ix
  rw [List.getD_eq_getElem?_getD, List.getD_eq_getElem?_getD, List.getElem?_set]
  split
  · simp
  · rfl
theorem ix_replicate (n j : Nat) : ix (List.replicate n (0 : UInt32)) j = 0 := by
  unfold ix
  rw [List.getD_eq_getElem?_getD, List.getElem?_replicate]
  split <;> rfl
theorem ix_take {α : Type} [Inhabited α] (l : List α) (n i : Nat) (h : i < n) : ix (l.take n) i = ix l i := by simp [ix, List.getD_eq_getElem?_getD, h]
theorem ix_left {α : Type} [Inhabited α] (a b : List α) (i : Nat) (h : i < a.length) : ix (a ++ b) i = ix a i := by simp [ix, List.getD_eq_getElem?_getD, List.getElem?_append_left h]
theorem ix_right {α : Type} [Inhabited α] (a b : List α) (i : Nat) (h : a.length ≤ i) : ix (a ++ b) i = ix b (i - a.length) := by simp [ix, List.getD_eq_getElem?_getD, List.getElem?_append_right h]
theorem to1_ix (B : List UInt8) (j : Nat) (hj : j < 16) (i : Nat) (hi : i ≤ 64) : ix (to1 B i) j = w4 B j (min (i - 4 * j) 4) := by
  induction i with
  | zero =>
    simp only [to1, Nat.zero_sub, Nat.zero_min, w4]
    exact ix_replicate 64 j
  | succ i ih =>
    have ih := ih (by omega)
    show ix ((to1 B i).set (i / 4) ((ix (to1 B i) (i / 4) <<< 8) ||| (ix B i).toUInt32)) j = _
    rw [ix_set _ _ _ _ (by rw [to1_length]; omega)]
    split
    · rename_i h
      subst h
      rw [ih, show min (i + 1 - 4 * (i / 4)) 4 = min (i - 4 * (i / 4)) 4 + 1 from by omega]
      show _ = (w4 B (i / 4) (min (i - 4 * (i / 4)) 4) <<< 8) ||| (ix B (4 * (i / 4) + min (i - 4 * (i / 4)) 4)).toUInt32
      rw [show 4 * (i / 4) + min (i - 4 * (i / 4)) 4 = i from by omega]
    · rename_i h
      rw [ih]
      congr 1
      omega
theorem w4_be4 (B : List UInt8) (j : Nat) : w4 B j 4 = be4 B (4 * j) := by
  simp only [w4, shl8_byte, be4]
  rw [← UInt32.toNat_inj]
  simp only [UInt32.toNat_add, UInt32.toNat_mul, UInt8.toNat_toUInt32]
  have h0 := (ix B (4 * j)).toNat_lt
  have h1 := (ix B (4 * j + 1)).toNat_lt
  have h2 := (ix B (4 * j + 2)).toNat_lt
  have h3 := (ix B (4 * j + 3)).toNat_lt
  generalize (ix B (4 * j)).toNat = a at *
  generalize (ix B (4 * j + 1)).toNat = b at *
  generalize (ix B (4 * j + 2)).toNat = c at *
  generalize (ix B (4 * j + 3)).toNat = d at *
  show (256 * ((256 * ((256 * ((256 * 0 % 4294967296 + a) % 4294967296) % 4294967296 + b) % 4294967296) % 4294967296 + c) % 4294967296) % 4294967296 + d) % 4294967296 = (((16777216 * a % 4294967296 + 65536 * b % 4294967296) % 4294967296 + 256 * c % 4294967296) % 4294967296 + d) % 4294967296
  omega
theorem list_ix {α : Type} [Inhabited α] {a b : List α} (hl : a.length = b.length) (h : ∀ i, i < a.length → ix a i = ix b i) : a = b := by
  apply List.ext_getElem hl
  intro i h1 h2
  have := h i h1
  simpa [ix, List.getD_eq_getElem?_getD, List.getElem?_eq_getElem h1, List.getElem?_eq_getElem h2] using this
theorem wordsTo_ix (B : List UInt8) (q i : Nat) (hi : i < q) : ix (wordsTo B q) i = be4 B (4 * i) := by
  induction q with
  | zero => omega
  | succ q ih =>
    rw [wordsTo_succ]
    by_cases h : i < q
    · rw [← ih h, ix_left _ _ _ (by rw [wordsTo_length]; exact h)]
    · have : i = q := by omega
      subst this
      simp [ix, List.getD_eq_getElem?_getD]
theorem words_take (B : List UInt8) : wordsTo B 16 = List.take 16 (to2 B 0) := by
  refine list_ix (by simp [to2]) fun i hi => ?_
  rw [wordsTo_length] at hi
  rw [wordsTo_ix B 16 i hi]
  show _ = ix (List.take 16 (to1 B 64)) i
  rw [ix_take _ _ _ hi, to1_ix B i hi 64 (Nat.le_refl _), show min (64 - 4 * i) 4 = 4 from by omega, w4_be4]
/-! ### Bytes -/
theorem q0 (x : UInt32) : (x / 16777216).toUInt8 = (x >>> 24).toUInt8 := by
  rw [← UInt8.toNat_inj]; simp [UInt32.toNat_shiftRight, Nat.shiftRight_eq_div_pow]
theorem q1 (x : UInt32) : (x / 65536 % 256).toUInt8 = (x >>> 16).toUInt8 := by
  rw [← UInt8.toNat_inj]; simp [UInt32.toNat_shiftRight, Nat.shiftRight_eq_div_pow]
theorem q2 (x : UInt32) : (x / 256 % 256).toUInt8 = (x >>> 8).toUInt8 := by
  rw [← UInt8.toNat_inj]; simp [UInt32.toNat_shiftRight, Nat.shiftRight_eq_div_pow]
theorem q3 (x : UInt32) : (x % 256).toUInt8 = (x >>> 0).toUInt8 := by
  rw [← UInt8.toNat_inj]; simp
theorem byte4_shr (x : UInt32) : byte4 x = [(x >>> 24).toUInt8, (x >>> 16).toUInt8, (x >>> 8).toUInt8, (x >>> 0).toUInt8] := by
  rw [byte4_eq, q0, q1, q2, q3]
theorem outTo_ix (s : St) (n i : Nat) (hn : n ≤ 32) (hi : i < n) : ix (outTo s n) i = outByte s i := by
  induction n with
  | zero => omega
  | succ n ih =>
    show ix ((outTo s n).set n (outByte s n)) i = _
    rw [ix_set _ _ _ _ (by rw [outTo_length]; omega)]
    split
    · rename_i h; rw [h]
    · exact ih (by omega) (by omega)
theorem bytesTo_ix (l : List UInt32) (q i : Nat) (hi : i < 4 * q) : ix (bytesTo l q) i = ix (byte4 (ix l (i / 4))) (i % 4) := by
  induction q with
  | zero => omega
  | succ q ih =>
    rw [bytesTo_succ]
    by_cases h : i < 4 * q
    · rw [ix_left _ _ _ (by rw [bytesTo_length]; exact h), ih h]
    · rw [ix_right _ _ _ (by rw [bytesTo_length]; omega), bytesTo_length]
      have e : i / 4 = q := by omega
      rw [e, show i - 4 * q = i % 4 from by omega]
theorem ix_byte4 (x : UInt32) (r : Nat) (hr : r < 4) : ix (byte4 x) r = (x >>> UInt32.ofNat (24 - 8 * r)).toUInt8 := by
  rw [byte4_shr]
  rcases r with _ | _ | _ | _ | r
  · rfl
  · rfl
  · rfl
  · rfl
  · omega
theorem bytes_out (s : St) : bytesTo s.list 8 = outTo s 32 := by
  refine list_ix (by simp) fun i hi => ?_
  rw [bytesTo_length] at hi
  rw [bytesTo_ix _ _ _ hi, ix_byte4 _ _ (by omega), outTo_ix s 32 i (Nat.le_refl _) (by omega)]
  rfl
/-! ### What stands behind -/
def padTo (b : List UInt8) (k : Nat) : List UInt8 := b ++ [128] ++ List.replicate k 0
theorem padTo_succ (b : List UInt8) (k : Nat) : padTo b (k + 1) = padTo b k ++ [0] := by simp [padTo, List.replicate_succ']
theorem padTo_length (b : List UInt8) (k : Nat) : (padTo b k).length = b.length + 1 + k := by simp [padTo]; omega
/-- How many zeros stand behind. -/
def padN (m : Nat) : Nat := (119 - m % 64) % 64
def lenWords (m : Nat) : List UInt32 := [(UInt64.ofInt (m : Int) * 8 / 4294967296).toUInt32, (UInt64.ofInt (m : Int) * 8 % 4294967296).toUInt32]
def padded (b : List UInt8) : List UInt8 := padTo b (padN b.length) ++ bytesTo (lenWords b.length) 2
def padBlk (b : List UInt8) (j : Nat) : List UInt8 := ((padded b).drop (64 * j)).take 64
def nBlk (b : List UInt8) : Nat := (padded b).length / 64
def refState (b : List UInt8) : Nat → St
  | 0 => h0
  | j + 1 => moreOf (refState b j) (padBlk b j)
theorem refState_zero (b : List UInt8) : refState b 0 = h0 := rfl
theorem refState_succ (b : List UInt8) (j : Nat) : refState b (j + 1) = moreOf (refState b j) (padBlk b j) := rfl
theorem padded_length (b : List UInt8) : (padded b).length = 64 * nBlk b := by
  have h : (padded b).length = b.length + 1 + padN b.length + 8 := by simp [padded, padTo_length]
  unfold nBlk
  rw [h]
  unfold padN
  omega
theorem nBlk_le (b : List UInt8) : 64 * nBlk b ≤ b.length + 72 := by
  rw [← padded_length]
  simp [padded, padTo_length]
  unfold padN
  omega
end Go.Proofs.YteiifdpikcnbgaaGreatDoor
/- The plain law of the sums: the document's blocks are the program's. No program in sight. -/
namespace Go.Proofs.YteiifdpikcnbgaaGreatDoor
set_option linter.unusedSimpArgs false
theorem setLen_ix (blk : List UInt8) (v : UInt64) (n i : Nat) (hl : blk.length = 64) (hn : n ≤ 8) (hi : i < 64) : ix (setLen blk v n) i = if 64 - n ≤ i then shB v (63 - i) else ix blk i := by
  induction n with
  | zero => rw [if_neg (by omega)]; rfl
  | succ n ih =>
    show ix ((setLen blk v n).set (63 - n) (shB v n)) i = _
    rw [ix_set _ _ _ _ (by rw [setLen_length, hl]; omega)]
    by_cases h : 63 - n = i
    · rw [if_pos h, if_pos (by omega)]
      congr 1
      omega
    · rw [if_neg h, ih (by omega)]
      by_cases h2 : 64 - n ≤ i
      · rw [if_pos h2, if_pos (by omega)]
      · rw [if_neg h2, if_neg (by omega)]
theorem ofInt_bits (m : Nat) : UInt64.ofInt (m : Int) * 8 = UInt64.ofNat (8 * m) := by
  rw [← UInt64.toNat_inj, UInt64.toNat_mul]
  unfold UInt64.ofInt
  rw [UInt64.toNat_ofNat', UInt64.toNat_ofNat']
  show ((m : Int) % 2 ^ 64).toNat % 2 ^ 64 * 8 % 2 ^ 64 = 8 * m % 2 ^ 64
  omega
theorem hiByte (v : UInt64) (k : Nat) (hk : k < 4) : ((v / 4294967296).toUInt32 >>> UInt32.ofNat (24 - 8 * k)).toUInt8 = shB v (7 - k) := by
  have hv := v.toNat_lt
  unfold shB
  rw [← UInt8.toNat_inj]
  rcases k with _ | _ | _ | _ | k
  · simp [UInt32.toNat_shiftRight, UInt64.toNat_shiftRight, Nat.shiftRight_eq_div_pow]; omega
  · simp [UInt32.toNat_shiftRight, UInt64.toNat_shiftRight, Nat.shiftRight_eq_div_pow]; omega
  · simp [UInt32.toNat_shiftRight, UInt64.toNat_shiftRight, Nat.shiftRight_eq_div_pow]; omega
  · simp [UInt32.toNat_shiftRight, UInt64.toNat_shiftRight, Nat.shiftRight_eq_div_pow]
  · omega
theorem loByte (v : UInt64) (k : Nat) (hk : k < 4) : ((v % 4294967296).toUInt32 >>> UInt32.ofNat (24 - 8 * k)).toUInt8 = shB v (3 - k) := by
  have hv := v.toNat_lt
  unfold shB
  rw [← UInt8.toNat_inj]
  rcases k with _ | _ | _ | _ | k
  · simp [UInt32.toNat_shiftRight, UInt64.toNat_shiftRight, Nat.shiftRight_eq_div_pow]; omega
  · simp [UInt32.toNat_shiftRight, UInt64.toNat_shiftRight, Nat.shiftRight_eq_div_pow]; omega
  · simp [UInt32.toNat_shiftRight, UInt64.toNat_shiftRight, Nat.shiftRight_eq_div_pow]; omega
  · simp [UInt32.toNat_shiftRight, UInt64.toNat_shiftRight, Nat.shiftRight_eq_div_pow]
  · omega
theorem len8_ix (b : List UInt8) (k : Nat) (hk : k < 8) : ix (bytesTo (lenWords b.length) 2) k = shB (bitsOf b) (7 - k) := by
  rw [bytesTo_ix _ 2 k (by omega)]
  unfold bitsOf lenWords
  rw [ofInt_bits]
  by_cases h : k < 4
  · rw [show k / 4 = 0 from by omega, show k % 4 = k from by omega]
    exact (ix_byte4 _ k h).trans (hiByte _ k h)
  · rw [show k / 4 = 1 from by omega]
    refine (ix_byte4 _ (k % 4) (by omega)).trans ((loByte _ (k % 4) (by omega)).trans ?_)
    congr 1
    omega
theorem padded_ix (b : List UInt8) (i : Nat) (hi : i < 64 * nBlk b) : ix (padded b) i = if i < b.length then ix b i else if i = b.length then 128 else if i < b.length + 1 + padN b.length then 0 else shB (bitsOf b) (64 * nBlk b - 1 - i) := by
  have hl := padded_length b
  have h8 : (padded b).length = b.length + 1 + padN b.length + 8 := by simp [padded, padTo_length]
  unfold padded
  by_cases h1 : i < b.length
  · rw [if_pos h1, ix_left _ _ _ (by rw [padTo_length]; omega), padTo, List.append_assoc, ix_left _ _ _ h1]
  · rw [if_neg h1]
    by_cases h2 : i = b.length
    · rw [if_pos h2, ix_left _ _ _ (by rw [padTo_length]; omega), padTo, List.append_assoc, ix_right _ _ _ (by omega), h2, Nat.sub_self]
      rfl
    · rw [if_neg h2]
      by_cases h3 : i < b.length + 1 + padN b.length
      · rw [if_pos h3, ix_left _ _ _ (by rw [padTo_length]; omega), padTo, ix_right _ _ _ (by simp; omega)]
        simp [ix, List.getD_eq_getElem?_getD, List.getElem?_replicate]
        split <;> rfl
      · rw [if_neg h3, ix_right _ _ _ (by rw [padTo_length]; omega), padTo_length, len8_ix _ _ (by omega)]
        congr 1
        omega
theorem padBlk_ix (b : List UInt8) (j i : Nat) (hi : i < 64) : ix (padBlk b j) i = ix (padded b) (64 * j + i) := by
  unfold padBlk
  rw [ix_take _ _ _ hi]
  simp [ix, List.getD_eq_getElem?_getD, List.getElem?_drop]
theorem padBlk_length (b : List UInt8) (j : Nat) (hj : j < nBlk b) : (padBlk b j).length = 64 := by
  unfold padBlk
  rw [List.length_take, List.length_drop, padded_length]
  omega
theorem pad64_ix (r : List UInt8) (i : Nat) (hr : r.length < 64) (_hi : i < 64) : ix (pad64 r) i = if i < r.length then ix r i else if i = r.length then 128 else 0 := by
  unfold pad64
  rw [ix_set _ _ _ _ (by simp; omega)]
  by_cases h : r.length = i
  · rw [if_pos h, if_neg (by omega), if_pos h.symm]
  · rw [if_neg h]
    by_cases h2 : i < r.length
    · rw [if_pos h2, ix_left _ _ _ h2]
    · rw [if_neg h2, if_neg (fun e => h e.symm), ix_right _ _ _ (by omega)]
      simp [ix, List.getD_eq_getElem?_getD, List.getElem?_replicate]
      split <;> rfl
theorem zb_ix (n i : Nat) : ix (zb n) i = 0 := by
  simp [zb, ix, List.getD_eq_getElem?_getD, List.getElem?_replicate]
  split <;> rfl
theorem drop_ix (b : List UInt8) (k i : Nat) : ix (b.drop k) i = ix b (k + i) := by simp [ix, List.getD_eq_getElem?_getD, List.getElem?_drop]
theorem ix_of_get {l : List B64} {k : Nat} {x : B64} (h : l[k]? = some x) : ix l k = x := by simp [ix, List.getD_eq_getElem?_getD, h]
/-- The blocks are the same. -/
theorem blk_eq (b : List UInt8) : (chunks b).length = nBlk b ∧ ∀ j, j < nBlk b → (ix (chunks b) j).1 = padBlk b j := by
  have hpl := padded_length b
  have h8 : (padded b).length = b.length + 1 + padN b.length + 8 := by simp [padded, padTo_length]
  have hcl := chunks_length b
  have hrl : (b.drop (64 * (b.length / 64))).length = b.length % 64 := by rw [List.length_drop]; omega
  have hpn : padN b.length = (119 - b.length % 64) % 64 := rfl
  have ht := chunks_tail b (b.length / 64)
  by_cases h56 : 56 < b.length % 64 + 1
  · have htl := tails_big (b.drop (64 * (b.length / 64))) (bitsOf b) (by rw [hrl]; exact h56)
    rw [htl] at hcl
    have hn : nBlk b = b.length / 64 + 2 := by omega
    refine ⟨by rw [hcl, hn]; rfl, fun j hj => ?_⟩
    by_cases hf : 64 * j + 64 ≤ b.length
    · rw [ix_of_get (chunks_full b j hf), b64_val (by simp; omega)]
      refine list_ix (by rw [padBlk_length b j hj]; simp; omega) fun i hi => ?_
      have hi' : i < 64 := by simp at hi; omega
      rw [padBlk_ix b j i hi', padded_ix b _ (by omega), if_pos (by omega), ix_take _ _ _ hi', drop_ix]
    · have hj2 : j = b.length / 64 + (j - b.length / 64) := by omega
      rw [hj2]
      have hg := ht (j - b.length / 64) rfl
      rw [htl] at hg
      by_cases h0 : j - b.length / 64 = 0
      · rw [h0] at hg ⊢
        rw [ix_of_get hg, b64_val (pad64_length (by omega))]
        refine list_ix (by rw [padBlk_length b _ (by omega), pad64_length (by omega)]) fun i hi => ?_
        rw [pad64_length (by omega)] at hi
        rw [padBlk_ix b _ i hi, padded_ix b _ (by omega), pad64_ix _ _ (by omega) hi, hrl]
        by_cases h1 : i < b.length % 64
        · rw [if_pos h1, if_pos (by omega), drop_ix]; congr 1
        · rw [if_neg h1]
          by_cases h2 : i = b.length % 64
          · rw [if_pos h2, if_neg (by omega), if_pos (by omega)]
          · rw [if_neg h2, if_neg (by omega), if_neg (by omega), if_pos (by omega)]
      · have h1 : j - b.length / 64 = 1 := by omega
        rw [h1] at hg ⊢
        rw [ix_of_get hg, b64_val (by simp)]
        refine list_ix (by rw [padBlk_length b _ (by omega)]; simp) fun i hi => ?_
        have hi' : i < 64 := by simpa using hi
        rw [padBlk_ix b _ i hi', padded_ix b _ (by omega), setLen_ix _ _ 8 i (by simp) (Nat.le_refl _) hi']
        by_cases h3 : 64 - 8 ≤ i
        · rw [if_pos h3, if_neg (by omega), if_neg (by omega), if_neg (by omega)]
          congr 1
          omega
        · rw [if_neg h3, zb_ix, if_neg (by omega), if_neg (by omega), if_pos (by omega)]
  · have htl := tails_small (b.drop (64 * (b.length / 64))) (bitsOf b) (by rw [hrl]; exact h56)
    rw [htl] at hcl
    have hn : nBlk b = b.length / 64 + 1 := by omega
    refine ⟨by rw [hcl, hn]; rfl, fun j hj => ?_⟩
    by_cases hf : 64 * j + 64 ≤ b.length
    · rw [ix_of_get (chunks_full b j hf), b64_val (by simp; omega)]
      refine list_ix (by rw [padBlk_length b j hj]; simp; omega) fun i hi => ?_
      have hi' : i < 64 := by simp at hi; omega
      rw [padBlk_ix b j i hi', padded_ix b _ (by omega), if_pos (by omega), ix_take _ _ _ hi', drop_ix]
    · have hj2 : j = b.length / 64 := by omega
      subst hj2
      have hg := ht 0 rfl
      rw [htl, Nat.add_zero] at hg
      have hp := pad64_length (r := b.drop (64 * (b.length / 64))) (by omega)
      rw [ix_of_get hg, b64_val (by rw [setLen_length, hp])]
      refine list_ix (by rw [padBlk_length b _ (by omega), setLen_length, hp]) fun i hi => ?_
      rw [setLen_length, hp] at hi
      rw [padBlk_ix b _ i hi, padded_ix b _ (by omega), setLen_ix _ _ 8 i hp (Nat.le_refl _) hi, pad64_ix _ _ (by omega) hi, hrl]
      by_cases h3 : 64 - 8 ≤ i
      · rw [if_pos h3, if_neg (by omega), if_neg (by omega), if_neg (by omega)]
        congr 1
        omega
      · rw [if_neg h3]
        by_cases h1 : i < b.length % 64
        · rw [if_pos h1, if_pos (by omega), drop_ix]
        · rw [if_neg h1]
          by_cases h2 : i = b.length % 64
          · rw [if_pos h2, if_neg (by omega), if_pos (by omega)]
          · rw [if_neg h2, if_neg (by omega), if_neg (by omega), if_pos (by omega)]
theorem refState_eq (b : List UInt8) (j : Nat) (hj : j ≤ nBlk b) : refState b j = stateTo (chunks b) j := by
  induction j with
  | zero => rfl
  | succ j ih => rw [refState_succ, stateTo_succ, ih (by omega), (blk_eq b).2 j (by omega)]
/-- The document's sum is the program's. -/
theorem ref_sha (b : List UInt8) : outTo (refState b (nBlk b)) 32 = shaOf b := by
  rw [shaOf_eq, (blk_eq b).1, refState_eq b _ (Nat.le_refl _)]
end Go.Proofs.YteiifdpikcnbgaaGreatDoor
