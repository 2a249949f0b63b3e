/- The plain law of the sums: the document's words, bytes and blocks are the program's. No program in sight. -/
import Derived.Test.YtkchdhkpjnnliaaDoorRef5a
namespace Go.Proofs.YtkchdhkpjnnliaaDoor
/-! ### Words -/
theorem shl8_byte (x : UInt32) (c : UInt8) : (x <<< 8) ||| c.toUInt32 = 256 * x + c.toUInt32 := by
  rw [← UInt32.toNat_inj, UInt32.toNat_or, UInt32.toNat_shiftLeft, UInt32.toNat_add, UInt32.toNat_mul, UInt8.toNat_toUInt32]
  have hc := c.toNat_lt
  have hx := x.toNat_lt
  show (x.toNat <<< 8 % 4294967296 ||| c.toNat) = (256 * x.toNat % 4294967296 + c.toNat) % 4294967296
  have e : x.toNat <<< 8 % 4294967296 = (x.toNat % 16777216) <<< 8 := by rw [Nat.shiftLeft_eq, Nat.shiftLeft_eq]; omega
  rw [e, ← Nat.shiftLeft_add_eq_or_of_lt (show c.toNat < 2 ^ 8 by omega), Nat.shiftLeft_eq]
  omega
/-- m bytes of the j-th word. -/
def w4 (B : List UInt8) (j : Nat) : Nat → UInt32
  | 0 => 0
  | m + 1 => (w4 B j m <<< 8) ||| (ix B (4 * j + m)).toUInt32
theorem ix_set {α : Type} [Inhabited α] (l : List α) (i j : Nat) (x : α) (hi : i < l.length) : ix (l.set i x) j = if i = j then x else ix l j := by
  unfold ix
  rw [List.getD_eq_getElem?_getD, List.getD_eq_getElem?_getD, List.getElem?_set]
  split
  · simp
  · rfl
theorem ix_replicate (n j : Nat) : ix (List.replicate n (0 : UInt32)) j = 0 := by
  unfold ix
  rw [List.getD_eq_getElem?_getD, List.getElem?_replicate]
  split <;> rfl
theorem ix_take {α : Type} [Inhabited α] (l : List α) (n i : Nat) (h : i < n) : ix (l.take n) i = ix l i := by simp [ix, List.getD_eq_getElem?_getD, h]
theorem ix_left {α : Type} [Inhabited α] (a b : List α) (i : Nat) (h : i < a.length) : ix (a ++ b) i = ix a i := by simp [ix, List.getD_eq_getElem?_getD, List.getElem?_append_left h]
theorem ix_right {α : Type} [Inhabited α] (a b : List α) (i : Nat) (h : a.length ≤ i) : ix (a ++ b) i = ix b (i - a.length) := by simp [ix, List.getD_eq_getElem?_getD, List.getElem?_append_right h]
theorem to1_ix (B : List UInt8) (j : Nat) (hj : j < 16) (i : Nat) (hi : i ≤ 64) : ix (to1 B i) j = w4 B j (min (i - 4 * j) 4) := by
  induction i with
  | zero =>
    simp only [to1, Nat.zero_sub, Nat.zero_min, w4]
    exact ix_replicate 64 j
  | succ i ih =>
    have ih := ih (by omega)
    show ix ((to1 B i).set (i / 4) ((ix (to1 B i) (i / 4) <<< 8) ||| (ix B i).toUInt32)) j = _
    rw [ix_set _ _ _ _ (by rw [to1_length]; omega)]
    split
    · rename_i h
      subst h
      rw [ih, show min (i + 1 - 4 * (i / 4)) 4 = min (i - 4 * (i / 4)) 4 + 1 from by omega]
      show _ = (w4 B (i / 4) (min (i - 4 * (i / 4)) 4) <<< 8) ||| (ix B (4 * (i / 4) + min (i - 4 * (i / 4)) 4)).toUInt32
      rw [show 4 * (i / 4) + min (i - 4 * (i / 4)) 4 = i from by omega]
    · rename_i h
      rw [ih]
      congr 1
      omega
theorem w4_be4 (B : List UInt8) (j : Nat) : w4 B j 4 = be4 B (4 * j) := by
  simp only [w4, shl8_byte, be4]
  rw [← UInt32.toNat_inj]
  simp only [UInt32.toNat_add, UInt32.toNat_mul, UInt8.toNat_toUInt32]
  have h0 := (ix B (4 * j)).toNat_lt
  have h1 := (ix B (4 * j + 1)).toNat_lt
  have h2 := (ix B (4 * j + 2)).toNat_lt
  have h3 := (ix B (4 * j + 3)).toNat_lt
  generalize (ix B (4 * j)).toNat = a at *
  generalize (ix B (4 * j + 1)).toNat = b at *
  generalize (ix B (4 * j + 2)).toNat = c at *
  generalize (ix B (4 * j + 3)).toNat = d at *
  show (256 * ((256 * ((256 * ((256 * 0 % 4294967296 + a) % 4294967296) % 4294967296 + b) % 4294967296) % 4294967296 + c) % 4294967296) % 4294967296 + d) % 4294967296 = (((16777216 * a % 4294967296 + 65536 * b % 4294967296) % 4294967296 + 256 * c % 4294967296) % 4294967296 + d) % 4294967296
  omega
theorem list_ix {α : Type} [Inhabited α] {a b : List α} (hl : a.length = b.length) (h : ∀ i, i < a.length → ix a i = ix b i) : a = b := by
  apply List.ext_getElem hl
  intro i h1 h2
  have := h i h1
  simpa [ix, List.getD_eq_getElem?_getD, List.getElem?_eq_getElem h1, List.getElem?_eq_getElem h2] using this
theorem wordsTo_ix (B : List UInt8) (q i : Nat) (hi : i < q) : ix (wordsTo B q) i = be4 B (4 * i) := by
  induction q with
  | zero => omega
  | succ q ih =>
    rw [wordsTo_succ]
    by_cases h : i < q
    · rw [← ih h, ix_left _ _ _ (by rw [wordsTo_length]; exact h)]
    · have : i = q := by omega
      subst this
      simp [ix, List.getD_eq_getElem?_getD]
theorem words_take (B : List UInt8) : wordsTo B 16 = List.take 16 (to2 B 0) := by
  refine list_ix (by simp [to2]) fun i hi => ?_
  rw [wordsTo_length] at hi
  rw [wordsTo_ix B 16 i hi]
  show _ = ix (List.take 16 (to1 B 64)) i
  rw [ix_take _ _ _ hi, to1_ix B i hi 64 (Nat.le_refl _), show min (64 - 4 * i) 4 = 4 from by omega, w4_be4]
/-! ### Bytes -/
theorem q0 (x : UInt32) : (x / 16777216).toUInt8 = (x >>> 24).toUInt8 := by
  rw [← UInt8.toNat_inj]; simp [UInt32.toNat_shiftRight, Nat.shiftRight_eq_div_pow]
theorem q1 (x : UInt32) : (x / 65536 % 256).toUInt8 = (x >>> 16).toUInt8 := by
  rw [← UInt8.toNat_inj]; simp [UInt32.toNat_shiftRight, Nat.shiftRight_eq_div_pow]
theorem q2 (x : UInt32) : (x / 256 % 256).toUInt8 = (x >>> 8).toUInt8 := by
  rw [← UInt8.toNat_inj]; simp [UInt32.toNat_shiftRight, Nat.shiftRight_eq_div_pow]
theorem q3 (x : UInt32) : (x % 256).toUInt8 = (x >>> 0).toUInt8 := by
  rw [← UInt8.toNat_inj]; simp
theorem byte4_shr (x : UInt32) : byte4 x = [(x >>> 24).toUInt8, (x >>> 16).toUInt8, (x >>> 8).toUInt8, (x >>> 0).toUInt8] := by
  rw [byte4_eq, q0, q1, q2, q3]
theorem outTo_ix (s : St) (n i : Nat) (hn : n ≤ 32) (hi : i < n) : ix (outTo s n) i = outByte s i := by
  induction n with
  | zero => omega
  | succ n ih =>
    show ix ((outTo s n).set n (outByte s n)) i = _
    rw [ix_set _ _ _ _ (by rw [outTo_length]; omega)]
    split
    · rename_i h; rw [h]
    · exact ih (by omega) (by omega)
theorem bytesTo_ix (l : List UInt32) (q i : Nat) (hi : i < 4 * q) : ix (bytesTo l q) i = ix (byte4 (ix l (i / 4))) (i % 4) := by
  induction q with
  | zero => omega
  | succ q ih =>
    rw [bytesTo_succ]
    by_cases h : i < 4 * q
    · rw [ix_left _ _ _ (by rw [bytesTo_length]; exact h), ih h]
    · rw [ix_right _ _ _ (by rw [bytesTo_length]; omega), bytesTo_length]
      have e : i / 4 = q := by omega
      rw [e, show i - 4 * q = i % 4 from by omega]
theorem ix_byte4 (x : UInt32) (r : Nat) (hr : r < 4) : ix (byte4 x) r = (x >>> UInt32.ofNat (24 - 8 * r)).toUInt8 := by
  rw [byte4_shr]
  rcases r with _ | _ | _ | _ | r
  · rfl
  · rfl
  · rfl
  · rfl
  · omega
theorem bytes_out (s : St) : bytesTo s.list 8 = outTo s 32 := by
  refine list_ix (by simp) fun i hi => ?_
  rw [bytesTo_length] at hi
  rw [bytesTo_ix _ _ _ hi, ix_byte4 _ _ (by omega), outTo_ix s 32 i (Nat.le_refl _) (by omega)]
  rfl
/-! ### What stands behind -/
def padTo (b : List UInt8) (k : Nat) : List UInt8 := b ++ [128] ++ List.replicate k 0
theorem padTo_succ (b : List UInt8) (k : Nat) : padTo b (k + 1) = padTo b k ++ [0] := by simp [padTo, List.replicate_succ']
theorem padTo_length (b : List UInt8) (k : Nat) : (padTo b k).length = b.length + 1 + k := by simp [padTo]; omega
/-- How many zeros stand behind. -/
def padN (m : Nat) : Nat := (119 - m % 64) % 64
def lenWords (m : Nat) : List UInt32 := [(UInt64.ofInt (m : Int) * 8 / 4294967296).toUInt32, (UInt64.ofInt (m : Int) * 8 % 4294967296).toUInt32]
def padded (b : List UInt8) : List UInt8 := padTo b (padN b.length) ++ bytesTo (lenWords b.length) 2
def padBlk (b : List UInt8) (j : Nat) : List UInt8 := ((padded b).drop (64 * j)).take 64
def nBlk (b : List UInt8) : Nat := (padded b).length / 64
def refState (b : List UInt8) : Nat → St
  | 0 => h0
  | j + 1 => moreOf (refState b j) (padBlk b j)
theorem refState_zero (b : List UInt8) : refState b 0 = h0 := rfl
theorem refState_succ (b : List UInt8) (j : Nat) : refState b (j + 1) = moreOf (refState b j) (padBlk b j) := rfl
theorem padded_length (b : List UInt8) : (padded b).length = 64 * nBlk b := by
  have h : (padded b).length = b.length + 1 + padN b.length + 8 := by simp [padded, padTo_length]
  unfold nBlk
  rw [h]
  unfold padN
  omega
theorem nBlk_le (b : List UInt8) : 64 * nBlk b ≤ b.length + 72 := by
  rw [← padded_length]
  simp [padded, padTo_length]
  unfold padN
  omega
end Go.Proofs.YtkchdhkpjnnliaaDoor
