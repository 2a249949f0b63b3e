/- Numbers out of a seed and a label: prg.Words, Num, Child; the document's. -/
import Derived.Test.YtohnlajccfnecaaDoorPg2
namespace Go.Proofs.YtohnlajccfnecaaDoor
open Go.RowKit
set_option linter.unusedSimpArgs false
def word4 (b : List UInt8) (o : Nat) : UInt32 := shl32 (ix b o).toUInt32 24 ||| shl32 (ix b (o + 1)).toUInt32 16 ||| shl32 (ix b (o + 2)).toUInt32 8 ||| (ix b (o + 3)).toUInt32
theorem word4_eq (b : List UInt8) (o : Nat) : word4 b o = shl32 (ix b o).toUInt32 24 ||| shl32 (ix b (o + 1)).toUInt32 16 ||| shl32 (ix b (o + 2)).toUInt32 8 ||| (ix b (o + 3)).toUInt32 := rfl
def wAt (x : UInt64) (s : List UInt8) (i j : Nat) : UInt32 := word4 (prgBlk x s i) (4 * j)
def wTo (x : UInt64) (s : List UInt8) : Nat → List UInt32
  | 0 => []
  | k + 1 => wTo x s k ++ [wAt x s (k / 8) (k % 8)]
theorem wTo_zero (x : UInt64) (s : List UInt8) : wTo x s 0 = [] := rfl
theorem wTo_next (x : UInt64) (s : List UInt8) (k : Nat) : wTo x s (k + 1) = wTo x s k ++ [wAt x s (k / 8) (k % 8)] := rfl
theorem wTo_succ (x : UInt64) (s : List UInt8) (i j : Nat) (hj : j < 8) : wTo x s (8 * i + (j + 1)) = wTo x s (8 * i + j) ++ [word4 (prgBlk x s i) (4 * j)] := by
  show wTo x s (8 * i + j) ++ [wAt x s ((8 * i + j) / 8) ((8 * i + j) % 8)] = _
  rw [show (8 * i + j) / 8 = i from by omega, show (8 * i + j) % 8 = j from by omega]
  rfl
theorem wTo_length (x : UInt64) (s : List UInt8) (k : Nat) : (wTo x s k).length = k := by
  induction k with
  | zero => rfl
  | succ k ih => simp [wTo, ih]
def wOk (s : ByteArray) (n m : Int) : Bool := labOk s && decide (0 ≤ n ∧ n ≤ m)
theorem wOk_lab {s : ByteArray} {n m : Int} (h : labOk s = false) : wOk s n m = false := by unfold wOk; rw [h]; rfl
theorem wOk_lo {s : ByteArray} {n m : Int} (h : n < 0) : wOk s n m = false := by unfold wOk; rw [decide_eq_false (by omega), Bool.and_false]
theorem wOk_hi {s : ByteArray} {n m : Int} (h : m < n) : wOk s n m = false := by unfold wOk; rw [decide_eq_false (by omega), Bool.and_false]
theorem wOk_yes {s : ByteArray} {n m : Int} (h : labOk s = true) (h0 : ¬ n < 0) (h1 : ¬ m < n) : wOk s n m = true := by unfold wOk; rw [h, decide_eq_true (by omega)]; rfl
theorem labOk_size {s : ByteArray} (h : labOk s = true) : s.size ≤ 64 := by unfold labOk at h; simp only [Bool.and_eq_true, decide_eq_true_eq] at h; exact h.1
def errV (n : Int) : Value := .iface 74 (.int .i64 n)
def wErr (s : ByteArray) (n m : Int) : Value := if wOk s n m = true then .nilIface else errV 1
def wOut (x : UInt64) (s : ByteArray) (n : Int) : List UInt32 := if wOk s n 32 = true then wTo x s.data.toList n.toNat else []
theorem wOut_no {x : UInt64} {s : ByteArray} {n : Int} (h : wOk s n 32 = false) : wOut x s n = [] := by unfold wOut; rw [h]; rfl
theorem wOut_yes {x : UInt64} {s : ByteArray} {n : Int} (h : wOk s n 32 = true) : wOut x s n = wTo x s.data.toList n.toNat := by unfold wOut; rw [h]; rfl
theorem wErr_no {s : ByteArray} {n m : Int} (h : wOk s n m = false) : wErr s n m = .iface 74 (.int .i64 1) := by unfold wErr; rw [h]; rfl
theorem wErr_yes {s : ByteArray} {n m : Int} (h : wOk s n m = true) : wErr s n m = .nilIface := by unfold wErr; rw [h]; rfl
section
variable {w0 : World} {ow : Nat → Prop} {hp : List Res}
theorem goodOK (s : ByteArray) : CallOK Tryd.prog w0 ow 43 [.x (.a (.v (.string s)))] hp (.x (.a (.v (.bool (labOk s))))) hp := callOK_v fun _ w _ => good_any s w
theorem labelOK (s : ByteArray) (hs : s.size ≤ 1000) : CallOK Tryd.prog w0 ow 46 [.x (.a (.v (.string s)))] hp (.x (.a (.v (.bool (labOk s))))) hp := callOK_v fun _ w _ => label_any s hs w
theorem fpOfOK (v : UInt64) : CallOK Tryd.prog w0 ow 45 [.x (.a (.v (vU64 v)))] hp (.x (.a (.v (vU64 (v % fpP))))) hp := callOK_v fun _ w _ => fpOf_any v w
theorem block7OK (x : UInt64) (s : ByteArray) (hs : s.size ≤ 1000) (i : Nat) (hk : LaidK 5 w0) : CallOK Tryd.prog w0 No 44 [.x (.a (.v (vU64 x))), .x (.a (.v (.string s))), .x (.a (.v (.int .i64 i)))] hp (.x (.a8 (prgBlk x s.data.toList i))) hp := callOK_v fun _ w hS => block7_any x s hs i w (laid_later hk hS)
theorem refBlock7OK (x : UInt64) (s : ByteArray) (hs : s.size ≤ 1000) (i : Nat) (hi : i < 4294967296) : CallOK Tryd.prog w0 ow 47 [.x (.a (.v (vU64 x))), .x (.a (.v (.string s))), .x (.a (.v (.int .i64 i)))] hp (.x (.a8 (prgBlk x s.data.toList i))) hp := callOK_v fun _ w _ => refBlock7_any x s hs i hi w
end
attribute [local irreducible] prgBlk wTo labOk
/-! ### The document's -/
def allTo (x : UInt64) (s : List UInt8) : Nat → List UInt8
  | 0 => []
  | k + 1 => allTo x s k ++ prgBlk x s k
theorem allTo_zero (x : UInt64) (s : List UInt8) : allTo x s 0 = [] := rfl
theorem allTo_succ (x : UInt64) (s : List UInt8) (k : Nat) : allTo x s (k + 1) = allTo x s k ++ prgBlk x s k := rfl
theorem allTo_length (x : UInt64) (s : List UInt8) (k : Nat) : (allTo x s k).length = 32 * k := by
  induction k with
  | zero => rfl
  | succ k ih => rw [allTo_succ, List.length_append, ih, prgBlk_length]; omega
theorem allTo_ix (x : UInt64) (s : List UInt8) (k i r : Nat) (hi : i < k) (hr : r < 32) : ix (allTo x s k) (32 * i + r) = ix (prgBlk x s i) r := by
  induction k with
  | zero => omega
  | succ k ih =>
    rw [allTo_succ]
    have hl := allTo_length x s k
    by_cases h : i = k
    · subst h
      unfold ix
      rw [List.getD_eq_getElem?_getD, List.getElem?_append_right (by omega), hl, show 32 * i + r - 32 * i = r from by omega, List.getD_eq_getElem?_getD]
    · rw [← ih (by omega)]
      unfold ix
      rw [List.getD_eq_getElem?_getD, List.getElem?_append_left (by omega), List.getD_eq_getElem?_getD]
theorem shl_byte (p : UInt8) (k : Nat) (hk : k ≤ 24) : (shl32 p.toUInt32 k).toNat = p.toNat * 2 ^ k := by
  unfold shl32
  rw [if_pos (by omega)]
  have e : (UInt32.ofNat k).toNat % 32 = k := by simp; omega
  have hp := p.toNat_lt
  have h2 : p.toNat * 2 ^ k < 2 ^ 32 := by
    have h3 : 2 ^ k ≤ 2 ^ 24 := Nat.pow_le_pow_right (by omega) hk
    have h4 : p.toNat * 2 ^ k ≤ 255 * 2 ^ 24 := Nat.mul_le_mul (by omega) h3
    omega
  rw [UInt32.toNat_shiftLeft, e, Nat.shiftLeft_eq, UInt8.toNat_toUInt32, Nat.mod_eq_of_lt h2]
theorem be4_word (b : List UInt8) (o : Nat) : 16777216 * (ix b o).toUInt32 + 65536 * (ix b (o + 1)).toUInt32 + 256 * (ix b (o + 2)).toUInt32 + (ix b (o + 3)).toUInt32 = word4 b o := by
  rw [word4_eq]
  generalize ix b o = p
  generalize ix b (o + 1) = q
  generalize ix b (o + 2) = r
  generalize ix b (o + 3) = t
  have hp := p.toNat_lt
  have hq := q.toNat_lt
  have hr := r.toNat_lt
  have ht := t.toNat_lt
  apply UInt32.toNat_inj.1
  rw [UInt32.toNat_or, UInt32.toNat_or, UInt32.toNat_or, shl_byte p 24 (by omega), shl_byte q 16 (by omega), shl_byte r 8 (by omega), UInt8.toNat_toUInt32]
  rw [nat_join 24 (p.toNat * 2 ^ 24) _ (by omega) (by omega), nat_join 16 _ (r.toNat * 2 ^ 8) (by omega) (by omega), nat_join 8 _ t.toNat (by omega) (by omega)]
  simp only [UInt32.toNat_add, UInt32.toNat_mul, UInt8.toNat_toUInt32]
  have e1 : (16777216 : UInt32).toNat = 16777216 := rfl
  have e2 : (65536 : UInt32).toNat = 65536 := rfl
  have e3 : (256 : UInt32).toNat = 256 := rfl
  rw [e1, e2, e3]
  omega
theorem word4_all (x : UInt64) (s : List UInt8) (q i j : Nat) (hi : i < q) (hj : j < 8) : word4 (allTo x s q) (4 * (8 * i + j)) = word4 (prgBlk x s i) (4 * j) := by
  rw [word4_eq, word4_eq]
  rw [show 4 * (8 * i + j) = 32 * i + 4 * j from by omega, show 32 * i + 4 * j + 1 = 32 * i + (4 * j + 1) from by omega, show 32 * i + 4 * j + 2 = 32 * i + (4 * j + 2) from by omega, show 32 * i + 4 * j + 3 = 32 * i + (4 * j + 3) from by omega]
  rw [allTo_ix x s q i _ hi (by omega), allTo_ix x s q i _ hi (by omega), allTo_ix x s q i _ hi (by omega), allTo_ix x s q i _ hi (by omega)]
theorem wTo_step (x : UInt64) (s : List UInt8) (q k : Nat) (hk : k < 8 * q) : wTo x s (k + 1) = wTo x s k ++ [word4 (allTo x s q) (4 * k)] := by
  have h := word4_all x s q (k / 8) (k % 8) (by omega) (by omega)
  rw [show 8 * (k / 8) + k % 8 = k from by omega] at h
  rw [h]
  exact wTo_next x s k
attribute [local irreducible] allTo word4
end Go.Proofs.YtohnlajccfnecaaDoor
