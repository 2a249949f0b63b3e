/- Numbers out of a seed and a label: prg.Words, Num, Child; the document's. -/
import Derived.Test.YtkchdhkpjnnliaaDoorPg2
namespace Go.Proofs.YtkchdhkpjnnliaaDoor
open Go.RowKit
set_option linter.unusedSimpArgs false
def word4 (b : List UInt8) (o : Nat) : UInt32 := shl32 (ix b o).toUInt32 24 ||| shl32 (ix b (o + 1)).toUInt32 16 ||| shl32 (ix b (o + 2)).toUInt32 8 ||| (ix b (o + 3)).toUInt32
theorem word4_eq (b : List UInt8) (o : Nat) : word4 b o = shl32 (ix b o).toUInt32 24 ||| shl32 (ix b (o + 1)).toUInt32 16 ||| shl32 (ix b (o + 2)).toUInt32 8 ||| (ix b (o + 3)).toUInt32 := rfl
def wAt (x : UInt64) (s : List UInt8) (i j : Nat) : UInt32 := word4 (prgBlk x s i) (4 * j)
def wTo (x : UInt64) (s : List UInt8) : Nat → List UInt32
  | 0 => []
  | k + 1 => wTo x s k ++ [wAt x s (k / 8) (k % 8)]
theorem wTo_zero (x : UInt64) (s : List UInt8) : wTo x s 0 = [] := rfl
theorem wTo_next (x : UInt64) (s : List UInt8) (k : Nat) : wTo x s (k + 1) = wTo x s k ++ [wAt x s (k / 8) (k % 8)] := rfl
theorem wTo_succ (x : UInt64) (s : List UInt8) (i j : Nat) (hj : j < 8) : wTo x s (8 * i + (j + 1)) = wTo x s (8 * i + j) ++ [word4 (prgBlk x s i) (4 * j)] := by
  show wTo x s (8 * i + j) ++ [wAt x s ((8 * i + j) / 8) ((8 * i + j) % 8)] = _
  rw [show (8 * i + j) / 8 = i from by omega, show (8 * i + j) % 8 = j from by omega]
  rfl
theorem wTo_length (x : UInt64) (s : List UInt8) (k : Nat) : (wTo x s k).length = k := by
  induction k with
  | zero => rfl
  | succ k ih => simp [wTo, ih]
def wOk (s : ByteArray) (n m : Int) : Bool := labOk s && decide (0 ≤ n ∧ n ≤ m)
theorem wOk_lab {s : ByteArray} {n m : Int} (h : labOk s = false) : wOk s n m = false := by unfold wOk; rw [h]; rfl
theorem wOk_lo {s : ByteArray} {n m : Int} (h : n < 0) : wOk s n m = false := by unfold wOk; rw [decide_eq_false (by omega), Bool.and_false]
theorem wOk_hi {s : ByteArray} {n m : Int} (h : m < n) : wOk s n m = false := by unfold wOk; rw [decide_eq_false (by omega), Bool.and_false]
theorem wOk_yes {s : ByteArray} {n m : Int} (h : labOk s = true) (h0 : ¬ n < 0) (h1 : ¬ m < n) : wOk s n m = true := by unfold wOk; rw [h, decide_eq_true (by omega)]; rfl
theorem labOk_size {s : ByteArray} (h : labOk s = true) : s.size ≤ 64 := by unfold labOk at h; simp only [Bool.and_eq_true, decide_eq_true_eq] at h; exact h.1
def errV (n : Int) : Value := .iface 95 (.int .i64 n)
def wErr (s : ByteArray) (n m : Int) : Value := if wOk s n m = true then .nilIface else errV 1
def wOut (x : UInt64) (s : ByteArray) (n : Int) : List UInt32 := if wOk s n 32 = true then wTo x s.data.toList n.toNat else []
theorem wOut_no {x : UInt64} {s : ByteArray} {n : Int} (h : wOk s n 32 = false) : wOut x s n = [] := by unfold wOut; rw [h]; rfl
theorem wOut_yes {x : UInt64} {s : ByteArray} {n : Int} (h : wOk s n 32 = true) : wOut x s n = wTo x s.data.toList n.toNat := by unfold wOut; rw [h]; rfl
theorem wErr_no {s : ByteArray} {n m : Int} (h : wOk s n m = false) : wErr s n m = .iface 95 (.int .i64 1) := by unfold wErr; rw [h]; rfl
theorem wErr_yes {s : ByteArray} {n m : Int} (h : wOk s n m = true) : wErr s n m = .nilIface := by unfold wErr; rw [h]; rfl
section
variable {w0 : World} {ow : Nat → Prop} {hp : List Res}
theorem goodOK (s : ByteArray) : CallOK Tryd.prog w0 ow 71 [.x (.a (.v (.string s)))] hp (.x (.a (.v (.bool (labOk s))))) hp := callOK_v fun _ w _ => good_any s w
theorem labelOK (s : ByteArray) (hs : s.size ≤ 1000) : CallOK Tryd.prog w0 ow 73 [.x (.a (.v (.string s)))] hp (.x (.a (.v (.bool (labOk s))))) hp := callOK_v fun _ w _ => label_any s hs w
theorem fpOfOK (v : UInt64) : CallOK Tryd.prog w0 ow 75 [.x (.a (.v (vU64 v)))] hp (.x (.a (.v (vU64 (v % fpP))))) hp := callOK_v fun _ w _ => fpOf_any v w
theorem block7OK (x : UInt64) (s : ByteArray) (hs : s.size ≤ 1000) (i : Nat) (hk : LaidK 0 w0) : CallOK Tryd.prog w0 No 72 [.x (.a (.v (vU64 x))), .x (.a (.v (.string s))), .x (.a (.v (.int .i64 i)))] hp (.x (.a8 (prgBlk x s.data.toList i))) hp := callOK_v fun _ w hS => block7_any x s hs i w (laid_later hk hS)
theorem refBlock7OK (x : UInt64) (s : ByteArray) (hs : s.size ≤ 1000) (i : Nat) (hi : i < 4294967296) : CallOK Tryd.prog w0 ow 74 [.x (.a (.v (vU64 x))), .x (.a (.v (.string s))), .x (.a (.v (.int .i64 i)))] hp (.x (.a8 (prgBlk x s.data.toList i))) hp := callOK_v fun _ w _ => refBlock7_any x s hs i hi w
end
attribute [local irreducible] prgBlk wTo labOk
set_option maxRecDepth 100000 in
set_option maxHeartbeats 1000000 in
theorem words7_any (x : UInt64) (s : ByteArray) (n : Int) (w : World) (hk : LaidK 0 w) :
    Calls Tryd.prog 37 #[vU64 x, .string s, .int .i64 n] w fun e w' => ∃ v, e = .returned (.tuple #[v, wErr s n 32]) ∧ Own w' w.heap.size 70 v ((wOut x s n).map vU32) ∧ Below w.heap.size w w' := by
  refine calls_own2 (n := 75) Tryd.func37 rfl Tryd.ntmps37 [.x (.a (.v (vU64 x))), .x (.a (.v (.string s))), .x (.a (.v (.int .i64 n)))] (by simp) 70 (.u32 (wOut x s n)) (wErr s n 32) (fun _ => rfl) ?_
  simp only [push_cast, ↓Int.toNat_natCast, ↓Int.cast_ofNat_Int, Int.cast_ofNat_Int, ↓reduceIte, reduceCtorEq, Nat.reduceEqDiff, Nat.reduceLT, Nat.reduceLeDiff, Nat.reduceAdd, Nat.reduceSub, Nat.reduceMul, Int.reduceNeg, Int.reduceLE, Int.reduceLT, Int.reduceToNat, Int.reduceAdd, Int.reduceSub, Int.reduceMul, Int.reduceEq]
  (repeat (refine And.intro (by first | omega | decide) ?_))
  refine callG_v rfl cb71 rfl (goodOK s) (dOk_lt rfl) ?_
  cases hl : labOk s
  · have hb := wOk_lab (n := n) (m := 32) hl
    simp only [wOut_no hb, wErr_no hb, undef, ownT2, ownT, push_cast, ↓Int.toNat_natCast, ↓Int.cast_ofNat_Int, Int.cast_ofNat_Int, ↓reduceIte, reduceCtorEq, Nat.reduceEqDiff, Nat.reduceLT, Nat.reduceLeDiff, Nat.reduceAdd, Nat.reduceSub, Nat.reduceMul, Int.reduceNeg, Int.reduceLE, Int.reduceLT, Int.reduceToNat, Int.reduceAdd, Int.reduceSub, Int.reduceMul, Int.reduceEq]
  by_cases h0 : n < 0
  · have hb := wOk_lo (s := s) (m := 32) h0
    simp only [h0, wOut_no hb, wErr_no hb, undef, ownT2, ownT, push_cast, ↓Int.toNat_natCast, ↓Int.cast_ofNat_Int, Int.cast_ofNat_Int, ↓reduceIte, reduceCtorEq, Nat.reduceEqDiff, Nat.reduceLT, Nat.reduceLeDiff, Nat.reduceAdd, Nat.reduceSub, Nat.reduceMul, Int.reduceNeg, Int.reduceLE, Int.reduceLT, Int.reduceToNat, Int.reduceAdd, Int.reduceSub, Int.reduceMul, Int.reduceEq]
  by_cases h1 : 32 < n
  · have hb := wOk_hi (s := s) h1
    simp only [h0, h1, wOut_no hb, wErr_no hb, undef, ownT2, ownT, push_cast, ↓Int.toNat_natCast, ↓Int.cast_ofNat_Int, Int.cast_ofNat_Int, ↓reduceIte, reduceCtorEq, Nat.reduceEqDiff, Nat.reduceLT, Nat.reduceLeDiff, Nat.reduceAdd, Nat.reduceSub, Nat.reduceMul, Int.reduceNeg, Int.reduceLE, Int.reduceLT, Int.reduceToNat, Int.reduceAdd, Int.reduceSub, Int.reduceMul, Int.reduceEq]
  have hb := wOk_yes hl h0 h1
  have hsz := labOk_size hl
  rw [wOut_yes hb, wErr_yes hb]
  obtain ⟨m, rfl⟩ := Int.eq_ofNat_of_zero_le (show 0 ≤ n by omega)
  have hm : m ≤ 32 := by omega
  simp only [h0, h1, undef, push_cast, ↓Int.toNat_natCast, ↓Int.cast_ofNat_Int, Int.cast_ofNat_Int, ↓reduceIte, reduceCtorEq, Nat.reduceEqDiff, Nat.reduceLT, Nat.reduceLeDiff, Nat.reduceAdd, Nat.reduceSub, Nat.reduceMul, Int.reduceNeg, Int.reduceLE, Int.reduceLT, Int.reduceToNat, Int.reduceAdd, Int.reduceSub, Int.reduceMul, Int.reduceEq]
  (repeat (refine And.intro (by first | omega | decide) ?_))
  refine loop_rule (ι := Nat) (fun i => ⟨[(0, .x (.a (.v (vU64 x)))), (1, .x (.a (.v (.string s)))), (2, .x (.a (.v (.int .i64 m)))), (8, .x (.a (.o 0))), (9, .x (.a (.v (.int .i64 i))))], [.own 70 (.u32 (wTo x s.data.toList (min (8 * i) m)))]⟩)
    (fun i => 8 * i < m + 8) (fun i => 10 - i) 0 [0] (by omega) ?_ ?_
  · simp only [Nat.mul_zero, Nat.zero_min, wTo_zero, List.replicate_zero, push_cast, ↓Int.toNat_natCast, ↓Int.cast_ofNat_Int, Int.cast_ofNat_Int, ↓reduceIte, reduceCtorEq, Nat.reduceEqDiff, Nat.reduceLT, Nat.reduceLeDiff, Nat.reduceAdd, Nat.reduceSub, Nat.reduceMul, Int.reduceNeg, Int.reduceLE, Int.reduceLT, Int.reduceToNat, Int.reduceAdd, Int.reduceSub, Int.reduceMul, Int.reduceEq]
  · intro i hi
    have hwl := wTo_length x s.data.toList (min (8 * i) m)
    by_cases h : 8 * i < m
    · have e : min (8 * i) m = 8 * i := by omega
      have hlt : 8 * (i : Int) < m := by omega
      rw [e] at hwl
      have hbl := prgBlk_length x s.data.toList i
      simp only [e, hwl, hlt, undef, push_cast, ↓Int.toNat_natCast, ↓Int.cast_ofNat_Int, Int.cast_ofNat_Int, ↓reduceIte, reduceCtorEq, Nat.reduceEqDiff, Nat.reduceLT, Nat.reduceLeDiff, Nat.reduceAdd, Nat.reduceSub, Nat.reduceMul, Int.reduceNeg, Int.reduceLE, Int.reduceLT, Int.reduceToNat, Int.reduceAdd, Int.reduceSub, Int.reduceMul, Int.reduceEq]
      (repeat (refine And.intro (by first | omega | decide) ?_))
      refine callG_v rfl cb72 rfl (block7OK x s (by omega) i hk) (dOk_lt rfl) ?_
      simp only [e, hwl, hlt, hbl, undef, push_cast, ↓Int.toNat_natCast, ↓Int.cast_ofNat_Int, Int.cast_ofNat_Int, ↓reduceIte, reduceCtorEq, Nat.reduceEqDiff, Nat.reduceLT, Nat.reduceLeDiff, Nat.reduceAdd, Nat.reduceSub, Nat.reduceMul, Int.reduceNeg, Int.reduceLE, Int.reduceLT, Int.reduceToNat, Int.reduceAdd, Int.reduceSub, Int.reduceMul, Int.reduceEq]
      (repeat (refine And.intro (by first | omega | decide) ?_))
      refine loop_rule (ι := Nat) (fun j => ⟨[(0, .x (.a (.v (vU64 x)))), (1, .x (.a (.v (.string s)))), (2, .x (.a (.v (.int .i64 m)))), (8, .x (.a (.o 0))), (9, .x (.a (.v (.int .i64 i)))), (10, .x (.a (.p 1 0))), (11, .x (.a (.v (.int .i64 (4 * (j : Int))))))], [.own 70 (.u32 (wTo x s.data.toList (8 * i + j))), .blk 23 (.u8 (prgBlk x s.data.toList i))]⟩)
        (fun j => j ≤ 8 ∧ 8 * i + j ≤ m) (fun j => 8 - j) 0 [0, 1] (by omega) ?_ ?_
      · simp only [e, Nat.add_zero, push_cast, ↓Int.toNat_natCast, ↓Int.cast_ofNat_Int, Int.cast_ofNat_Int, ↓reduceIte, reduceCtorEq, Nat.reduceEqDiff, Nat.reduceLT, Nat.reduceLeDiff, Nat.reduceAdd, Nat.reduceSub, Nat.reduceMul, Int.reduceNeg, Int.reduceLE, Int.reduceLT, Int.reduceToNat, Int.reduceAdd, Int.reduceSub, Int.reduceMul, Int.reduceEq]
        all_goals omega
      · rintro j ⟨hj, hjm⟩
        have hwl := wTo_length x s.data.toList (8 * i + j)
        by_cases h4 : 4 * (j : Int) < 32
        · by_cases hlm : 8 * (i : Int) + j < m
          · have t0 : (4 * (j : Int)).toNat = 4 * j := by omega
            have t1 : (4 * (j : Int) + 1).toNat = 4 * j + 1 := by omega
            have t2 : (4 * (j : Int) + 2).toNat = 4 * j + 2 := by omega
            have t3 : (4 * (j : Int) + 3).toNat = 4 * j + 3 := by omega
            simp only [h4, hlm, hwl, hbl, undef, push_cast, ↓Int.toNat_natCast, ↓Int.cast_ofNat_Int, Int.cast_ofNat_Int, ↓reduceIte, reduceCtorEq, Nat.reduceEqDiff, Nat.reduceLT, Nat.reduceLeDiff, Nat.reduceAdd, Nat.reduceSub, Nat.reduceMul, Int.reduceNeg, Int.reduceLE, Int.reduceLT, Int.reduceToNat, Int.reduceAdd, Int.reduceSub, Int.reduceMul, Int.reduceEq]
            (repeat (refine And.intro (by first | omega | decide) ?_))
            refine drawT_rule 27 [(0, true), (1, true), (2, true), (3, true), (4, true), (5, true), (6, true), (7, true), (8, true), (9, true), (10, true), (11, true), (12, true), (13, true), (14, true), (15, true), (16, true), (17, true), (18, true), (19, true), (20, true), (21, true), (22, true), (23, true), (24, true), (25, true), (26, false)] (by kernel_rfl) (by kernel_rfl) ?_
            simp only [t0, t1, t2, t3, h4, hlm, hwl, hbl, undef, push_cast, ↓Int.toNat_natCast, ↓Int.cast_ofNat_Int, Int.cast_ofNat_Int, ↓reduceIte, reduceCtorEq, Nat.reduceEqDiff, Nat.reduceLT, Nat.reduceLeDiff, Nat.reduceAdd, Nat.reduceSub, Nat.reduceMul, Int.reduceNeg, Int.reduceLE, Int.reduceLT, Int.reduceToNat, Int.reduceAdd, Int.reduceSub, Int.reduceMul, Int.reduceEq]
            (repeat (refine And.intro (by first | omega | decide) ?_))
            refine loopK_normal (j + 1) [3, 1] ⟨by omega, by omega⟩ (by omega) ?_
            simp only [wTo_succ x s.data.toList i j (by omega), word4_eq, push_cast, ↓Int.toNat_natCast, ↓Int.cast_ofNat_Int, Int.cast_ofNat_Int, ↓reduceIte, reduceCtorEq, Nat.reduceEqDiff, Nat.reduceLT, Nat.reduceLeDiff, Nat.reduceAdd, Nat.reduceSub, Nat.reduceMul, Int.reduceNeg, Int.reduceLE, Int.reduceLT, Int.reduceToNat, Int.reduceAdd, Int.reduceSub, Int.reduceMul, Int.reduceEq]
            all_goals omega
          · have e2 : min (8 * (i + 1)) m = 8 * i + j := by omega
            simp only [h4, hlm, hwl, hbl, undef, push_cast, ↓Int.toNat_natCast, ↓Int.cast_ofNat_Int, Int.cast_ofNat_Int, ↓reduceIte, reduceCtorEq, Nat.reduceEqDiff, Nat.reduceLT, Nat.reduceLeDiff, Nat.reduceAdd, Nat.reduceSub, Nat.reduceMul, Int.reduceNeg, Int.reduceLE, Int.reduceLT, Int.reduceToNat, Int.reduceAdd, Int.reduceSub, Int.reduceMul, Int.reduceEq]
            (repeat (refine And.intro (by first | omega | decide) ?_))
            refine loopK_normal (i + 1) [0] (by omega) (by omega) ?_
            simp only [e2, push_cast, ↓Int.toNat_natCast, ↓Int.cast_ofNat_Int, Int.cast_ofNat_Int, ↓reduceIte, reduceCtorEq, Nat.reduceEqDiff, Nat.reduceLT, Nat.reduceLeDiff, Nat.reduceAdd, Nat.reduceSub, Nat.reduceMul, Int.reduceNeg, Int.reduceLE, Int.reduceLT, Int.reduceToNat, Int.reduceAdd, Int.reduceSub, Int.reduceMul, Int.reduceEq]
            all_goals omega
        · have e2 : min (8 * (i + 1)) m = 8 * i + j := by omega
          simp only [h4, hwl, hbl, undef, push_cast, ↓Int.toNat_natCast, ↓Int.cast_ofNat_Int, Int.cast_ofNat_Int, ↓reduceIte, reduceCtorEq, Nat.reduceEqDiff, Nat.reduceLT, Nat.reduceLeDiff, Nat.reduceAdd, Nat.reduceSub, Nat.reduceMul, Int.reduceNeg, Int.reduceLE, Int.reduceLT, Int.reduceToNat, Int.reduceAdd, Int.reduceSub, Int.reduceMul, Int.reduceEq]
          (repeat (refine And.intro (by first | omega | decide) ?_))
          refine loopK_normal (i + 1) [0] (by omega) (by omega) ?_
          simp only [e2, push_cast, ↓Int.toNat_natCast, ↓Int.cast_ofNat_Int, Int.cast_ofNat_Int, ↓reduceIte, reduceCtorEq, Nat.reduceEqDiff, Nat.reduceLT, Nat.reduceLeDiff, Nat.reduceAdd, Nat.reduceSub, Nat.reduceMul, Int.reduceNeg, Int.reduceLE, Int.reduceLT, Int.reduceToNat, Int.reduceAdd, Int.reduceSub, Int.reduceMul, Int.reduceEq]
          all_goals omega
    · have e : min (8 * i) m = m := by omega
      rw [e] at hwl
      simp only [e, hwl, Int.lt_irrefl, undef, ownT2, ownT, push_cast, ↓Int.toNat_natCast, ↓Int.cast_ofNat_Int, Int.cast_ofNat_Int, ↓reduceIte, reduceCtorEq, Nat.reduceEqDiff, Nat.reduceLT, Nat.reduceLeDiff, Nat.reduceAdd, Nat.reduceSub, Nat.reduceMul, Int.reduceNeg, Int.reduceLE, Int.reduceLT, Int.reduceToNat, Int.reduceAdd, Int.reduceSub, Int.reduceMul, Int.reduceEq]
/-! ### The document's -/
def allTo (x : UInt64) (s : List UInt8) : Nat → List UInt8
  | 0 => []
  | k + 1 => allTo x s k ++ prgBlk x s k
theorem allTo_zero (x : UInt64) (s : List UInt8) : allTo x s 0 = [] := rfl
theorem allTo_succ (x : UInt64) (s : List UInt8) (k : Nat) : allTo x s (k + 1) = allTo x s k ++ prgBlk x s k := rfl
theorem allTo_length (x : UInt64) (s : List UInt8) (k : Nat) : (allTo x s k).length = 32 * k := by
  induction k with
  | zero => rfl
  | succ k ih => rw [allTo_succ, List.length_append, ih, prgBlk_length]; omega
theorem allTo_ix (x : UInt64) (s : List UInt8) (k i r : Nat) (hi : i < k) (hr : r < 32) : ix (allTo x s k) (32 * i + r) = ix (prgBlk x s i) r := by
  induction k with
  | zero => omega
  | succ k ih =>
    rw [allTo_succ]
    have hl := allTo_length x s k
    by_cases h : i = k
    · subst h
      unfold ix
      rw [List.getD_eq_getElem?_getD, List.getElem?_append_right (by omega), hl, show 32 * i + r - 32 * i = r from by omega, List.getD_eq_getElem?_getD]
    · rw [← ih (by omega)]
      unfold ix
      rw [List.getD_eq_getElem?_getD, List.getElem?_append_left (by omega), List.getD_eq_getElem?_getD]
theorem shl_byte (p : UInt8) (k : Nat) (hk : k ≤ 24) : (shl32 p.toUInt32 k).toNat = p.toNat * 2 ^ k := by
  unfold shl32
  rw [if_pos (by omega)]
  have e : (UInt32.ofNat k).toNat % 32 = k := by simp; omega
  have hp := p.toNat_lt
  have h2 : p.toNat * 2 ^ k < 2 ^ 32 := by
    have h3 : 2 ^ k ≤ 2 ^ 24 := Nat.pow_le_pow_right (by omega) hk
    have h4 : p.toNat * 2 ^ k ≤ 255 * 2 ^ 24 := Nat.mul_le_mul (by omega) h3
    omega
  rw [UInt32.toNat_shiftLeft, e, Nat.shiftLeft_eq, UInt8.toNat_toUInt32, Nat.mod_eq_of_lt h2]
theorem be4_word (b : List UInt8) (o : Nat) : 16777216 * (ix b o).toUInt32 + 65536 * (ix b (o + 1)).toUInt32 + 256 * (ix b (o + 2)).toUInt32 + (ix b (o + 3)).toUInt32 = word4 b o := by
  rw [word4_eq]
  generalize ix b o = p
  generalize ix b (o + 1) = q
  generalize ix b (o + 2) = r
  generalize ix b (o + 3) = t
  have hp := p.toNat_lt
  have hq := q.toNat_lt
  have hr := r.toNat_lt
  have ht := t.toNat_lt
  apply UInt32.toNat_inj.1
  rw [UInt32.toNat_or, UInt32.toNat_or, UInt32.toNat_or, shl_byte p 24 (by omega), shl_byte q 16 (by omega), shl_byte r 8 (by omega), UInt8.toNat_toUInt32]
  rw [nat_join 24 (p.toNat * 2 ^ 24) _ (by omega) (by omega), nat_join 16 _ (r.toNat * 2 ^ 8) (by omega) (by omega), nat_join 8 _ t.toNat (by omega) (by omega)]
  simp only [UInt32.toNat_add, UInt32.toNat_mul, UInt8.toNat_toUInt32]
  have e1 : (16777216 : UInt32).toNat = 16777216 := rfl
  have e2 : (65536 : UInt32).toNat = 65536 := rfl
  have e3 : (256 : UInt32).toNat = 256 := rfl
  rw [e1, e2, e3]
  omega
theorem word4_all (x : UInt64) (s : List UInt8) (q i j : Nat) (hi : i < q) (hj : j < 8) : word4 (allTo x s q) (4 * (8 * i + j)) = word4 (prgBlk x s i) (4 * j) := by
  rw [word4_eq, word4_eq]
  rw [show 4 * (8 * i + j) = 32 * i + 4 * j from by omega, show 32 * i + 4 * j + 1 = 32 * i + (4 * j + 1) from by omega, show 32 * i + 4 * j + 2 = 32 * i + (4 * j + 2) from by omega, show 32 * i + 4 * j + 3 = 32 * i + (4 * j + 3) from by omega]
  rw [allTo_ix x s q i _ hi (by omega), allTo_ix x s q i _ hi (by omega), allTo_ix x s q i _ hi (by omega), allTo_ix x s q i _ hi (by omega)]
theorem wTo_step (x : UInt64) (s : List UInt8) (q k : Nat) (hk : k < 8 * q) : wTo x s (k + 1) = wTo x s k ++ [word4 (allTo x s q) (4 * k)] := by
  have h := word4_all x s q (k / 8) (k % 8) (by omega) (by omega)
  rw [show 8 * (k / 8) + k % 8 = k from by omega] at h
  rw [h]
  exact wTo_next x s k
attribute [local irreducible] allTo word4
set_option maxRecDepth 100000 in
set_option maxHeartbeats 1000000 in
theorem refWords7_any (x : UInt64) (s : ByteArray) (hs : s.size ≤ 1000) (n : Int) (w : World) :
    Calls Tryd.prog 38 #[vU64 x, .string s, .int .i64 n] w fun e w' => ∃ v, e = .returned (.tuple #[v, .bool (wOk s n 32)]) ∧ Own w' w.heap.size 70 v ((wOut x s n).map vU32) ∧ Below w.heap.size w w' := by
  refine calls_own2 (n := 80) Tryd.func38 rfl Tryd.ntmps38 [.x (.a (.v (vU64 x))), .x (.a (.v (.string s))), .x (.a (.v (.int .i64 n)))] (by simp) 70 (.u32 (wOut x s n)) (.bool (wOk s n 32)) (fun _ => rfl) ?_
  simp only [push_cast, ↓Int.toNat_natCast, ↓Int.cast_ofNat_Int, Int.cast_ofNat_Int, ↓reduceIte, reduceCtorEq, Nat.reduceEqDiff, Nat.reduceLT, Nat.reduceLeDiff, Nat.reduceAdd, Nat.reduceSub, Nat.reduceMul, Int.reduceNeg, Int.reduceLE, Int.reduceLT, Int.reduceToNat, Int.reduceAdd, Int.reduceSub, Int.reduceMul, Int.reduceEq]
  (repeat (refine And.intro (by first | omega | decide) ?_))
  refine callG_v rfl cb73 rfl (labelOK s hs) (dOk_lt rfl) ?_
  cases hl : labOk s
  · have hb := wOk_lab (n := n) (m := 32) hl
    simp only [wOut_no hb, hb, undef, ownT2, ownT, push_cast, ↓Int.toNat_natCast, ↓Int.cast_ofNat_Int, Int.cast_ofNat_Int, ↓reduceIte, reduceCtorEq, Nat.reduceEqDiff, Nat.reduceLT, Nat.reduceLeDiff, Nat.reduceAdd, Nat.reduceSub, Nat.reduceMul, Int.reduceNeg, Int.reduceLE, Int.reduceLT, Int.reduceToNat, Int.reduceAdd, Int.reduceSub, Int.reduceMul, Int.reduceEq]
  by_cases h0 : n < 0
  · have hb := wOk_lo (s := s) (m := 32) h0
    simp only [h0, wOut_no hb, hb, undef, ownT2, ownT, push_cast, ↓Int.toNat_natCast, ↓Int.cast_ofNat_Int, Int.cast_ofNat_Int, ↓reduceIte, reduceCtorEq, Nat.reduceEqDiff, Nat.reduceLT, Nat.reduceLeDiff, Nat.reduceAdd, Nat.reduceSub, Nat.reduceMul, Int.reduceNeg, Int.reduceLE, Int.reduceLT, Int.reduceToNat, Int.reduceAdd, Int.reduceSub, Int.reduceMul, Int.reduceEq]
  by_cases h1 : 32 < n
  · have hb := wOk_hi (s := s) h1
    simp only [h0, h1, wOut_no hb, hb, undef, ownT2, ownT, push_cast, ↓Int.toNat_natCast, ↓Int.cast_ofNat_Int, Int.cast_ofNat_Int, ↓reduceIte, reduceCtorEq, Nat.reduceEqDiff, Nat.reduceLT, Nat.reduceLeDiff, Nat.reduceAdd, Nat.reduceSub, Nat.reduceMul, Int.reduceNeg, Int.reduceLE, Int.reduceLT, Int.reduceToNat, Int.reduceAdd, Int.reduceSub, Int.reduceMul, Int.reduceEq]
  have hb := wOk_yes hl h0 h1
  rw [wOut_yes hb, hb]
  obtain ⟨m, rfl⟩ := Int.eq_ofNat_of_zero_le (show 0 ≤ n by omega)
  have hm : m ≤ 32 := by omega
  simp only [h0, h1, undef, push_cast, ↓Int.toNat_natCast, ↓Int.cast_ofNat_Int, Int.cast_ofNat_Int, ↓reduceIte, reduceCtorEq, Nat.reduceEqDiff, Nat.reduceLT, Nat.reduceLeDiff, Nat.reduceAdd, Nat.reduceSub, Nat.reduceMul, Int.reduceNeg, Int.reduceLE, Int.reduceLT, Int.reduceToNat, Int.reduceAdd, Int.reduceSub, Int.reduceMul, Int.reduceEq]
  (repeat (refine And.intro (by first | omega | decide) ?_))
  refine loop_ghost 8 5 (.u8 []) rfl rfl trivial (by simp only [push_cast, ↓Int.toNat_natCast, ↓Int.cast_ofNat_Int, Int.cast_ofNat_Int, ↓reduceIte, reduceCtorEq, Nat.reduceEqDiff, Nat.reduceLT, Nat.reduceLeDiff, Nat.reduceAdd, Nat.reduceSub, Nat.reduceMul, Int.reduceNeg, Int.reduceLE, Int.reduceLT, Int.reduceToNat, Int.reduceAdd, Int.reduceSub, Int.reduceMul, Int.reduceEq]) ?_
  refine loop_rule (ι := Nat) (fun i => ⟨[(0, .x (.a (.v (vU64 x)))), (1, .x (.a (.v (.string s)))), (2, .x (.a (.v (.int .i64 m)))), (8, .x (.a (.o 0))), (9, .x (.a (.v (.int .i64 i))))], [.own 5 (.u8 (allTo x s.data.toList i))]⟩)
    (fun i => 8 * i < m + 8) (fun i => 10 - i) 0 [0] (by omega) ?_ ?_
  · simp only [allTo_zero, push_cast, ↓Int.toNat_natCast, ↓Int.cast_ofNat_Int, Int.cast_ofNat_Int, ↓reduceIte, reduceCtorEq, Nat.reduceEqDiff, Nat.reduceLT, Nat.reduceLeDiff, Nat.reduceAdd, Nat.reduceSub, Nat.reduceMul, Int.reduceNeg, Int.reduceLE, Int.reduceLT, Int.reduceToNat, Int.reduceAdd, Int.reduceSub, Int.reduceMul, Int.reduceEq]
  · intro i hi
    have hal := allTo_length x s.data.toList i
    by_cases h : 32 * (i : Int) < 4 * (m : Int)
    · have hbl := prgBlk_length x s.data.toList i
      simp only [h, hal, undef, push_cast, ↓Int.toNat_natCast, ↓Int.cast_ofNat_Int, Int.cast_ofNat_Int, ↓reduceIte, reduceCtorEq, Nat.reduceEqDiff, Nat.reduceLT, Nat.reduceLeDiff, Nat.reduceAdd, Nat.reduceSub, Nat.reduceMul, Int.reduceNeg, Int.reduceLE, Int.reduceLT, Int.reduceToNat, Int.reduceAdd, Int.reduceSub, Int.reduceMul, Int.reduceEq]
      (repeat (refine And.intro (by first | omega | decide) ?_))
      refine callG_v rfl cb74 rfl (refBlock7OK x s hs i (by omega)) (dOk_lt rfl) ?_
      simp only [h, hal, hbl, undef, push_cast, ↓Int.toNat_natCast, ↓Int.cast_ofNat_Int, Int.cast_ofNat_Int, ↓reduceIte, reduceCtorEq, Nat.reduceEqDiff, Nat.reduceLT, Nat.reduceLeDiff, Nat.reduceAdd, Nat.reduceSub, Nat.reduceMul, Int.reduceNeg, Int.reduceLE, Int.reduceLT, Int.reduceToNat, Int.reduceAdd, Int.reduceSub, Int.reduceMul, Int.reduceEq]
      (repeat (refine And.intro (by first | omega | decide) ?_))
      refine loopK_normal (i + 1) [2] (by omega) (by omega) ?_
      simp only [allTo_succ, push_cast, ↓Int.toNat_natCast, ↓Int.cast_ofNat_Int, Int.cast_ofNat_Int, ↓reduceIte, reduceCtorEq, Nat.reduceEqDiff, Nat.reduceLT, Nat.reduceLeDiff, Nat.reduceAdd, Nat.reduceSub, Nat.reduceMul, Int.reduceNeg, Int.reduceLE, Int.reduceLT, Int.reduceToNat, Int.reduceAdd, Int.reduceSub, Int.reduceMul, Int.reduceEq]
    · simp only [h, undef, push_cast, ↓Int.toNat_natCast, ↓Int.cast_ofNat_Int, Int.cast_ofNat_Int, ↓reduceIte, reduceCtorEq, Nat.reduceEqDiff, Nat.reduceLT, Nat.reduceLeDiff, Nat.reduceAdd, Nat.reduceSub, Nat.reduceMul, Int.reduceNeg, Int.reduceLE, Int.reduceLT, Int.reduceToNat, Int.reduceAdd, Int.reduceSub, Int.reduceMul, Int.reduceEq]
      (repeat (refine And.intro (by first | omega | decide) ?_))
      refine loop_ghost 11 70 (.u32 []) rfl rfl trivial (by simp only [push_cast, ↓Int.toNat_natCast, ↓Int.cast_ofNat_Int, Int.cast_ofNat_Int, ↓reduceIte, reduceCtorEq, Nat.reduceEqDiff, Nat.reduceLT, Nat.reduceLeDiff, Nat.reduceAdd, Nat.reduceSub, Nat.reduceMul, Int.reduceNeg, Int.reduceLE, Int.reduceLT, Int.reduceToNat, Int.reduceAdd, Int.reduceSub, Int.reduceMul, Int.reduceEq]) ?_
      refine loop_rule (ι := Nat) (fun k => ⟨[(2, .x (.a (.v (.int .i64 m)))), (8, .x (.a (.o 0))), (11, .x (.a (.o 1))), (12, .x (.a (.v (.int .i64 k))))], [.own 5 (.u8 (allTo x s.data.toList i)), .own 70 (.u32 (wTo x s.data.toList k))]⟩)
        (fun k => k ≤ m) (fun k => m - k) 0 [0, 1] (by omega) ?_ ?_
      · simp only [wTo_zero, push_cast, ↓Int.toNat_natCast, ↓Int.cast_ofNat_Int, Int.cast_ofNat_Int, ↓reduceIte, reduceCtorEq, Nat.reduceEqDiff, Nat.reduceLT, Nat.reduceLeDiff, Nat.reduceAdd, Nat.reduceSub, Nat.reduceMul, Int.reduceNeg, Int.reduceLE, Int.reduceLT, Int.reduceToNat, Int.reduceAdd, Int.reduceSub, Int.reduceMul, Int.reduceEq]
      · intro k hkm
        have hwl := wTo_length x s.data.toList k
        by_cases hlt : (k : Int) < m
        · have t0 : (4 * (k : Int)).toNat = 4 * k := by omega
          have t1 : (4 * (k : Int) + 1).toNat = 4 * k + 1 := by omega
          have t2 : (4 * (k : Int) + 2).toNat = 4 * k + 2 := by omega
          have t3 : (4 * (k : Int) + 3).toNat = 4 * k + 3 := by omega
          simp only [hlt, undef, push_cast, ↓Int.toNat_natCast, ↓Int.cast_ofNat_Int, Int.cast_ofNat_Int, ↓reduceIte, reduceCtorEq, Nat.reduceEqDiff, Nat.reduceLT, Nat.reduceLeDiff, Nat.reduceAdd, Nat.reduceSub, Nat.reduceMul, Int.reduceNeg, Int.reduceLE, Int.reduceLT, Int.reduceToNat, Int.reduceAdd, Int.reduceSub, Int.reduceMul, Int.reduceEq]
          (repeat (refine And.intro (by first | omega | decide) ?_))
          refine drawT_rule 35 [(0, true), (1, true), (2, true), (3, true), (4, true), (5, true), (6, true), (7, true), (8, true), (9, true), (10, true), (11, true), (12, true), (13, true), (14, true), (15, true), (16, true), (17, true), (18, true), (19, true), (20, true), (21, true), (22, true), (23, true), (24, true), (25, true), (26, true), (27, true), (28, true), (29, true), (30, true), (31, true), (32, true), (33, true), (34, false)] (by kernel_rfl) (by kernel_rfl) ?_
          simp only [t0, t1, t2, t3, hal, hwl, undef, push_cast, ↓Int.toNat_natCast, ↓Int.cast_ofNat_Int, Int.cast_ofNat_Int, ↓reduceIte, reduceCtorEq, Nat.reduceEqDiff, Nat.reduceLT, Nat.reduceLeDiff, Nat.reduceAdd, Nat.reduceSub, Nat.reduceMul, Int.reduceNeg, Int.reduceLE, Int.reduceLT, Int.reduceToNat, Int.reduceAdd, Int.reduceSub, Int.reduceMul, Int.reduceEq]
          (repeat (refine And.intro (by first | omega | decide) ?_))
          refine loopK_normal (k + 1) [0, 3] (by omega) (by omega) ?_
          simp only [wTo_step x s.data.toList i k (by omega), be4_word, push_cast, ↓Int.toNat_natCast, ↓Int.cast_ofNat_Int, Int.cast_ofNat_Int, ↓reduceIte, reduceCtorEq, Nat.reduceEqDiff, Nat.reduceLT, Nat.reduceLeDiff, Nat.reduceAdd, Nat.reduceSub, Nat.reduceMul, Int.reduceNeg, Int.reduceLE, Int.reduceLT, Int.reduceToNat, Int.reduceAdd, Int.reduceSub, Int.reduceMul, Int.reduceEq]
          all_goals omega
        · have e : k = m := by omega
          subst e
          simp only [hlt, undef, ownT2, ownT, push_cast, ↓Int.toNat_natCast, ↓Int.cast_ofNat_Int, Int.cast_ofNat_Int, ↓reduceIte, reduceCtorEq, Nat.reduceEqDiff, Nat.reduceLT, Nat.reduceLeDiff, Nat.reduceAdd, Nat.reduceSub, Nat.reduceMul, Int.reduceNeg, Int.reduceLE, Int.reduceLT, Int.reduceToNat, Int.reduceAdd, Int.reduceSub, Int.reduceMul, Int.reduceEq]
end Go.Proofs.YtkchdhkpjnnliaaDoor
