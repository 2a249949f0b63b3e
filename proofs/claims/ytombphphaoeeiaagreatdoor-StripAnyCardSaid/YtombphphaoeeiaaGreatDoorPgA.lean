import Derived.Test.YtombphphaoeeiaaGreatDoorTy
import Derived.Laws.RangeString
import Derived.Laws.RangeAny
import Derived.Test.YtombphphaoeeiaaGreatDoorShA
import Derived.Test.YtombphphaoeeiaaGreatDoorMac0
import Derived.Test.YtombphphaoeeiaaGreatDoorMac1
/- PgA: Pg1, Pg2, Pg3, Pg4, joined. -/
/- Small functions: a number as one of the field; is a text a label; are two rows the same. -/
namespace Go.Proofs.YtombphphaoeeiaaGreatDoor
open Go.RowKit
set_option linter.unusedSimpArgs false
def fpP : UInt64 := 2305843009213693951
set_option maxRecDepth 100000 in
theorem fpOf_any (v : UInt64) (w : World) : Calls Tryz.prog 63 #[vU64 v] w fun e w' => e = .returned (vU64 (v % fpP)) ∧ Below w.heap.size w w' := by
  refine calls_v (n := 5) Tryz.func63 rfl Tryz.ntmps63 [.x (.a (.v (vU64 v)))] (by simp) (.x (.a (.v (vU64 (v % fpP))))) (fun _ => rfl) ?_
  simp only [push_cast, ↓reduceIte, reduceCtorEq, Nat.reduceLT]
  exact ⟨by decide, rfl⟩
/-! ### Labels -/
def chB (x : UInt8) : Bool := decide (32 ≤ x) && decide (x ≤ 126)
def labTo (s : ByteArray) : Nat → Bool
  | 0 => true
  | k + 1 => labTo s k && chB (sAt s k)
theorem labTo_succ (s : ByteArray) (k : Nat) : labTo s (k + 1) = (labTo s k && chB (sAt s k)) := rfl
theorem labTo_bad (s : ByteArray) (k m : Nat) (h : labTo s k = false) (hm : k ≤ m) : labTo s m = false := by
  induction m with
  | zero =>
    have hk : k = 0 := by omega
    rw [hk] at h
    exact h
  | succ m ih =>
    by_cases he : k = m + 1
    · subst he; exact h
    · rw [labTo_succ, ih (by omega)]; rfl
def labOk (s : ByteArray) : Bool := decide (s.size ≤ 64) && labTo s s.size
theorem labOk_bad {s : ByteArray} {k : Nat} (hk : k < s.size) (h : chB (sAt s k) = false) : labOk s = false := by
  unfold labOk
  rw [labTo_bad s (k + 1) s.size (by rw [labTo_succ, h, Bool.and_false]) (by omega), Bool.and_false]
theorem sAt_get {s : ByteArray} {k : Nat} (h : k < s.size) : s[k]'h = sAt s k := by
  unfold sAt ix
  rw [List.getD_eq_getElem?_getD, List.getElem?_eq_getElem (by simpa using h)]
  simp
  rfl
attribute [local irreducible] labTo
def runeOk (n : Nat) : Bool := decide (32 ≤ n) && decide (n ≤ 126)
theorem decode_ok {s : ByteArray} {k : Nat} (h : k < s.size) (hg : chB (sAt s k) = true) : Utf8.decode s k = ((sAt s k).toNat, 1) := by
  have e := sAt_get h
  have h2 : (s[k]'h).toNat < 128 := by
    rw [e]
    unfold chB at hg
    simp only [Bool.and_eq_true, decide_eq_true_eq] at hg
    have := UInt8.le_iff_toNat_le.1 hg.2
    have h3 : (126 : UInt8).toNat = 126 := rfl
    omega
  rw [Go.decode_ascii s k h h2, e]
theorem decode_bad {s : ByteArray} {k : Nat} (h : k < s.size) (hg : chB (sAt s k) = false) : (Utf8.decode s k).1 < 32 ∨ 126 < (Utf8.decode s k).1 := by
  have e := sAt_get h
  by_cases h2 : (s[k]'h).toNat < 128
  · rw [Go.decode_ascii s k h h2, e]
    unfold chB at hg
    simp only [Bool.and_eq_false_iff, decide_eq_false_iff_not, UInt8.le_iff_toNat_le] at hg
    have h3 : (126 : UInt8).toNat = 126 := rfl
    have h4 : (32 : UInt8).toNat = 32 := rfl
    omega
  · have := (Go.decode_high s k h (by omega)).1
    omega
theorem n8_ch {x : UInt8} (hg : chB x = true) : ¬ ((x.toNat : Int) < 32) ∧ ¬ ((126 : Int) < x.toNat) := by
  unfold chB at hg
  simp only [Bool.and_eq_true, decide_eq_true_eq, UInt8.le_iff_toNat_le] at hg
  have h3 : (126 : UInt8).toNat = 126 := rfl
  have h4 : (32 : UInt8).toNat = 32 := rfl
  omega
set_option maxRecDepth 100000 in
theorem good_any (s : ByteArray) (w : World) : Calls Tryz.prog 45 #[.string s] w fun e w' => e = .returned (.bool (labOk s)) ∧ Below w.heap.size w w' := by
  refine calls_v (n := 19) Tryz.func45 rfl Tryz.ntmps45 [.x (.a (.v (.string s)))] (by simp) (.x (.a (.v (.bool (labOk s))))) (fun _ => rfl) ?_
  simp only [push_cast, ↓reduceIte, reduceCtorEq, Nat.reduceLT]
  by_cases h64 : (64 : Int) < s.size
  · have hb : labOk s = false := by unfold labOk; rw [decide_eq_false (by omega)]; rfl
    simp only [h64, hb, push_cast, ↓reduceIte]
  · simp only [h64, push_cast, ↓reduceIte]
    (repeat (refine And.intro (by first | omega | decide) ?_))
    refine loop_rule (ι := Nat) (fun k => ⟨[(9, .x (.a (.p 0 0)))], [.it s k]⟩) (fun k => k ≤ s.size ∧ labTo s k = true) (fun k => s.size - k) 0 [0] ⟨by omega, by unfold labTo; rfl⟩ ?_ ?_
    · simp only [push_cast, ↓reduceIte, Nat.reduceLT]
    · rintro k ⟨hk, hl⟩
      by_cases h : k < s.size
      · cases hc : chB (sAt s k)
        · have hb := labOk_bad h hc
          rcases decode_bad h hc with hd | hd
          · have hd : ((Utf8.decode s k).1 : Int) < 32 := by omega
            simp only [h, hd, hb, undef, push_cast, ↓reduceIte, Nat.reduceEqDiff, Nat.reduceLT]
          · have hd0 : ¬ ((Utf8.decode s k).1 : Int) < 32 := by omega
            have hd : (126 : Int) < ((Utf8.decode s k).1 : Int) := by omega
            simp only [h, hd, hd0, hb, push_cast, ↓reduceIte, Nat.reduceEqDiff, Nat.reduceLT]
        · have hd := decode_ok h hc
          obtain ⟨h1, h2⟩ := n8_ch hc
          simp only [h, hd, h1, h2, push_cast, ↓reduceIte, Nat.reduceEqDiff, Nat.reduceLT]
          (repeat (refine And.intro (by first | omega | decide) ?_))
          refine loopK_normal (k + 1) [0] ⟨by omega, by rw [labTo_succ, hl, hc]; rfl⟩ (by omega) ?_
          simp only [push_cast, ↓reduceIte, Nat.reduceEqDiff, Nat.reduceLT]
      · have h : k = s.size := by omega
        subst h
        have he : labOk s = true := by unfold labOk; rw [hl, decide_eq_true (by omega)]; rfl
        simp only [he, push_cast, ↓reduceIte, Nat.reduceLT]
end Go.Proofs.YtombphphaoeeiaaGreatDoor
/- The blocks of numbers that come of a seed and a label, by the program and by the document. -/
namespace Go.Proofs.YtombphphaoeeiaaGreatDoor
open Go.RowKit
set_option linter.unusedSimpArgs false
section
variable {w0 : World} {hp : List Res} {sk st : Sv} {key l : List UInt8}
theorem macOKs (h1 : Shows w0 No hp sk (key.map vU8)) (h2 : Shows w0 No hp st (l.map vU8)) (hm : key.length ≤ 80000) (hm2 : l.length ≤ 80000) (hk : LaidK 1 w0) :
    CallOK Tryz.prog w0 No 67 [sk, st] hp (.x (.a8 (macOf key l))) hp := callOK_v fun γ w hS => by
  obtain ⟨A, c, e1, b1, r1⟩ := h1 γ w hS
  obtain ⟨A2, c2, e2, b2, r2⟩ := h2 γ w hS
  rw [List.length_map] at e1 b1 e2
  show Calls _ _ #[sk.val γ, st.val γ] w _
  rw [e1, e2]
  exact macOf_any key A c l A2 c2 w r1 (by omega) b1 r2 (by omega) (laid_later hk hS)
end
theorem u8_ofInt (n : Nat) : UInt8.ofInt (n : Int) = UInt8.ofNat n := by
  rw [← UInt8.toNat_inj]
  unfold UInt8.ofInt
  simp
  omega
theorem u8_shr (n k : Nat) : UInt8.ofInt ((n : Int) / 2 ^ k) = UInt8.ofNat (n / 2 ^ k) := by
  have e : ((n : Int) / 2 ^ k) = ((n / 2 ^ k : Nat) : Int) := by push_cast
  rw [e, u8_ofInt]
/-- What a block is the sum of. -/
def blkT (s : List UInt8) (i : Nat) : List UInt8 := s ++ [0, UInt8.ofNat (i / 2 ^ 24), UInt8.ofNat (i / 2 ^ 16), UInt8.ofNat (i / 2 ^ 8), UInt8.ofNat i]
def prgBlk (x : UInt64) (s : List UInt8) (i : Nat) : List UInt8 := macOf (beTo x 8) (blkT s i)
def keyTo (x : UInt64) : Nat → List UInt8
  | 0 => List.replicate 8 0
  | k + 1 => (keyTo x k).set k (shr64 x (56 - 8 * k)).toUInt8
theorem keyTo_zero (x : UInt64) : keyTo x 0 = List.replicate 8 0 := rfl
theorem keyTo_succ (x : UInt64) (k : Nat) : keyTo x (k + 1) = (keyTo x k).set k (shr64 x (56 - 8 * k)).toUInt8 := rfl
theorem keyTo_length (x : UInt64) (k : Nat) : (keyTo x k).length = 8 := by
  induction k with
  | zero => simp [keyTo]
  | succ k ih => rw [keyTo_succ, List.length_set, ih]
theorem keyTo_all (x : UInt64) : keyTo x 8 = beTo x 8 := rfl
theorem prgBlk_length (x : UInt64) (s : List UInt8) (i : Nat) : (prgBlk x s i).length = 32 := macOf_length _ _
attribute [local irreducible] macOf keyTo beTo
set_option maxRecDepth 100000 in
theorem block7_any (x : UInt64) (s : ByteArray) (hs : s.size ≤ 1000) (i : Nat) (w : World) (hk : LaidK 1 w) :
    Calls Tryz.prog 46 #[vU64 x, .string s, .int .i64 i] w fun e w' => e = .returned (.agg (arr8 (prgBlk x s.data.toList i))) ∧ Below w.heap.size w w' := by
  refine calls_v (n := 40) Tryz.func46 rfl Tryz.ntmps46 [.x (.a (.v (vU64 x))), .x (.a (.v (.string s))), .x (.a (.v (.int .i64 i)))] (by simp) (.x (.a8 (prgBlk x s.data.toList i))) (fun _ => rfl) ?_
  simp only [push_cast, ↓reduceIte, Nat.reduceLT, Nat.reduceAdd]
  (repeat (refine And.intro (by first | omega | decide) ?_))
  refine loop_rule (ι := Nat) (fun k => ⟨[(0, .x (.a (.v (vU64 x)))), (1, .x (.a (.v (.string s)))), (2, .x (.a (.v (.int .i64 i)))), (6, .x (.a (.p 0 0))), (7, .x (.a (.p 1 0))), (10, .x (.a (.v (.int .i64 k))))],
    [.blk 102 (.u8 (List.replicate 32 0)), .blk 130 (.u8 (keyTo x k))]⟩) (fun k => k ≤ 8) (fun k => 8 - k) 0 [0, 1] (by omega) ?_ ?_
  · simp only [keyTo_zero, push_cast, ↓Int.cast_ofNat_Int, Int.cast_ofNat_Int, ↓reduceIte, reduceCtorEq, Nat.reduceEqDiff, Nat.reduceLT, Nat.reduceAdd]
  · intro k hk8
    have hkl := keyTo_length x k
    by_cases hlt : (k : Int) < 8
    · have h : k < 8 := by omega
      have t0 : (56 - 8 * (k : Int)).toNat = 56 - 8 * k := by omega
      simp only [hlt, hkl, t0, undef, push_cast, ↓Int.toNat_natCast, ↓Int.cast_ofNat_Int, Int.cast_ofNat_Int, ↓reduceIte, reduceCtorEq, Nat.reduceEqDiff, Nat.reduceLT, Nat.reduceAdd, Int.reduceNeg]
      (repeat (refine And.intro (by first | omega | decide) ?_))
      refine loopK_normal (k + 1) [0, 1] (by omega) (by omega) ?_
      simp only [keyTo_succ, push_cast, ↓reduceIte, reduceCtorEq, Nat.reduceEqDiff, Nat.reduceLT, Nat.reduceAdd]
    · have h : k = 8 := by omega
      subst h
      have hbl := prgBlk_length x s.data.toList i
      have hs2 : s.data.toList.length = s.size := by simp
      simp only [hs2, u8_shr, u8_ofInt, push_cast, ↓Int.cast_ofNat_Int, Int.cast_ofNat_Int, ↓reduceIte, reduceCtorEq, Nat.reduceEqDiff, Nat.reduceLT, Nat.reduceLeDiff, Nat.reduceAdd, Nat.reduceSub, Int.reduceLE, Int.reduceLT, Int.reduceToNat]
      (repeat (refine And.intro (by first | omega | decide) ?_))
      refine callG_v rfl cb67 rfl (macOKs (key := beTo x 8) (l := blkT s.data.toList i) (shows_blk_all (k := 1) (c := .u8 (keyTo x 8)) rfl (fun _ => by rw [← keyTo_all]; rfl) 8 8 (by rw [List.length_map, beTo_length]) (by omega)) (shows_str rfl (fun _ => rfl)) (by rw [beTo_length]; omega) (by simp [blkT]; omega) hk) (dOk_lt rfl) ?_
      have hb2 : (macOf (beTo x 8) (blkT s.data.toList i)).length = 32 := hbl
      simp only [hb2, push_cast, ↓reduceIte, reduceCtorEq, Nat.reduceEqDiff, Nat.reduceLT, Nat.reduceAdd]
      rfl
theorem u64n (n : Nat) (h : n < 18446744073709551616) : (UInt64.ofNat n).toNat = n := by rw [UInt64.toNat_ofNat']; exact Nat.mod_eq_of_lt h
def pwTo : Nat → UInt64
  | 0 => 72057594037927936
  | k + 1 => pwTo k / 256
def refKey (x : UInt64) : Nat → List UInt8
  | 0 => []
  | k + 1 => refKey x k ++ [((x / pwTo k) % 256).toUInt8]
attribute [local irreducible] refKey pwTo
end Go.Proofs.YtombphphaoeeiaaGreatDoor
/- Numbers out of a seed and a label: prg.Words, Num, Child; the document's. -/
namespace Go.Proofs.YtombphphaoeeiaaGreatDoor
open Go.RowKit
set_option linter.unusedSimpArgs false
def word4 (b : List UInt8) (o : Nat) : UInt32 := shl32 (ix b o).toUInt32 24 ||| shl32 (ix b (o + 1)).toUInt32 16 ||| shl32 (ix b (o + 2)).toUInt32 8 ||| (ix b (o + 3)).toUInt32
theorem word4_eq (b : List UInt8) (o : Nat) : word4 b o = shl32 (ix b o).toUInt32 24 ||| shl32 (ix b (o + 1)).toUInt32 16 ||| shl32 (ix b (o + 2)).toUInt32 8 ||| (ix b (o + 3)).toUInt32 := rfl
def wAt (x : UInt64) (s : List UInt8) (i j : Nat) : UInt32 := word4 (prgBlk x s i) (4 * j)
def wTo (x : UInt64) (s : List UInt8) : Nat → List UInt32
  | 0 => []
  | k + 1 => wTo x s k ++ [wAt x s (k / 8) (k % 8)]
theorem wTo_zero (x : UInt64) (s : List UInt8) : wTo x s 0 = [] := rfl
theorem wTo_succ (x : UInt64) (s : List UInt8) (i j : Nat) (hj : j < 8) : wTo x s (8 * i + (j + 1)) = wTo x s (8 * i + j) ++ [word4 (prgBlk x s i) (4 * j)] := by
  show wTo x s (8 * i + j) ++ [wAt x s ((8 * i + j) / 8) ((8 * i + j) % 8)] = _
  rw [show (8 * i + j) / 8 = i from by omega, show (8 * i + j) % 8 = j from by omega]
  rfl
theorem wTo_length (x : UInt64) (s : List UInt8) (k : Nat) : (wTo x s k).length = k := by
  induction k with
  | zero => rfl
  | succ k ih => simp [wTo, ih]
def wOk (s : ByteArray) (n m : Int) : Bool := labOk s && decide (0 ≤ n ∧ n ≤ m)
theorem wOk_lab {s : ByteArray} {n m : Int} (h : labOk s = false) : wOk s n m = false := by unfold wOk; rw [h]; rfl
theorem wOk_lo {s : ByteArray} {n m : Int} (h : n < 0) : wOk s n m = false := by unfold wOk; rw [decide_eq_false (by omega), Bool.and_false]
theorem wOk_hi {s : ByteArray} {n m : Int} (h : m < n) : wOk s n m = false := by unfold wOk; rw [decide_eq_false (by omega), Bool.and_false]
theorem wOk_yes {s : ByteArray} {n m : Int} (h : labOk s = true) (h0 : ¬ n < 0) (h1 : ¬ m < n) : wOk s n m = true := by unfold wOk; rw [h, decide_eq_true (by omega)]; rfl
theorem labOk_size {s : ByteArray} (h : labOk s = true) : s.size ≤ 64 := by unfold labOk at h; simp only [Bool.and_eq_true, decide_eq_true_eq] at h; exact h.1
def errV (n : Int) : Value := .iface 63 (.int .i64 n)
def wErr (s : ByteArray) (n m : Int) : Value := if wOk s n m = true then .nilIface else errV 1
def wOut (x : UInt64) (s : ByteArray) (n : Int) : List UInt32 := if wOk s n 32 = true then wTo x s.data.toList n.toNat else []
theorem wOut_no {x : UInt64} {s : ByteArray} {n : Int} (h : wOk s n 32 = false) : wOut x s n = [] := by unfold wOut; rw [h]; rfl
theorem wOut_yes {x : UInt64} {s : ByteArray} {n : Int} (h : wOk s n 32 = true) : wOut x s n = wTo x s.data.toList n.toNat := by unfold wOut; rw [h]; rfl
theorem wErr_no {s : ByteArray} {n m : Int} (h : wOk s n m = false) : wErr s n m = .iface 63 (.int .i64 1) := by unfold wErr; rw [h]; rfl
theorem wErr_yes {s : ByteArray} {n m : Int} (h : wOk s n m = true) : wErr s n m = .nilIface := by unfold wErr; rw [h]; rfl
section
variable {w0 : World} {ow : Nat → Prop} {hp : List Res}
theorem goodOK (s : ByteArray) : CallOK Tryz.prog w0 ow 45 [.x (.a (.v (.string s)))] hp (.x (.a (.v (.bool (labOk s))))) hp := callOK_v fun _ w _ => good_any s w
theorem block7OK (x : UInt64) (s : ByteArray) (hs : s.size ≤ 1000) (i : Nat) (hk : LaidK 1 w0) : CallOK Tryz.prog w0 No 46 [.x (.a (.v (vU64 x))), .x (.a (.v (.string s))), .x (.a (.v (.int .i64 i)))] hp (.x (.a8 (prgBlk x s.data.toList i))) hp := callOK_v fun _ w hS => block7_any x s hs i w (laid_later hk hS)
end
attribute [local irreducible] prgBlk wTo labOk
set_option maxRecDepth 100000 in
set_option maxHeartbeats 1000000 in
theorem words7_any (x : UInt64) (s : ByteArray) (n : Int) (w : World) (hk : LaidK 1 w) :
    Calls Tryz.prog 25 #[vU64 x, .string s, .int .i64 n] w fun e w' => ∃ v, e = .returned (.tuple #[v, wErr s n 32]) ∧ Own w' w.heap.size 23 v ((wOut x s n).map vU32) ∧ Below w.heap.size w w' := by
  refine calls_own2 (n := 75) Tryz.func25 rfl Tryz.ntmps25 [.x (.a (.v (vU64 x))), .x (.a (.v (.string s))), .x (.a (.v (.int .i64 n)))] (by simp) 23 (.u32 (wOut x s n)) (wErr s n 32) (fun _ => rfl) ?_
  simp only [push_cast, ↓reduceIte, reduceCtorEq, Nat.reduceEqDiff, Nat.reduceLT, Nat.reduceAdd]
  (repeat (refine And.intro (by first | omega | decide) ?_))
  refine callG_v rfl cb45 rfl (goodOK s) (dOk_lt rfl) ?_
  cases hl : labOk s
  · have hb := wOk_lab (n := n) (m := 32) hl
    simp only [wOut_no hb, wErr_no hb, undef, ownT2, ownT, push_cast, ↓reduceIte, Nat.reduceEqDiff, Nat.reduceLT]
  by_cases h0 : n < 0
  · have hb := wOk_lo (s := s) (m := 32) h0
    simp only [h0, wOut_no hb, wErr_no hb, undef, ownT2, ownT, push_cast, ↓reduceIte, reduceCtorEq, Nat.reduceEqDiff, Nat.reduceLT]
  by_cases h1 : 32 < n
  · have hb := wOk_hi (s := s) h1
    simp only [h0, h1, wOut_no hb, wErr_no hb, ownT2, ownT, push_cast, ↓reduceIte, reduceCtorEq, Nat.reduceEqDiff, Nat.reduceLT]
  have hb := wOk_yes hl h0 h1
  have hsz := labOk_size hl
  rw [wOut_yes hb, wErr_yes hb]
  obtain ⟨m, rfl⟩ := Int.eq_ofNat_of_zero_le (show 0 ≤ n by omega)
  have hm : m ≤ 32 := by omega
  simp only [h0, h1, push_cast, ↓Int.toNat_natCast, ↓Int.cast_ofNat_Int, Int.cast_ofNat_Int, ↓reduceIte, reduceCtorEq, Nat.reduceEqDiff, Nat.reduceLT, Int.reduceLE]
  (repeat (refine And.intro (by first | omega | decide) ?_))
  refine loop_rule (ι := Nat) (fun i => ⟨[(0, .x (.a (.v (vU64 x)))), (1, .x (.a (.v (.string s)))), (2, .x (.a (.v (.int .i64 m)))), (8, .x (.a (.o 0))), (9, .x (.a (.v (.int .i64 i))))], [.own 23 (.u32 (wTo x s.data.toList (min (8 * i) m)))]⟩)
    (fun i => 8 * i < m + 8) (fun i => 10 - i) 0 [0] (by omega) ?_ ?_
  · simp only [Nat.mul_zero, Nat.zero_min, wTo_zero, List.replicate_zero, push_cast, ↓Int.cast_ofNat_Int, Int.cast_ofNat_Int, ↓reduceIte, reduceCtorEq, Nat.reduceEqDiff, Nat.reduceLT]
  · intro i hi
    have hwl := wTo_length x s.data.toList (min (8 * i) m)
    by_cases h : 8 * i < m
    · have e : min (8 * i) m = 8 * i := by omega
      have hlt : 8 * (i : Int) < m := by omega
      rw [e] at hwl
      have hbl := prgBlk_length x s.data.toList i
      simp only [e, hwl, hlt, push_cast, ↓Int.cast_ofNat_Int, Int.cast_ofNat_Int, ↓reduceIte, reduceCtorEq, Nat.reduceEqDiff, Nat.reduceLT]
      (repeat (refine And.intro (by first | omega | decide) ?_))
      refine callG_v rfl cb46 rfl (block7OK x s (by omega) i hk) (dOk_lt rfl) ?_
      simp only [hbl, undef, push_cast, ↓reduceIte, Nat.reduceEqDiff, Nat.reduceLT, Nat.reduceAdd]
      (repeat (refine And.intro (by first | omega | decide) ?_))
      refine loop_rule (ι := Nat) (fun j => ⟨[(0, .x (.a (.v (vU64 x)))), (1, .x (.a (.v (.string s)))), (2, .x (.a (.v (.int .i64 m)))), (8, .x (.a (.o 0))), (9, .x (.a (.v (.int .i64 i)))), (10, .x (.a (.p 1 0))), (11, .x (.a (.v (.int .i64 (4 * (j : Int))))))], [.own 23 (.u32 (wTo x s.data.toList (8 * i + j))), .blk 102 (.u8 (prgBlk x s.data.toList i))]⟩)
        (fun j => j ≤ 8 ∧ 8 * i + j ≤ m) (fun j => 8 - j) 0 [0, 1] (by omega) ?_ ?_
      · simp only [Nat.add_zero, push_cast, ↓Int.cast_ofNat_Int, Int.cast_ofNat_Int, ↓reduceIte, reduceCtorEq, Nat.reduceEqDiff, Nat.reduceLT, Nat.reduceAdd, Int.reduceMul]
        all_goals omega
      · rintro j ⟨hj, hjm⟩
        have hwl := wTo_length x s.data.toList (8 * i + j)
        by_cases h4 : 4 * (j : Int) < 32
        · by_cases hlm : 8 * (i : Int) + j < m
          · have t0 : (4 * (j : Int)).toNat = 4 * j := by omega
            have t1 : (4 * (j : Int) + 1).toNat = 4 * j + 1 := by omega
            have t2 : (4 * (j : Int) + 2).toNat = 4 * j + 2 := by omega
            have t3 : (4 * (j : Int) + 3).toNat = 4 * j + 3 := by omega
            simp only [h4, hlm, hwl, push_cast, ↓Int.cast_ofNat_Int, Int.cast_ofNat_Int, ↓reduceIte, reduceCtorEq, Nat.reduceEqDiff, Nat.reduceLT, Nat.reduceAdd]
            (repeat (refine And.intro (by first | omega | decide) ?_))
            refine drawT_rule 27 [(0, true), (1, true), (2, true), (3, true), (4, true), (5, true), (6, true), (7, true), (8, true), (9, true), (10, true), (11, true), (12, true), (13, true), (14, true), (15, true), (16, true), (17, true), (18, true), (19, true), (20, true), (21, true), (22, true), (23, true), (24, true), (25, true), (26, false)] (by kernel_rfl) (by kernel_rfl) ?_
            simp only [t0, t1, t2, t3, h4, hwl, hbl, undef, push_cast, ↓Int.cast_ofNat_Int, Int.cast_ofNat_Int, ↓reduceIte, reduceCtorEq, Nat.reduceEqDiff, Nat.reduceLT, Nat.reduceLeDiff, Nat.reduceAdd, Int.reduceNeg, Int.reduceLE, Int.reduceToNat]
            (repeat (refine And.intro (by first | omega | decide) ?_))
            refine loopK_normal (j + 1) [3, 1] ⟨by omega, by omega⟩ (by omega) ?_
            simp only [wTo_succ x s.data.toList i j (by omega), word4_eq, push_cast, ↓reduceIte, reduceCtorEq, Nat.reduceEqDiff, Nat.reduceLT, Nat.reduceAdd]
            all_goals omega
          · have e2 : min (8 * (i + 1)) m = 8 * i + j := by omega
            simp only [h4, hlm, hwl, push_cast, ↓Int.cast_ofNat_Int, Int.cast_ofNat_Int, ↓reduceIte, reduceCtorEq, Nat.reduceEqDiff, Nat.reduceLT, Nat.reduceAdd, Int.reduceNeg]
            (repeat (refine And.intro (by first | omega | decide) ?_))
            refine loopK_normal (i + 1) [0] (by omega) (by omega) ?_
            simp only [e2, push_cast, ↓reduceIte, reduceCtorEq, Nat.reduceEqDiff, Nat.reduceLT]
            all_goals omega
        · have e2 : min (8 * (i + 1)) m = 8 * i + j := by omega
          simp only [h4, undef, push_cast, ↓reduceIte, reduceCtorEq, Nat.reduceEqDiff, Nat.reduceLT, Nat.reduceAdd, Int.reduceNeg]
          (repeat (refine And.intro (by first | omega | decide) ?_))
          refine loopK_normal (i + 1) [0] (by omega) (by omega) ?_
          simp only [e2, push_cast, ↓reduceIte, reduceCtorEq, Nat.reduceEqDiff, Nat.reduceLT]
          all_goals omega
    · have e : min (8 * i) m = m := by omega
      rw [e] at hwl
      simp only [e, hwl, Int.lt_irrefl, ownT2, ownT, push_cast, ↓reduceIte, reduceCtorEq, Nat.reduceEqDiff, Nat.reduceLT]
/-! ### The document's -/
def allTo (x : UInt64) (s : List UInt8) : Nat → List UInt8
  | 0 => []
  | k + 1 => allTo x s k ++ prgBlk x s k
attribute [local irreducible] allTo word4
end Go.Proofs.YtombphphaoeeiaaGreatDoor
/- A number out of a seed, a label and a place; are two rows the same. -/
namespace Go.Proofs.YtombphphaoeeiaaGreatDoor
open Go.RowKit
set_option linter.unusedSimpArgs false
def num8To (b : List UInt8) : Nat → UInt64
  | 0 => 0
  | k + 1 => shl64 (num8To b k) 8 ||| (ix b k).toUInt64
def numV (x : UInt64) (s : List UInt8) (i : Nat) : UInt64 := num8To (prgBlk x s i) 8 % fpP
def numOut (x : UInt64) (s : ByteArray) (n : Int) : UInt64 := if wOk s n 1048576 = true then numV x s.data.toList n.toNat else 0
attribute [local irreducible] num8To
section
variable {w0 : World} {hp : List Res}
theorem words7OK (x : UInt64) (s : ByteArray) (n : Int) (hk : LaidK 1 w0) (hbr : ∀ r ∈ hp, Res.bnd hp.length r) : CallOK Tryz.prog w0 No 25 [.x (.a (.v (vU64 x))), .x (.a (.v (.string s))), .x (.a (.v (.int .i64 n)))] hp (.t [.a (.o hp.length), .a (.v (wErr s n 32))]) (hp ++ [.own 23 (.u32 (wOut x s n))]) :=
  callOK_own2 hbr trivial fun _ w hS => words7_any x s n w (laid_later hk hS)
end
end Go.Proofs.YtombphphaoeeiaaGreatDoor
