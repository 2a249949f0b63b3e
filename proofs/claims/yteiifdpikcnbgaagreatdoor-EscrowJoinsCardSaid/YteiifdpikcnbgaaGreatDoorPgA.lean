/- PgA: Pg1, Pg2, Pg3, Pg4, joined. -/
import Derived.Test.YteiifdpikcnbgaaGreatDoorTy
import Derived.Laws.RangeString
import Derived.Laws.RangeAny
import Derived.Test.YteiifdpikcnbgaaGreatDoorShA
import Derived.Test.YteiifdpikcnbgaaGreatDoorBe
import Derived.Test.YteiifdpikcnbgaaGreatDoorRef8
import Derived.Test.YteiifdpikcnbgaaGreatDoorMac1
/- Small functions: a number as one of the field; is a text a label; are two rows the same. -/
namespace Go.Proofs.YteiifdpikcnbgaaGreatDoor
open Go.RowKit
set_option linter.unusedSimpArgs false
def fpP : UInt64 := 2305843009213693951
set_option maxRecDepth 100000 in
theorem fpOf_any (v : UInt64) (w : World) : Calls Tryz.prog 45 #[vU64 v] w fun e w' => e = .returned (vU64 (v % fpP)) ∧ Below w.heap.size w w' := by
  refine calls_v (n := 5) Tryz.func45 rfl Tryz.ntmps45 [.x (.a (.v (vU64 v)))] (by simp) (.x (.a (.v (vU64 (v % fpP))))) (fun _ => rfl) ?_
  simp only [push_cast, ↓Int.toNat_natCast, ↓Int.cast_ofNat_Int, Int.cast_ofNat_Int, ↓reduceIte, reduceCtorEq, Nat.reduceEqDiff, Nat.reduceLT, Nat.reduceLeDiff, Nat.reduceAdd, Nat.reduceSub, Nat.reduceMul, Int.reduceNeg, Int.reduceLE, Int.reduceLT, Int.reduceToNat, Int.reduceAdd, Int.reduceSub, Int.reduceMul, Int.reduceEq]
  exact ⟨by decide, rfl⟩
/-! ### Labels -/
def chB (x : UInt8) : Bool := decide (32 ≤ x) && decide (x ≤ 126)
def labTo (s : ByteArray) : Nat → Bool
  | 0 => true
  | k + 1 => labTo s k && chB (sAt s k)
theorem labTo_succ (s : ByteArray) (k : Nat) : labTo s (k + 1) = (labTo s k && chB (sAt s k)) := rfl
theorem labTo_bad (s : ByteArray) (k m : Nat) (h : labTo s k = false) (hm : k ≤ m) : labTo s m = false := by
  induction m with
  | zero =>
    have hk : k = 0 := by omega
    rw [hk] at h
    exact h
  | succ m ih =>
    by_cases he : k = m + 1
    · subst he; exact h
    · rw [labTo_succ, ih (by omega)]; rfl
def labOk (s : ByteArray) : Bool := decide (s.size ≤ 64) && labTo s s.size
theorem labOk_bad {s : ByteArray} {k : Nat} (hk : k < s.size) (h : chB (sAt s k) = false) : labOk s = false := by
  unfold labOk
  rw [labTo_bad s (k + 1) s.size (by rw [labTo_succ, h, Bool.and_false]) (by omega), Bool.and_false]
theorem labOk_all {s : ByteArray} (h : labTo s s.size = true) : labOk s = decide ((s.size : Int) ≤ 64) := by
  unfold labOk
  rw [h, Bool.and_true, decide_eq_decide]
  omega
theorem sAt_get {s : ByteArray} {k : Nat} (h : k < s.size) : s[k]'h = sAt s k := by
  unfold sAt ix
  rw [List.getD_eq_getElem?_getD, List.getElem?_eq_getElem (by simpa using h)]
  simp
  rfl
attribute [local irreducible] labTo
def runeOk (n : Nat) : Bool := decide (32 ≤ n) && decide (n ≤ 126)
theorem decode_ok {s : ByteArray} {k : Nat} (h : k < s.size) (hg : chB (sAt s k) = true) : Utf8.decode s k = ((sAt s k).toNat, 1) := by
  have e := sAt_get h
  have h2 : (s[k]'h).toNat < 128 := by
    rw [e]
    unfold chB at hg
    simp only [Bool.and_eq_true, decide_eq_true_eq] at hg
    have := UInt8.le_iff_toNat_le.1 hg.2
    have h3 : (126 : UInt8).toNat = 126 := rfl
    omega
  rw [Go.decode_ascii s k h h2, e]
theorem decode_bad {s : ByteArray} {k : Nat} (h : k < s.size) (hg : chB (sAt s k) = false) : (Utf8.decode s k).1 < 32 ∨ 126 < (Utf8.decode s k).1 := by
  have e := sAt_get h
  by_cases h2 : (s[k]'h).toNat < 128
  · rw [Go.decode_ascii s k h h2, e]
    unfold chB at hg
    simp only [Bool.and_eq_false_iff, decide_eq_false_iff_not, UInt8.le_iff_toNat_le] at hg
    have h3 : (126 : UInt8).toNat = 126 := rfl
    have h4 : (32 : UInt8).toNat = 32 := rfl
    omega
  · have := (Go.decode_high s k h (by omega)).1
    omega
theorem n8_ch {x : UInt8} (hg : chB x = true) : ¬ ((x.toNat : Int) < 32) ∧ ¬ ((126 : Int) < x.toNat) := by
  unfold chB at hg
  simp only [Bool.and_eq_true, decide_eq_true_eq, UInt8.le_iff_toNat_le] at hg
  have h3 : (126 : UInt8).toNat = 126 := rfl
  have h4 : (32 : UInt8).toNat = 32 := rfl
  omega
set_option maxRecDepth 100000 in
theorem good_any (s : ByteArray) (w : World) : Calls Tryz.prog 73 #[.string s] w fun e w' => e = .returned (.bool (labOk s)) ∧ Below w.heap.size w w' := by
  refine calls_v (n := 19) Tryz.func73 rfl Tryz.ntmps73 [.x (.a (.v (.string s)))] (by simp) (.x (.a (.v (.bool (labOk s))))) (fun _ => rfl) ?_
  simp only [push_cast, ↓Int.toNat_natCast, ↓Int.cast_ofNat_Int, Int.cast_ofNat_Int, ↓reduceIte, reduceCtorEq, Nat.reduceEqDiff, Nat.reduceLT, Nat.reduceLeDiff, Nat.reduceAdd, Nat.reduceSub, Nat.reduceMul, Int.reduceNeg, Int.reduceLE, Int.reduceLT, Int.reduceToNat, Int.reduceAdd, Int.reduceSub, Int.reduceMul, Int.reduceEq]
  by_cases h64 : (64 : Int) < s.size
  · have hb : labOk s = false := by unfold labOk; rw [decide_eq_false (by omega)]; rfl
    simp only [h64, hb, push_cast, ↓Int.toNat_natCast, ↓Int.cast_ofNat_Int, Int.cast_ofNat_Int, ↓reduceIte, reduceCtorEq, Nat.reduceEqDiff, Nat.reduceLT, Nat.reduceLeDiff, Nat.reduceAdd, Nat.reduceSub, Nat.reduceMul, Int.reduceNeg, Int.reduceLE, Int.reduceLT, Int.reduceToNat, Int.reduceAdd, Int.reduceSub, Int.reduceMul, Int.reduceEq]
  · simp only [h64, push_cast, ↓Int.toNat_natCast, ↓Int.cast_ofNat_Int, Int.cast_ofNat_Int, ↓reduceIte, reduceCtorEq, Nat.reduceEqDiff, Nat.reduceLT, Nat.reduceLeDiff, Nat.reduceAdd, Nat.reduceSub, Nat.reduceMul, Int.reduceNeg, Int.reduceLE, Int.reduceLT, Int.reduceToNat, Int.reduceAdd, Int.reduceSub, Int.reduceMul, Int.reduceEq]
    (repeat (refine And.intro (by first | omega | decide) ?_))
    refine loop_rule (ι := Nat) (fun k => ⟨[(9, .x (.a (.p 0 0)))], [.it s k]⟩) (fun k => k ≤ s.size ∧ labTo s k = true) (fun k => s.size - k) 0 [0] ⟨by omega, by unfold labTo; rfl⟩ ?_ ?_
    · simp only [push_cast, ↓Int.toNat_natCast, ↓Int.cast_ofNat_Int, Int.cast_ofNat_Int, ↓reduceIte, reduceCtorEq, Nat.reduceEqDiff, Nat.reduceLT, Nat.reduceLeDiff, Nat.reduceAdd, Nat.reduceSub, Nat.reduceMul, Int.reduceNeg, Int.reduceLE, Int.reduceLT, Int.reduceToNat, Int.reduceAdd, Int.reduceSub, Int.reduceMul, Int.reduceEq]
    · rintro k ⟨hk, hl⟩
      by_cases h : k < s.size
      · cases hc : chB (sAt s k)
        · have hb := labOk_bad h hc
          rcases decode_bad h hc with hd | hd
          · have hd : ((Utf8.decode s k).1 : Int) < 32 := by omega
            simp only [h, hd, hb, undef, push_cast, ↓Int.toNat_natCast, ↓Int.cast_ofNat_Int, Int.cast_ofNat_Int, ↓reduceIte, reduceCtorEq, Nat.reduceEqDiff, Nat.reduceLT, Nat.reduceLeDiff, Nat.reduceAdd, Nat.reduceSub, Nat.reduceMul, Int.reduceNeg, Int.reduceLE, Int.reduceLT, Int.reduceToNat, Int.reduceAdd, Int.reduceSub, Int.reduceMul, Int.reduceEq]
          · have hd0 : ¬ ((Utf8.decode s k).1 : Int) < 32 := by omega
            have hd : (126 : Int) < ((Utf8.decode s k).1 : Int) := by omega
            simp only [h, hd, hd0, hb, undef, push_cast, ↓Int.toNat_natCast, ↓Int.cast_ofNat_Int, Int.cast_ofNat_Int, ↓reduceIte, reduceCtorEq, Nat.reduceEqDiff, Nat.reduceLT, Nat.reduceLeDiff, Nat.reduceAdd, Nat.reduceSub, Nat.reduceMul, Int.reduceNeg, Int.reduceLE, Int.reduceLT, Int.reduceToNat, Int.reduceAdd, Int.reduceSub, Int.reduceMul, Int.reduceEq]
        · have hd := decode_ok h hc
          obtain ⟨h1, h2⟩ := n8_ch hc
          simp only [h, hd, h1, h2, undef, push_cast, ↓Int.toNat_natCast, ↓Int.cast_ofNat_Int, Int.cast_ofNat_Int, ↓reduceIte, reduceCtorEq, Nat.reduceEqDiff, Nat.reduceLT, Nat.reduceLeDiff, Nat.reduceAdd, Nat.reduceSub, Nat.reduceMul, Int.reduceNeg, Int.reduceLE, Int.reduceLT, Int.reduceToNat, Int.reduceAdd, Int.reduceSub, Int.reduceMul, Int.reduceEq]
          (repeat (refine And.intro (by first | omega | decide) ?_))
          refine loopK_normal (k + 1) [0] ⟨by omega, by rw [labTo_succ, hl, hc]; rfl⟩ (by omega) ?_
          simp only [push_cast, ↓Int.toNat_natCast, ↓Int.cast_ofNat_Int, Int.cast_ofNat_Int, ↓reduceIte, reduceCtorEq, Nat.reduceEqDiff, Nat.reduceLT, Nat.reduceLeDiff, Nat.reduceAdd, Nat.reduceSub, Nat.reduceMul, Int.reduceNeg, Int.reduceLE, Int.reduceLT, Int.reduceToNat, Int.reduceAdd, Int.reduceSub, Int.reduceMul, Int.reduceEq]
      · have h : k = s.size := by omega
        subst h
        have he : labOk s = true := by unfold labOk; rw [hl, decide_eq_true (by omega)]; rfl
        simp only [he, undef, push_cast, ↓Int.toNat_natCast, ↓Int.cast_ofNat_Int, Int.cast_ofNat_Int, ↓reduceIte, reduceCtorEq, Nat.reduceEqDiff, Nat.reduceLT, Nat.reduceLeDiff, Nat.reduceAdd, Nat.reduceSub, Nat.reduceMul, Int.reduceNeg, Int.reduceLE, Int.reduceLT, Int.reduceToNat, Int.reduceAdd, Int.reduceSub, Int.reduceMul, Int.reduceEq]
end Go.Proofs.YteiifdpikcnbgaaGreatDoor
/- The blocks of numbers that come of a seed and a label, by the program and by the document. -/
namespace Go.Proofs.YteiifdpikcnbgaaGreatDoor
open Go.RowKit
set_option linter.unusedSimpArgs false
section
variable {w0 : World} {hp : List Res} {sk st : Sv} {key l : List UInt8}
theorem macOKs (h1 : Shows w0 No hp sk (key.map vU8)) (h2 : Shows w0 No hp st (l.map vU8)) (hm : key.length ≤ 80000) (hm2 : l.length ≤ 80000) (hk : LaidK 4 w0) :
    CallOK Tryz.prog w0 No 88 [sk, st] hp (.x (.a8 (macOf key l))) hp := callOK_v fun γ w hS => by
  obtain ⟨A, c, e1, b1, r1⟩ := h1 γ w hS
  obtain ⟨A2, c2, e2, b2, r2⟩ := h2 γ w hS
  rw [List.length_map] at e1 b1 e2
  show Calls _ _ #[sk.val γ, st.val γ] w _
  rw [e1, e2]
  exact macOf_any key A c l A2 c2 w r1 (by omega) b1 r2 (by omega) (laid_later hk hS)
end
theorem u8_ofInt (n : Nat) : UInt8.ofInt (n : Int) = UInt8.ofNat n := by
  rw [← UInt8.toNat_inj]
  unfold UInt8.ofInt
  simp
  omega
theorem u8_shr (n k : Nat) : UInt8.ofInt ((n : Int) / 2 ^ k) = UInt8.ofNat (n / 2 ^ k) := by
  have e : ((n : Int) / 2 ^ k) = ((n / 2 ^ k : Nat) : Int) := by push_cast
  rw [e, u8_ofInt]
theorem tdiv_nat (n m : Nat) : (n : Int).tdiv m = ((n / m : Nat) : Int) := by rw [Int.tdiv_eq_ediv_of_nonneg (by omega)]; push_cast
theorem tmod_nat (n m : Nat) : (n : Int).tmod m = ((n % m : Nat) : Int) := by rw [Int.tmod_eq_emod_of_nonneg (by omega)]; push_cast
/-- What a block is the sum of. -/
def blkT (s : List UInt8) (i : Nat) : List UInt8 := s ++ [0, UInt8.ofNat (i / 2 ^ 24), UInt8.ofNat (i / 2 ^ 16), UInt8.ofNat (i / 2 ^ 8), UInt8.ofNat i]
def prgBlk (x : UInt64) (s : List UInt8) (i : Nat) : List UInt8 := macOf (beTo x 8) (blkT s i)
def keyTo (x : UInt64) : Nat → List UInt8
  | 0 => List.replicate 8 0
  | k + 1 => (keyTo x k).set k (shr64 x (56 - 8 * k)).toUInt8
theorem keyTo_zero (x : UInt64) : keyTo x 0 = List.replicate 8 0 := rfl
theorem keyTo_succ (x : UInt64) (k : Nat) : keyTo x (k + 1) = (keyTo x k).set k (shr64 x (56 - 8 * k)).toUInt8 := rfl
theorem keyTo_length (x : UInt64) (k : Nat) : (keyTo x k).length = 8 := by
  induction k with
  | zero => simp [keyTo]
  | succ k ih => rw [keyTo_succ, List.length_set, ih]
theorem keyTo_all (x : UInt64) : keyTo x 8 = beTo x 8 := rfl
theorem prgBlk_length (x : UInt64) (s : List UInt8) (i : Nat) : (prgBlk x s i).length = 32 := macOf_length _ _
theorem beTo_none (x : UInt64) : beTo x 0 = [] := rfl
theorem beTo_next (x : UInt64) (k : Nat) : beTo x (k + 1) = beTo x k ++ [(shr64 x (56 - 8 * k)).toUInt8] := rfl
attribute [local irreducible] macOf keyTo beTo
set_option maxRecDepth 100000 in
theorem block7_any (x : UInt64) (s : ByteArray) (hs : s.size ≤ 1000) (i : Nat) (w : World) (hk : LaidK 4 w) :
    Calls Tryz.prog 74 #[vU64 x, .string s, .int .i64 i] w fun e w' => e = .returned (.agg (arr8 (prgBlk x s.data.toList i))) ∧ Below w.heap.size w w' := by
  refine calls_v (n := 40) Tryz.func74 rfl Tryz.ntmps74 [.x (.a (.v (vU64 x))), .x (.a (.v (.string s))), .x (.a (.v (.int .i64 i)))] (by simp) (.x (.a8 (prgBlk x s.data.toList i))) (fun _ => rfl) ?_
  simp only [push_cast, ↓Int.toNat_natCast, ↓Int.cast_ofNat_Int, Int.cast_ofNat_Int, ↓reduceIte, reduceCtorEq, Nat.reduceEqDiff, Nat.reduceLT, Nat.reduceLeDiff, Nat.reduceAdd, Nat.reduceSub, Nat.reduceMul, Int.reduceNeg, Int.reduceLE, Int.reduceLT, Int.reduceToNat, Int.reduceAdd, Int.reduceSub, Int.reduceMul, Int.reduceEq]
  (repeat (refine And.intro (by first | omega | decide) ?_))
  refine loop_rule (ι := Nat) (fun k => ⟨[(0, .x (.a (.v (vU64 x)))), (1, .x (.a (.v (.string s)))), (2, .x (.a (.v (.int .i64 i)))), (6, .x (.a (.p 0 0))), (7, .x (.a (.p 1 0))), (10, .x (.a (.v (.int .i64 k))))],
    [.blk 142 (.u8 (List.replicate 32 0)), .blk 169 (.u8 (keyTo x k))]⟩) (fun k => k ≤ 8) (fun k => 8 - k) 0 [0, 1] (by omega) ?_ ?_
  · simp only [keyTo_zero, push_cast, ↓Int.toNat_natCast, ↓Int.cast_ofNat_Int, Int.cast_ofNat_Int, ↓reduceIte, reduceCtorEq, Nat.reduceEqDiff, Nat.reduceLT, Nat.reduceLeDiff, Nat.reduceAdd, Nat.reduceSub, Nat.reduceMul, Int.reduceNeg, Int.reduceLE, Int.reduceLT, Int.reduceToNat, Int.reduceAdd, Int.reduceSub, Int.reduceMul, Int.reduceEq]
  · intro k hk8
    have hkl := keyTo_length x k
    by_cases hlt : (k : Int) < 8
    · have h : k < 8 := by omega
      have t0 : (56 - 8 * (k : Int)).toNat = 56 - 8 * k := by omega
      simp only [hlt, hkl, t0, undef, push_cast, ↓Int.toNat_natCast, ↓Int.cast_ofNat_Int, Int.cast_ofNat_Int, ↓reduceIte, reduceCtorEq, Nat.reduceEqDiff, Nat.reduceLT, Nat.reduceLeDiff, Nat.reduceAdd, Nat.reduceSub, Nat.reduceMul, Int.reduceNeg, Int.reduceLE, Int.reduceLT, Int.reduceToNat, Int.reduceAdd, Int.reduceSub, Int.reduceMul, Int.reduceEq]
      (repeat (refine And.intro (by first | omega | decide) ?_))
      refine loopK_normal (k + 1) [0, 1] (by omega) (by omega) ?_
      simp only [keyTo_succ, push_cast, ↓Int.toNat_natCast, ↓Int.cast_ofNat_Int, Int.cast_ofNat_Int, ↓reduceIte, reduceCtorEq, Nat.reduceEqDiff, Nat.reduceLT, Nat.reduceLeDiff, Nat.reduceAdd, Nat.reduceSub, Nat.reduceMul, Int.reduceNeg, Int.reduceLE, Int.reduceLT, Int.reduceToNat, Int.reduceAdd, Int.reduceSub, Int.reduceMul, Int.reduceEq]
    · have h : k = 8 := by omega
      subst h
      have hbl := prgBlk_length x s.data.toList i
      have hs2 : s.data.toList.length = s.size := by simp
      simp only [hlt, hkl, hs2, u8_shr, u8_ofInt, undef, push_cast, ↓Int.toNat_natCast, ↓Int.cast_ofNat_Int, Int.cast_ofNat_Int, ↓reduceIte, reduceCtorEq, Nat.reduceEqDiff, Nat.reduceLT, Nat.reduceLeDiff, Nat.reduceAdd, Nat.reduceSub, Nat.reduceMul, Int.reduceNeg, Int.reduceLE, Int.reduceLT, Int.reduceToNat, Int.reduceAdd, Int.reduceSub, Int.reduceMul, Int.reduceEq]
      (repeat (refine And.intro (by first | omega | decide) ?_))
      refine callG_v rfl cb88 rfl (macOKs (key := beTo x 8) (l := blkT s.data.toList i) (shows_blk_all (k := 1) (c := .u8 (keyTo x 8)) rfl (fun _ => by rw [← keyTo_all]; rfl) 8 8 (by rw [List.length_map, beTo_length]) (by omega)) (shows_str rfl (fun _ => rfl)) (by rw [beTo_length]; omega) (by simp [blkT]; omega) hk) (dOk_lt rfl) ?_
      have hb2 : (macOf (beTo x 8) (blkT s.data.toList i)).length = 32 := hbl
      simp only [hb2, push_cast, ↓Int.toNat_natCast, ↓Int.cast_ofNat_Int, Int.cast_ofNat_Int, ↓reduceIte, reduceCtorEq, Nat.reduceEqDiff, Nat.reduceLT, Nat.reduceLeDiff, Nat.reduceAdd, Nat.reduceSub, Nat.reduceMul, Int.reduceNeg, Int.reduceLE, Int.reduceLT, Int.reduceToNat, Int.reduceAdd, Int.reduceSub, Int.reduceMul, Int.reduceEq]
      rfl
theorem byte_div' (x : UInt64) (n : Nat) (h : n < 64) : ((shr64 x n).toUInt8).toNat = x.toNat / 2 ^ n % 256 := by
  unfold shr64
  rw [if_pos h]
  have e : (UInt64.ofNat n).toNat % 64 = n := by simp; omega
  rw [UInt64.toNat_toUInt8, UInt64.toNat_shiftRight, e, Nat.shiftRight_eq_div_pow]
theorem u64n (n : Nat) (h : n < 18446744073709551616) : (UInt64.ofNat n).toNat = n := by rw [UInt64.toNat_ofNat']; exact Nat.mod_eq_of_lt h
theorem pow_lt (k : Nat) : 256 ^ (7 - k) < 18446744073709551616 := by
  have : 256 ^ (7 - k) ≤ 256 ^ 7 := Nat.pow_le_pow_right (by omega) (by omega)
  have h7 : 256 ^ 7 = 72057594037927936 := by decide
  omega
theorem rkey (x : UInt64) (k : Nat) (hk : k < 8) : ((x / UInt64.ofNat (256 ^ (7 - k))) % 256).toUInt8 = (shr64 x (56 - 8 * k)).toUInt8 := by
  have hp : 256 ^ (7 - k) = 2 ^ (56 - 8 * k) := by rw [show (256 : Nat) = 2 ^ 8 from rfl, ← Nat.pow_mul]; congr 1; omega
  have hlt := pow_lt k
  apply UInt8.toNat_inj.1
  rw [byte_div' x _ (by omega), UInt64.toNat_toUInt8, UInt64.toNat_mod, UInt64.toNat_div, u64n _ hlt, hp]
  show _ % 256 % 256 = _
  omega
def pwTo : Nat → UInt64
  | 0 => 72057594037927936
  | k + 1 => pwTo k / 256
theorem pwTo_succ (k : Nat) : pwTo (k + 1) = pwTo k / 256 := rfl
theorem pwTo_zero : pwTo 0 = 72057594037927936 := rfl
theorem pwTo_eq (k : Nat) (hk : k < 8) : pwTo k = UInt64.ofNat (256 ^ (7 - k)) := by
  induction k with
  | zero => rfl
  | succ k ih =>
    rw [pwTo_succ, ih (by omega)]
    have e : 256 ^ (7 - k) = 256 ^ (7 - (k + 1)) * 256 := by rw [← Nat.pow_succ]; congr 1; omega
    have h1 := pow_lt k
    have h2 := pow_lt (k + 1)
    apply UInt64.toNat_inj.1
    rw [UInt64.toNat_div, u64n _ h1, u64n _ h2, e]
    show _ * 256 / 256 = _
    omega
theorem pwTo_ne (k : Nat) (hk : k < 8) : ¬ pwTo k = 0 := fun h => by
  rw [pwTo_eq k hk] at h
  have h1 := congrArg UInt64.toNat h
  rw [u64n _ (pow_lt k)] at h1
  have := Nat.pow_pos (n := 7 - k) (show 0 < 256 by omega)
  have h0 : (0 : UInt64).toNat = 0 := rfl
  omega
def refKey (x : UInt64) : Nat → List UInt8
  | 0 => []
  | k + 1 => refKey x k ++ [((x / pwTo k) % 256).toUInt8]
theorem refKey_zero (x : UInt64) : refKey x 0 = [] := rfl
theorem refKey_succ (x : UInt64) (k : Nat) : refKey x (k + 1) = refKey x k ++ [((x / pwTo k) % 256).toUInt8] := rfl
theorem refKey_eq (x : UInt64) (k : Nat) (hk : k ≤ 8) : refKey x k = beTo x k := by
  induction k with
  | zero => rw [refKey_zero, beTo_none]
  | succ k ih => rw [refKey_succ, ih (by omega), pwTo_eq k (by omega), rkey x k (by omega), beTo_next]
theorem refKey_length (x : UInt64) (k : Nat) (hk : k ≤ 8) : (refKey x k).length = k := by rw [refKey_eq x k hk, beTo_length]
attribute [local irreducible] refKey pwTo
end Go.Proofs.YteiifdpikcnbgaaGreatDoor
/- Numbers out of a seed and a label: prg.Words, Num, Child; the document's. -/
namespace Go.Proofs.YteiifdpikcnbgaaGreatDoor
open Go.RowKit
set_option linter.unusedSimpArgs false
def word4 (b : List UInt8) (o : Nat) : UInt32 := shl32 (ix b o).toUInt32 24 ||| shl32 (ix b (o + 1)).toUInt32 16 ||| shl32 (ix b (o + 2)).toUInt32 8 ||| (ix b (o + 3)).toUInt32
theorem word4_eq (b : List UInt8) (o : Nat) : word4 b o = shl32 (ix b o).toUInt32 24 ||| shl32 (ix b (o + 1)).toUInt32 16 ||| shl32 (ix b (o + 2)).toUInt32 8 ||| (ix b (o + 3)).toUInt32 := rfl
def wAt (x : UInt64) (s : List UInt8) (i j : Nat) : UInt32 := word4 (prgBlk x s i) (4 * j)
def wTo (x : UInt64) (s : List UInt8) : Nat → List UInt32
  | 0 => []
  | k + 1 => wTo x s k ++ [wAt x s (k / 8) (k % 8)]
theorem wTo_zero (x : UInt64) (s : List UInt8) : wTo x s 0 = [] := rfl
theorem wTo_next (x : UInt64) (s : List UInt8) (k : Nat) : wTo x s (k + 1) = wTo x s k ++ [wAt x s (k / 8) (k % 8)] := rfl
theorem wTo_succ (x : UInt64) (s : List UInt8) (i j : Nat) (hj : j < 8) : wTo x s (8 * i + (j + 1)) = wTo x s (8 * i + j) ++ [word4 (prgBlk x s i) (4 * j)] := by
  show wTo x s (8 * i + j) ++ [wAt x s ((8 * i + j) / 8) ((8 * i + j) % 8)] = _
  rw [show (8 * i + j) / 8 = i from by omega, show (8 * i + j) % 8 = j from by omega]
  rfl
theorem wTo_length (x : UInt64) (s : List UInt8) (k : Nat) : (wTo x s k).length = k := by
  induction k with
  | zero => rfl
  | succ k ih => simp [wTo, ih]
def wOk (s : ByteArray) (n m : Int) : Bool := labOk s && decide (0 ≤ n ∧ n ≤ m)
theorem wOk_lab {s : ByteArray} {n m : Int} (h : labOk s = false) : wOk s n m = false := by unfold wOk; rw [h]; rfl
theorem wOk_lo {s : ByteArray} {n m : Int} (h : n < 0) : wOk s n m = false := by unfold wOk; rw [decide_eq_false (by omega), Bool.and_false]
theorem wOk_hi {s : ByteArray} {n m : Int} (h : m < n) : wOk s n m = false := by unfold wOk; rw [decide_eq_false (by omega), Bool.and_false]
theorem wOk_yes {s : ByteArray} {n m : Int} (h : labOk s = true) (h0 : ¬ n < 0) (h1 : ¬ m < n) : wOk s n m = true := by unfold wOk; rw [h, decide_eq_true (by omega)]; rfl
theorem labOk_size {s : ByteArray} (h : labOk s = true) : s.size ≤ 64 := by unfold labOk at h; simp only [Bool.and_eq_true, decide_eq_true_eq] at h; exact h.1
def errV (n : Int) : Value := .iface 75 (.int .i64 n)
def wErr (s : ByteArray) (n m : Int) : Value := if wOk s n m = true then .nilIface else errV 1
def wOut (x : UInt64) (s : ByteArray) (n : Int) : List UInt32 := if wOk s n 32 = true then wTo x s.data.toList n.toNat else []
theorem wOut_no {x : UInt64} {s : ByteArray} {n : Int} (h : wOk s n 32 = false) : wOut x s n = [] := by unfold wOut; rw [h]; rfl
theorem wOut_yes {x : UInt64} {s : ByteArray} {n : Int} (h : wOk s n 32 = true) : wOut x s n = wTo x s.data.toList n.toNat := by unfold wOut; rw [h]; rfl
theorem wErr_no {s : ByteArray} {n m : Int} (h : wOk s n m = false) : wErr s n m = .iface 75 (.int .i64 1) := by unfold wErr; rw [h]; rfl
theorem wErr_yes {s : ByteArray} {n m : Int} (h : wOk s n m = true) : wErr s n m = .nilIface := by unfold wErr; rw [h]; rfl
section
variable {w0 : World} {ow : Nat → Prop} {hp : List Res}
theorem goodOK (s : ByteArray) : CallOK Tryz.prog w0 ow 73 [.x (.a (.v (.string s)))] hp (.x (.a (.v (.bool (labOk s))))) hp := callOK_v fun _ w _ => good_any s w
theorem fpOfOK (v : UInt64) : CallOK Tryz.prog w0 ow 45 [.x (.a (.v (vU64 v)))] hp (.x (.a (.v (vU64 (v % fpP))))) hp := callOK_v fun _ w _ => fpOf_any v w
theorem block7OK (x : UInt64) (s : ByteArray) (hs : s.size ≤ 1000) (i : Nat) (hk : LaidK 4 w0) : CallOK Tryz.prog w0 No 74 [.x (.a (.v (vU64 x))), .x (.a (.v (.string s))), .x (.a (.v (.int .i64 i)))] hp (.x (.a8 (prgBlk x s.data.toList i))) hp := callOK_v fun _ w hS => block7_any x s hs i w (laid_later hk hS)
end
attribute [local irreducible] prgBlk wTo labOk
set_option maxRecDepth 100000 in
set_option maxHeartbeats 1000000 in
theorem words7_any (x : UInt64) (s : ByteArray) (n : Int) (w : World) (hk : LaidK 4 w) :
    Calls Tryz.prog 53 #[vU64 x, .string s, .int .i64 n] w fun e w' => ∃ v, e = .returned (.tuple #[v, wErr s n 32]) ∧ Own w' w.heap.size 49 v ((wOut x s n).map vU32) ∧ Below w.heap.size w w' := by
  refine calls_own2 (n := 75) Tryz.func53 rfl Tryz.ntmps53 [.x (.a (.v (vU64 x))), .x (.a (.v (.string s))), .x (.a (.v (.int .i64 n)))] (by simp) 49 (.u32 (wOut x s n)) (wErr s n 32) (fun _ => rfl) ?_
  simp only [push_cast, ↓Int.toNat_natCast, ↓Int.cast_ofNat_Int, Int.cast_ofNat_Int, ↓reduceIte, reduceCtorEq, Nat.reduceEqDiff, Nat.reduceLT, Nat.reduceLeDiff, Nat.reduceAdd, Nat.reduceSub, Nat.reduceMul, Int.reduceNeg, Int.reduceLE, Int.reduceLT, Int.reduceToNat, Int.reduceAdd, Int.reduceSub, Int.reduceMul, Int.reduceEq]
  (repeat (refine And.intro (by first | omega | decide) ?_))
  refine callG_v rfl cb73 rfl (goodOK s) (dOk_lt rfl) ?_
  cases hl : labOk s
  · have hb := wOk_lab (n := n) (m := 32) hl
    simp only [wOut_no hb, wErr_no hb, undef, ownT2, ownT, push_cast, ↓Int.toNat_natCast, ↓Int.cast_ofNat_Int, Int.cast_ofNat_Int, ↓reduceIte, reduceCtorEq, Nat.reduceEqDiff, Nat.reduceLT, Nat.reduceLeDiff, Nat.reduceAdd, Nat.reduceSub, Nat.reduceMul, Int.reduceNeg, Int.reduceLE, Int.reduceLT, Int.reduceToNat, Int.reduceAdd, Int.reduceSub, Int.reduceMul, Int.reduceEq]
  by_cases h0 : n < 0
  · have hb := wOk_lo (s := s) (m := 32) h0
    simp only [h0, wOut_no hb, wErr_no hb, undef, ownT2, ownT, push_cast, ↓Int.toNat_natCast, ↓Int.cast_ofNat_Int, Int.cast_ofNat_Int, ↓reduceIte, reduceCtorEq, Nat.reduceEqDiff, Nat.reduceLT, Nat.reduceLeDiff, Nat.reduceAdd, Nat.reduceSub, Nat.reduceMul, Int.reduceNeg, Int.reduceLE, Int.reduceLT, Int.reduceToNat, Int.reduceAdd, Int.reduceSub, Int.reduceMul, Int.reduceEq]
  by_cases h1 : 32 < n
  · have hb := wOk_hi (s := s) h1
    simp only [h0, h1, wOut_no hb, wErr_no hb, undef, ownT2, ownT, push_cast, ↓Int.toNat_natCast, ↓Int.cast_ofNat_Int, Int.cast_ofNat_Int, ↓reduceIte, reduceCtorEq, Nat.reduceEqDiff, Nat.reduceLT, Nat.reduceLeDiff, Nat.reduceAdd, Nat.reduceSub, Nat.reduceMul, Int.reduceNeg, Int.reduceLE, Int.reduceLT, Int.reduceToNat, Int.reduceAdd, Int.reduceSub, Int.reduceMul, Int.reduceEq]
  have hb := wOk_yes hl h0 h1
  have hsz := labOk_size hl
  rw [wOut_yes hb, wErr_yes hb]
  obtain ⟨m, rfl⟩ := Int.eq_ofNat_of_zero_le (show 0 ≤ n by omega)
  have hm : m ≤ 32 := by omega
  simp only [h0, h1, undef, push_cast, ↓Int.toNat_natCast, ↓Int.cast_ofNat_Int, Int.cast_ofNat_Int, ↓reduceIte, reduceCtorEq, Nat.reduceEqDiff, Nat.reduceLT, Nat.reduceLeDiff, Nat.reduceAdd, Nat.reduceSub, Nat.reduceMul, Int.reduceNeg, Int.reduceLE, Int.reduceLT, Int.reduceToNat, Int.reduceAdd, Int.reduceSub, Int.reduceMul, Int.reduceEq]
  (repeat (refine And.intro (by first | omega | decide) ?_))
  refine loop_rule (ι := Nat) (fun i => ⟨[(0, .x (.a (.v (vU64 x)))), (1, .x (.a (.v (.string s)))), (2, .x (.a (.v (.int .i64 m)))), (8, .x (.a (.o 0))), (9, .x (.a (.v (.int .i64 i))))], [.own 49 (.u32 (wTo x s.data.toList (min (8 * i) m)))]⟩)
    (fun i => 8 * i < m + 8) (fun i => 10 - i) 0 [0] (by omega) ?_ ?_
  · simp only [Nat.mul_zero, Nat.zero_min, wTo_zero, List.replicate_zero, push_cast, ↓Int.toNat_natCast, ↓Int.cast_ofNat_Int, Int.cast_ofNat_Int, ↓reduceIte, reduceCtorEq, Nat.reduceEqDiff, Nat.reduceLT, Nat.reduceLeDiff, Nat.reduceAdd, Nat.reduceSub, Nat.reduceMul, Int.reduceNeg, Int.reduceLE, Int.reduceLT, Int.reduceToNat, Int.reduceAdd, Int.reduceSub, Int.reduceMul, Int.reduceEq]
  · intro i hi
    have hwl := wTo_length x s.data.toList (min (8 * i) m)
    by_cases h : 8 * i < m
    · have e : min (8 * i) m = 8 * i := by omega
      have hlt : 8 * (i : Int) < m := by omega
      rw [e] at hwl
      have hbl := prgBlk_length x s.data.toList i
      simp only [e, hwl, hlt, undef, push_cast, ↓Int.toNat_natCast, ↓Int.cast_ofNat_Int, Int.cast_ofNat_Int, ↓reduceIte, reduceCtorEq, Nat.reduceEqDiff, Nat.reduceLT, Nat.reduceLeDiff, Nat.reduceAdd, Nat.reduceSub, Nat.reduceMul, Int.reduceNeg, Int.reduceLE, Int.reduceLT, Int.reduceToNat, Int.reduceAdd, Int.reduceSub, Int.reduceMul, Int.reduceEq]
      (repeat (refine And.intro (by first | omega | decide) ?_))
      refine callG_v rfl cb74 rfl (block7OK x s (by omega) i hk) (dOk_lt rfl) ?_
      simp only [e, hwl, hlt, hbl, undef, push_cast, ↓Int.toNat_natCast, ↓Int.cast_ofNat_Int, Int.cast_ofNat_Int, ↓reduceIte, reduceCtorEq, Nat.reduceEqDiff, Nat.reduceLT, Nat.reduceLeDiff, Nat.reduceAdd, Nat.reduceSub, Nat.reduceMul, Int.reduceNeg, Int.reduceLE, Int.reduceLT, Int.reduceToNat, Int.reduceAdd, Int.reduceSub, Int.reduceMul, Int.reduceEq]
      (repeat (refine And.intro (by first | omega | decide) ?_))
      refine loop_rule (ι := Nat) (fun j => ⟨[(0, .x (.a (.v (vU64 x)))), (1, .x (.a (.v (.string s)))), (2, .x (.a (.v (.int .i64 m)))), (8, .x (.a (.o 0))), (9, .x (.a (.v (.int .i64 i)))), (10, .x (.a (.p 1 0))), (11, .x (.a (.v (.int .i64 (4 * (j : Int))))))], [.own 49 (.u32 (wTo x s.data.toList (8 * i + j))), .blk 142 (.u8 (prgBlk x s.data.toList i))]⟩)
        (fun j => j ≤ 8 ∧ 8 * i + j ≤ m) (fun j => 8 - j) 0 [0, 1] (by omega) ?_ ?_
      · simp only [e, Nat.add_zero, push_cast, ↓Int.toNat_natCast, ↓Int.cast_ofNat_Int, Int.cast_ofNat_Int, ↓reduceIte, reduceCtorEq, Nat.reduceEqDiff, Nat.reduceLT, Nat.reduceLeDiff, Nat.reduceAdd, Nat.reduceSub, Nat.reduceMul, Int.reduceNeg, Int.reduceLE, Int.reduceLT, Int.reduceToNat, Int.reduceAdd, Int.reduceSub, Int.reduceMul, Int.reduceEq]
        all_goals omega
      · rintro j ⟨hj, hjm⟩
        have hwl := wTo_length x s.data.toList (8 * i + j)
        by_cases h4 : 4 * (j : Int) < 32
        · by_cases hlm : 8 * (i : Int) + j < m
          · have t0 : (4 * (j : Int)).toNat = 4 * j := by omega
            have t1 : (4 * (j : Int) + 1).toNat = 4 * j + 1 := by omega
            have t2 : (4 * (j : Int) + 2).toNat = 4 * j + 2 := by omega
            have t3 : (4 * (j : Int) + 3).toNat = 4 * j + 3 := by omega
            simp only [h4, hlm, hwl, hbl, undef, push_cast, ↓Int.toNat_natCast, ↓Int.cast_ofNat_Int, Int.cast_ofNat_Int, ↓reduceIte, reduceCtorEq, Nat.reduceEqDiff, Nat.reduceLT, Nat.reduceLeDiff, Nat.reduceAdd, Nat.reduceSub, Nat.reduceMul, Int.reduceNeg, Int.reduceLE, Int.reduceLT, Int.reduceToNat, Int.reduceAdd, Int.reduceSub, Int.reduceMul, Int.reduceEq]
            (repeat (refine And.intro (by first | omega | decide) ?_))
            refine drawT_rule 27 [(0, true), (1, true), (2, true), (3, true), (4, true), (5, true), (6, true), (7, true), (8, true), (9, true), (10, true), (11, true), (12, true), (13, true), (14, true), (15, true), (16, true), (17, true), (18, true), (19, true), (20, true), (21, true), (22, true), (23, true), (24, true), (25, true), (26, false)] (by kernel_rfl) (by kernel_rfl) ?_
            simp only [t0, t1, t2, t3, h4, hlm, hwl, hbl, undef, push_cast, ↓Int.toNat_natCast, ↓Int.cast_ofNat_Int, Int.cast_ofNat_Int, ↓reduceIte, reduceCtorEq, Nat.reduceEqDiff, Nat.reduceLT, Nat.reduceLeDiff, Nat.reduceAdd, Nat.reduceSub, Nat.reduceMul, Int.reduceNeg, Int.reduceLE, Int.reduceLT, Int.reduceToNat, Int.reduceAdd, Int.reduceSub, Int.reduceMul, Int.reduceEq]
            (repeat (refine And.intro (by first | omega | decide) ?_))
            refine loopK_normal (j + 1) [3, 1] ⟨by omega, by omega⟩ (by omega) ?_
            simp only [wTo_succ x s.data.toList i j (by omega), word4_eq, push_cast, ↓Int.toNat_natCast, ↓Int.cast_ofNat_Int, Int.cast_ofNat_Int, ↓reduceIte, reduceCtorEq, Nat.reduceEqDiff, Nat.reduceLT, Nat.reduceLeDiff, Nat.reduceAdd, Nat.reduceSub, Nat.reduceMul, Int.reduceNeg, Int.reduceLE, Int.reduceLT, Int.reduceToNat, Int.reduceAdd, Int.reduceSub, Int.reduceMul, Int.reduceEq]
            all_goals omega
          · have e2 : min (8 * (i + 1)) m = 8 * i + j := by omega
            simp only [h4, hlm, hwl, hbl, undef, push_cast, ↓Int.toNat_natCast, ↓Int.cast_ofNat_Int, Int.cast_ofNat_Int, ↓reduceIte, reduceCtorEq, Nat.reduceEqDiff, Nat.reduceLT, Nat.reduceLeDiff, Nat.reduceAdd, Nat.reduceSub, Nat.reduceMul, Int.reduceNeg, Int.reduceLE, Int.reduceLT, Int.reduceToNat, Int.reduceAdd, Int.reduceSub, Int.reduceMul, Int.reduceEq]
            (repeat (refine And.intro (by first | omega | decide) ?_))
            refine loopK_normal (i + 1) [0] (by omega) (by omega) ?_
            simp only [e2, push_cast, ↓Int.toNat_natCast, ↓Int.cast_ofNat_Int, Int.cast_ofNat_Int, ↓reduceIte, reduceCtorEq, Nat.reduceEqDiff, Nat.reduceLT, Nat.reduceLeDiff, Nat.reduceAdd, Nat.reduceSub, Nat.reduceMul, Int.reduceNeg, Int.reduceLE, Int.reduceLT, Int.reduceToNat, Int.reduceAdd, Int.reduceSub, Int.reduceMul, Int.reduceEq]
            all_goals omega
        · have e2 : min (8 * (i + 1)) m = 8 * i + j := by omega
          simp only [h4, hwl, hbl, undef, push_cast, ↓Int.toNat_natCast, ↓Int.cast_ofNat_Int, Int.cast_ofNat_Int, ↓reduceIte, reduceCtorEq, Nat.reduceEqDiff, Nat.reduceLT, Nat.reduceLeDiff, Nat.reduceAdd, Nat.reduceSub, Nat.reduceMul, Int.reduceNeg, Int.reduceLE, Int.reduceLT, Int.reduceToNat, Int.reduceAdd, Int.reduceSub, Int.reduceMul, Int.reduceEq]
          (repeat (refine And.intro (by first | omega | decide) ?_))
          refine loopK_normal (i + 1) [0] (by omega) (by omega) ?_
          simp only [e2, push_cast, ↓Int.toNat_natCast, ↓Int.cast_ofNat_Int, Int.cast_ofNat_Int, ↓reduceIte, reduceCtorEq, Nat.reduceEqDiff, Nat.reduceLT, Nat.reduceLeDiff, Nat.reduceAdd, Nat.reduceSub, Nat.reduceMul, Int.reduceNeg, Int.reduceLE, Int.reduceLT, Int.reduceToNat, Int.reduceAdd, Int.reduceSub, Int.reduceMul, Int.reduceEq]
          all_goals omega
    · have e : min (8 * i) m = m := by omega
      rw [e] at hwl
      simp only [e, hwl, Int.lt_irrefl, undef, ownT2, ownT, push_cast, ↓Int.toNat_natCast, ↓Int.cast_ofNat_Int, Int.cast_ofNat_Int, ↓reduceIte, reduceCtorEq, Nat.reduceEqDiff, Nat.reduceLT, Nat.reduceLeDiff, Nat.reduceAdd, Nat.reduceSub, Nat.reduceMul, Int.reduceNeg, Int.reduceLE, Int.reduceLT, Int.reduceToNat, Int.reduceAdd, Int.reduceSub, Int.reduceMul, Int.reduceEq]
/-! ### The document's -/
def allTo (x : UInt64) (s : List UInt8) : Nat → List UInt8
  | 0 => []
  | k + 1 => allTo x s k ++ prgBlk x s k
theorem allTo_zero (x : UInt64) (s : List UInt8) : allTo x s 0 = [] := rfl
theorem allTo_succ (x : UInt64) (s : List UInt8) (k : Nat) : allTo x s (k + 1) = allTo x s k ++ prgBlk x s k := rfl
theorem allTo_length (x : UInt64) (s : List UInt8) (k : Nat) : (allTo x s k).length = 32 * k := by
  induction k with
  | zero => rfl
  | succ k ih => rw [allTo_succ, List.length_append, ih, prgBlk_length]; omega
theorem allTo_ix (x : UInt64) (s : List UInt8) (k i r : Nat) (hi : i < k) (hr : r < 32) : ix (allTo x s k) (32 * i + r) = ix (prgBlk x s i) r := by
  induction k with
  | zero => omega
  | succ k ih =>
    rw [allTo_succ]
    have hl := allTo_length x s k
    by_cases h : i = k
    · subst h
      unfold ix
      rw [List.getD_eq_getElem?_getD, List.getElem?_append_right (by omega), hl, show 32 * i + r - 32 * i = r from by omega, List.getD_eq_getElem?_getD]
    · rw [← ih (by omega)]
      unfold ix
      rw [List.getD_eq_getElem?_getD, List.getElem?_append_left (by omega), List.getD_eq_getElem?_getD]
theorem shl_byte (p : UInt8) (k : Nat) (hk : k ≤ 24) : (shl32 p.toUInt32 k).toNat = p.toNat * 2 ^ k := by
  unfold shl32
  rw [if_pos (by omega)]
  have e : (UInt32.ofNat k).toNat % 32 = k := by simp; omega
  have hp := p.toNat_lt
  have h2 : p.toNat * 2 ^ k < 2 ^ 32 := by
    have h3 : 2 ^ k ≤ 2 ^ 24 := Nat.pow_le_pow_right (by omega) hk
    have h4 : p.toNat * 2 ^ k ≤ 255 * 2 ^ 24 := Nat.mul_le_mul (by omega) h3
    omega
  rw [UInt32.toNat_shiftLeft, e, Nat.shiftLeft_eq, UInt8.toNat_toUInt32, Nat.mod_eq_of_lt h2]
theorem be4_word (b : List UInt8) (o : Nat) : 16777216 * (ix b o).toUInt32 + 65536 * (ix b (o + 1)).toUInt32 + 256 * (ix b (o + 2)).toUInt32 + (ix b (o + 3)).toUInt32 = word4 b o := by
  rw [word4_eq]
  generalize ix b o = p
  generalize ix b (o + 1) = q
  generalize ix b (o + 2) = r
  generalize ix b (o + 3) = t
  have hp := p.toNat_lt
  have hq := q.toNat_lt
  have hr := r.toNat_lt
  have ht := t.toNat_lt
  apply UInt32.toNat_inj.1
  rw [UInt32.toNat_or, UInt32.toNat_or, UInt32.toNat_or, shl_byte p 24 (by omega), shl_byte q 16 (by omega), shl_byte r 8 (by omega), UInt8.toNat_toUInt32]
  rw [nat_join 24 (p.toNat * 2 ^ 24) _ (by omega) (by omega), nat_join 16 _ (r.toNat * 2 ^ 8) (by omega) (by omega), nat_join 8 _ t.toNat (by omega) (by omega)]
  simp only [UInt32.toNat_add, UInt32.toNat_mul, UInt8.toNat_toUInt32]
  have e1 : (16777216 : UInt32).toNat = 16777216 := rfl
  have e2 : (65536 : UInt32).toNat = 65536 := rfl
  have e3 : (256 : UInt32).toNat = 256 := rfl
  rw [e1, e2, e3]
  omega
theorem word4_all (x : UInt64) (s : List UInt8) (q i j : Nat) (hi : i < q) (hj : j < 8) : word4 (allTo x s q) (4 * (8 * i + j)) = word4 (prgBlk x s i) (4 * j) := by
  rw [word4_eq, word4_eq]
  rw [show 4 * (8 * i + j) = 32 * i + 4 * j from by omega, show 32 * i + 4 * j + 1 = 32 * i + (4 * j + 1) from by omega, show 32 * i + 4 * j + 2 = 32 * i + (4 * j + 2) from by omega, show 32 * i + 4 * j + 3 = 32 * i + (4 * j + 3) from by omega]
  rw [allTo_ix x s q i _ hi (by omega), allTo_ix x s q i _ hi (by omega), allTo_ix x s q i _ hi (by omega), allTo_ix x s q i _ hi (by omega)]
theorem wTo_step (x : UInt64) (s : List UInt8) (q k : Nat) (hk : k < 8 * q) : wTo x s (k + 1) = wTo x s k ++ [word4 (allTo x s q) (4 * k)] := by
  have h := word4_all x s q (k / 8) (k % 8) (by omega) (by omega)
  rw [show 8 * (k / 8) + k % 8 = k from by omega] at h
  rw [h]
  exact wTo_next x s k
attribute [local irreducible] allTo word4
end Go.Proofs.YteiifdpikcnbgaaGreatDoor
/- A number out of a seed, a label and a place; are two rows the same. -/
namespace Go.Proofs.YteiifdpikcnbgaaGreatDoor
open Go.RowKit
set_option linter.unusedSimpArgs false
def num8To (b : List UInt8) : Nat → UInt64
  | 0 => 0
  | k + 1 => shl64 (num8To b k) 8 ||| (ix b k).toUInt64
theorem num8To_zero (b : List UInt8) : num8To b 0 = 0 := rfl
theorem num8To_succ (b : List UInt8) (k : Nat) : num8To b (k + 1) = shl64 (num8To b k) 8 ||| (ix b k).toUInt64 := rfl
theorem num8_step (v : UInt64) (b : UInt8) : 256 * v + b.toUInt64 = shl64 v 8 ||| b.toUInt64 := by
  have hb := b.toNat_lt
  have hv := v.toNat_lt
  apply UInt64.toNat_inj.1
  unfold shl64
  rw [if_pos (by omega), UInt64.toNat_or, UInt64.toNat_shiftLeft, UInt8.toNat_toUInt64, Nat.shiftLeft_eq, show (UInt64.ofNat 8).toNat % 64 = 8 from rfl]
  rw [nat_join 8 _ b.toNat (by omega) (by omega), UInt64.toNat_add, UInt64.toNat_mul, UInt8.toNat_toUInt64]
  have e3 : (256 : UInt64).toNat = 256 := rfl
  rw [e3]
  omega
def numV (x : UInt64) (s : List UInt8) (i : Nat) : UInt64 := num8To (prgBlk x s i) 8 % fpP
def numOut (x : UInt64) (s : ByteArray) (n : Int) : UInt64 := if wOk s n 1048576 = true then numV x s.data.toList n.toNat else 0
theorem numOut_no {x : UInt64} {s : ByteArray} {n : Int} (h : wOk s n 1048576 = false) : numOut x s n = 0 := by unfold numOut; rw [h]; rfl
theorem numOut_yes {x : UInt64} {s : ByteArray} {n : Int} (h : wOk s n 1048576 = true) : numOut x s n = num8To (prgBlk x s.data.toList n.toNat) 8 % fpP := by unfold numOut; rw [h]; rfl
theorem n64_nought : n64 0 = 0 := rfl
theorem vU64_nought : vU64 0 = .int .u64 0 := rfl
attribute [local irreducible] num8To
set_option maxRecDepth 100000 in
theorem num7_any (x : UInt64) (s : ByteArray) (n : Int) (w : World) (hk : LaidK 4 w) :
    Calls Tryz.prog 44 #[vU64 x, .string s, .int .i64 n] w fun e w' => e = .returned (.tuple #[vU64 (numOut x s n), wErr s n 1048576]) ∧ Below w.heap.size w w' := by
  refine calls_v (n := 42) Tryz.func44 rfl Tryz.ntmps44 [.x (.a (.v (vU64 x))), .x (.a (.v (.string s))), .x (.a (.v (.int .i64 n)))] (by simp) (.t [.a (.v (vU64 (numOut x s n))), .a (.v (wErr s n 1048576))]) (fun _ => rfl) ?_
  simp only [push_cast, ↓Int.toNat_natCast, ↓Int.cast_ofNat_Int, Int.cast_ofNat_Int, ↓reduceIte, reduceCtorEq, Nat.reduceEqDiff, Nat.reduceLT, Nat.reduceLeDiff, Nat.reduceAdd, Nat.reduceSub, Nat.reduceMul, Int.reduceNeg, Int.reduceLE, Int.reduceLT, Int.reduceToNat, Int.reduceAdd, Int.reduceSub, Int.reduceMul, Int.reduceEq]
  (repeat (refine And.intro (by first | omega | decide) ?_))
  refine callG_v rfl cb73 rfl (goodOK s) (dOk_lt rfl) ?_
  cases hl : labOk s
  · have hb := wOk_lab (n := n) (m := 1048576) hl
    simp only [numOut_no hb, wErr_no hb, vU64_nought, undef, push_cast, ↓Int.toNat_natCast, ↓Int.cast_ofNat_Int, Int.cast_ofNat_Int, ↓reduceIte, reduceCtorEq, Nat.reduceEqDiff, Nat.reduceLT, Nat.reduceLeDiff, Nat.reduceAdd, Nat.reduceSub, Nat.reduceMul, Int.reduceNeg, Int.reduceLE, Int.reduceLT, Int.reduceToNat, Int.reduceAdd, Int.reduceSub, Int.reduceMul, Int.reduceEq]
  by_cases h0 : n < 0
  · have hb := wOk_lo (s := s) (m := 1048576) h0
    simp only [h0, numOut_no hb, wErr_no hb, vU64_nought, undef, push_cast, ↓Int.toNat_natCast, ↓Int.cast_ofNat_Int, Int.cast_ofNat_Int, ↓reduceIte, reduceCtorEq, Nat.reduceEqDiff, Nat.reduceLT, Nat.reduceLeDiff, Nat.reduceAdd, Nat.reduceSub, Nat.reduceMul, Int.reduceNeg, Int.reduceLE, Int.reduceLT, Int.reduceToNat, Int.reduceAdd, Int.reduceSub, Int.reduceMul, Int.reduceEq]
  by_cases h1 : 1048576 < n
  · have hb := wOk_hi (s := s) h1
    simp only [h0, h1, numOut_no hb, wErr_no hb, vU64_nought, undef, push_cast, ↓Int.toNat_natCast, ↓Int.cast_ofNat_Int, Int.cast_ofNat_Int, ↓reduceIte, reduceCtorEq, Nat.reduceEqDiff, Nat.reduceLT, Nat.reduceLeDiff, Nat.reduceAdd, Nat.reduceSub, Nat.reduceMul, Int.reduceNeg, Int.reduceLE, Int.reduceLT, Int.reduceToNat, Int.reduceAdd, Int.reduceSub, Int.reduceMul, Int.reduceEq]
  have hb := wOk_yes hl h0 h1
  have hsz := labOk_size hl
  rw [numOut_yes hb, wErr_yes hb]
  obtain ⟨m, rfl⟩ := Int.eq_ofNat_of_zero_le (show 0 ≤ n by omega)
  have hbl := prgBlk_length x s.data.toList m
  simp only [h0, h1, undef, push_cast, ↓Int.toNat_natCast, ↓Int.cast_ofNat_Int, Int.cast_ofNat_Int, ↓reduceIte, reduceCtorEq, Nat.reduceEqDiff, Nat.reduceLT, Nat.reduceLeDiff, Nat.reduceAdd, Nat.reduceSub, Nat.reduceMul, Int.reduceNeg, Int.reduceLE, Int.reduceLT, Int.reduceToNat, Int.reduceAdd, Int.reduceSub, Int.reduceMul, Int.reduceEq]
  (repeat (refine And.intro (by first | omega | decide) ?_))
  refine callG_v rfl cb74 rfl (block7OK x s (by omega) m hk) (dOk_lt rfl) ?_
  simp only [hbl, undef, push_cast, ↓Int.toNat_natCast, ↓Int.cast_ofNat_Int, Int.cast_ofNat_Int, ↓reduceIte, reduceCtorEq, Nat.reduceEqDiff, Nat.reduceLT, Nat.reduceLeDiff, Nat.reduceAdd, Nat.reduceSub, Nat.reduceMul, Int.reduceNeg, Int.reduceLE, Int.reduceLT, Int.reduceToNat, Int.reduceAdd, Int.reduceSub, Int.reduceMul, Int.reduceEq]
  (repeat (refine And.intro (by first | omega | decide) ?_))
  refine loop_rule (ι := Nat) (fun k => ⟨[(9, .x (.a (.v (vU64 (num8To (prgBlk x s.data.toList m) k))))), (28, .x (.a (.s 0 0 8 32))), (29, .x (.a (.v (.int .i64 8)))), (30, .x (.a (.v (.int .i64 k))))], [.blk 142 (.u8 (prgBlk x s.data.toList m))]⟩)
    (fun k => k ≤ 8) (fun k => 8 - k) 0 [0] (by omega) ?_ ?_
  · simp only [num8To_zero, vU64_nought, push_cast, ↓Int.toNat_natCast, ↓Int.cast_ofNat_Int, Int.cast_ofNat_Int, ↓reduceIte, reduceCtorEq, Nat.reduceEqDiff, Nat.reduceLT, Nat.reduceLeDiff, Nat.reduceAdd, Nat.reduceSub, Nat.reduceMul, Int.reduceNeg, Int.reduceLE, Int.reduceLT, Int.reduceToNat, Int.reduceAdd, Int.reduceSub, Int.reduceMul, Int.reduceEq]
  · intro k hk8
    by_cases hlt : (k : Int) < 8
    · simp only [hlt, hbl, undef, push_cast, ↓Int.toNat_natCast, ↓Int.cast_ofNat_Int, Int.cast_ofNat_Int, ↓reduceIte, reduceCtorEq, Nat.reduceEqDiff, Nat.reduceLT, Nat.reduceLeDiff, Nat.reduceAdd, Nat.reduceSub, Nat.reduceMul, Int.reduceNeg, Int.reduceLE, Int.reduceLT, Int.reduceToNat, Int.reduceAdd, Int.reduceSub, Int.reduceMul, Int.reduceEq]
      (repeat (refine And.intro (by first | omega | decide) ?_))
      refine loopK_normal (k + 1) [0] (by omega) (by omega) ?_
      simp only [num8To_succ, push_cast, ↓Int.toNat_natCast, ↓Int.cast_ofNat_Int, Int.cast_ofNat_Int, ↓reduceIte, reduceCtorEq, Nat.reduceEqDiff, Nat.reduceLT, Nat.reduceLeDiff, Nat.reduceAdd, Nat.reduceSub, Nat.reduceMul, Int.reduceNeg, Int.reduceLE, Int.reduceLT, Int.reduceToNat, Int.reduceAdd, Int.reduceSub, Int.reduceMul, Int.reduceEq]
    · have e : k = 8 := by omega
      subst e
      simp only [undef, Int.lt_irrefl, push_cast, ↓Int.toNat_natCast, ↓Int.cast_ofNat_Int, Int.cast_ofNat_Int, ↓reduceIte, reduceCtorEq, Nat.reduceEqDiff, Nat.reduceLT, Nat.reduceLeDiff, Nat.reduceAdd, Nat.reduceSub, Nat.reduceMul, Int.reduceNeg, Int.reduceLE, Int.reduceLT, Int.reduceToNat, Int.reduceAdd, Int.reduceSub, Int.reduceMul, Int.reduceEq]
      (repeat (refine And.intro (by first | omega | decide) ?_))
      refine callG_v rfl cb45 rfl (fpOfOK _) (dOk_lt rfl) ?_
      simp only [push_cast, ↓Int.toNat_natCast, ↓Int.cast_ofNat_Int, Int.cast_ofNat_Int, ↓reduceIte, reduceCtorEq, Nat.reduceEqDiff, Nat.reduceLT, Nat.reduceLeDiff, Nat.reduceAdd, Nat.reduceSub, Nat.reduceMul, Int.reduceNeg, Int.reduceLE, Int.reduceLT, Int.reduceToNat, Int.reduceAdd, Int.reduceSub, Int.reduceMul, Int.reduceEq]
section
variable {w0 : World} {hp : List Res}
theorem num7OK (x : UInt64) (s : ByteArray) (n : Int) (hk : LaidK 4 w0) : CallOK Tryz.prog w0 No 44 [.x (.a (.v (vU64 x))), .x (.a (.v (.string s))), .x (.a (.v (.int .i64 n)))] hp (.t [.a (.v (vU64 (numOut x s n))), .a (.v (wErr s n 1048576))]) hp := callOK_v fun _ w hS => num7_any x s n w (laid_later hk hS)
theorem words7OK (x : UInt64) (s : ByteArray) (n : Int) (hk : LaidK 4 w0) (hbr : ∀ r ∈ hp, Res.bnd hp.length r) : CallOK Tryz.prog w0 No 53 [.x (.a (.v (vU64 x))), .x (.a (.v (.string s))), .x (.a (.v (.int .i64 n)))] hp (.t [.a (.o hp.length), .a (.v (wErr s n 32))]) (hp ++ [.own 49 (.u32 (wOut x s n))]) :=
  callOK_own2 hbr trivial fun _ w hS => words7_any x s n w (laid_later hk hS)
end
end Go.Proofs.YteiifdpikcnbgaaGreatDoor
