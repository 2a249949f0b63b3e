/- The blocks of numbers that come of a seed and a label, by the program and by the document. -/
import Derived.Test.YtohnlajccfnecaaDoorPg1
import Derived.Test.YtohnlajccfnecaaDoorSh
import Derived.Test.YtohnlajccfnecaaDoorBe
import Derived.Test.YtohnlajccfnecaaDoorRef8
import Derived.Test.YtohnlajccfnecaaDoorMac1
namespace Go.Proofs.YtohnlajccfnecaaDoor
open Go.RowKit
set_option linter.unusedSimpArgs false
section
variable {w0 : World} {hp : List Res} {sk st : Sv} {key l : List UInt8}
theorem macOKs (h1 : Shows w0 No hp sk (key.map vU8)) (h2 : Shows w0 No hp st (l.map vU8)) (hm : key.length ≤ 80000) (hm2 : l.length ≤ 80000) (hk : LaidK 5 w0) :
    CallOK Tryd.prog w0 No 59 [sk, st] hp (.x (.a8 (macOf key l))) hp := callOK_v fun γ w hS => by
  obtain ⟨A, c, e1, b1, r1⟩ := h1 γ w hS
  obtain ⟨A2, c2, e2, b2, r2⟩ := h2 γ w hS
  rw [List.length_map] at e1 b1 e2
  show Calls _ _ #[sk.val γ, st.val γ] w _
  rw [e1, e2]
  exact macOf_any key A c l A2 c2 w r1 (by omega) b1 r2 (by omega) (laid_later hk hS)
theorem refMacOKs (h1 : Shows w0 No hp sk (key.map vU8)) (h2 : Shows w0 No hp st (l.map vU8)) (hm : key.length ≤ 80000) (hm2 : l.length ≤ 80000) :
    CallOK Tryd.prog w0 No 60 [sk, st] hp (.x (.a8 (macOf key l))) hp := callOK_v fun γ w hS => by
  obtain ⟨A, c, e1, b1, r1⟩ := h1 γ w hS
  obtain ⟨A2, c2, e2, b2, r2⟩ := h2 γ w hS
  rw [List.length_map] at e1 e2
  show Calls _ _ #[sk.val γ, st.val γ] w _
  rw [e1, e2]
  exact refMac_any key hm A c l hm2 A2 c2 w r1 r2
end
theorem u8_ofInt (n : Nat) : UInt8.ofInt (n : Int) = UInt8.ofNat n := by
  rw [← UInt8.toNat_inj]
  unfold UInt8.ofInt
  simp
  omega
theorem u8_shr (n k : Nat) : UInt8.ofInt ((n : Int) / 2 ^ k) = UInt8.ofNat (n / 2 ^ k) := by
  have e : ((n : Int) / 2 ^ k) = ((n / 2 ^ k : Nat) : Int) := by push_cast
  rw [e, u8_ofInt]
theorem tdiv_nat (n m : Nat) : (n : Int).tdiv m = ((n / m : Nat) : Int) := by rw [Int.tdiv_eq_ediv_of_nonneg (by omega)]; push_cast
theorem tmod_nat (n m : Nat) : (n : Int).tmod m = ((n % m : Nat) : Int) := by rw [Int.tmod_eq_emod_of_nonneg (by omega)]; push_cast
/-- What a block is the sum of. -/
def blkT (s : List UInt8) (i : Nat) : List UInt8 := s ++ [0, UInt8.ofNat (i / 2 ^ 24), UInt8.ofNat (i / 2 ^ 16), UInt8.ofNat (i / 2 ^ 8), UInt8.ofNat i]
def prgBlk (x : UInt64) (s : List UInt8) (i : Nat) : List UInt8 := macOf (beTo x 8) (blkT s i)
def keyTo (x : UInt64) : Nat → List UInt8
  | 0 => List.replicate 8 0
  | k + 1 => (keyTo x k).set k (shr64 x (56 - 8 * k)).toUInt8
theorem keyTo_zero (x : UInt64) : keyTo x 0 = List.replicate 8 0 := rfl
theorem keyTo_succ (x : UInt64) (k : Nat) : keyTo x (k + 1) = (keyTo x k).set k (shr64 x (56 - 8 * k)).toUInt8 := rfl
theorem keyTo_length (x : UInt64) (k : Nat) : (keyTo x k).length = 8 := by
  induction k with
  | zero => simp [keyTo]
  | succ k ih => rw [keyTo_succ, List.length_set, ih]
theorem keyTo_all (x : UInt64) : keyTo x 8 = beTo x 8 := rfl
theorem prgBlk_length (x : UInt64) (s : List UInt8) (i : Nat) : (prgBlk x s i).length = 32 := macOf_length _ _
theorem beTo_none (x : UInt64) : beTo x 0 = [] := rfl
theorem beTo_next (x : UInt64) (k : Nat) : beTo x (k + 1) = beTo x k ++ [(shr64 x (56 - 8 * k)).toUInt8] := rfl
attribute [local irreducible] macOf keyTo beTo
set_option maxRecDepth 100000 in
theorem block7_any (x : UInt64) (s : ByteArray) (hs : s.size ≤ 1000) (i : Nat) (w : World) (hk : LaidK 5 w) :
    Calls Tryd.prog 44 #[vU64 x, .string s, .int .i64 i] w fun e w' => e = .returned (.agg (arr8 (prgBlk x s.data.toList i))) ∧ Below w.heap.size w w' := by
  refine calls_v (n := 40) Tryd.func44 rfl Tryd.ntmps44 [.x (.a (.v (vU64 x))), .x (.a (.v (.string s))), .x (.a (.v (.int .i64 i)))] (by simp) (.x (.a8 (prgBlk x s.data.toList i))) (fun _ => rfl) ?_
  simp only [push_cast, ↓Int.toNat_natCast, ↓Int.cast_ofNat_Int, Int.cast_ofNat_Int, ↓reduceIte, reduceCtorEq, Nat.reduceEqDiff, Nat.reduceLT, Nat.reduceLeDiff, Nat.reduceAdd, Nat.reduceSub, Nat.reduceMul, Int.reduceNeg, Int.reduceLE, Int.reduceLT, Int.reduceToNat, Int.reduceAdd, Int.reduceSub, Int.reduceMul, Int.reduceEq]
  (repeat (refine And.intro (by first | omega | decide) ?_))
  refine loop_rule (ι := Nat) (fun k => ⟨[(0, .x (.a (.v (vU64 x)))), (1, .x (.a (.v (.string s)))), (2, .x (.a (.v (.int .i64 i)))), (6, .x (.a (.p 0 0))), (7, .x (.a (.p 1 0))), (10, .x (.a (.v (.int .i64 k))))],
    [.blk 89 (.u8 (List.replicate 32 0)), .blk 112 (.u8 (keyTo x k))]⟩) (fun k => k ≤ 8) (fun k => 8 - k) 0 [0, 1] (by omega) ?_ ?_
  · simp only [keyTo_zero, push_cast, ↓Int.toNat_natCast, ↓Int.cast_ofNat_Int, Int.cast_ofNat_Int, ↓reduceIte, reduceCtorEq, Nat.reduceEqDiff, Nat.reduceLT, Nat.reduceLeDiff, Nat.reduceAdd, Nat.reduceSub, Nat.reduceMul, Int.reduceNeg, Int.reduceLE, Int.reduceLT, Int.reduceToNat, Int.reduceAdd, Int.reduceSub, Int.reduceMul, Int.reduceEq]
  · intro k hk8
    have hkl := keyTo_length x k
    by_cases hlt : (k : Int) < 8
    · have h : k < 8 := by omega
      have t0 : (56 - 8 * (k : Int)).toNat = 56 - 8 * k := by omega
      simp only [hlt, hkl, t0, undef, push_cast, ↓Int.toNat_natCast, ↓Int.cast_ofNat_Int, Int.cast_ofNat_Int, ↓reduceIte, reduceCtorEq, Nat.reduceEqDiff, Nat.reduceLT, Nat.reduceLeDiff, Nat.reduceAdd, Nat.reduceSub, Nat.reduceMul, Int.reduceNeg, Int.reduceLE, Int.reduceLT, Int.reduceToNat, Int.reduceAdd, Int.reduceSub, Int.reduceMul, Int.reduceEq]
      (repeat (refine And.intro (by first | omega | decide) ?_))
      refine loopK_normal (k + 1) [0, 1] (by omega) (by omega) ?_
      simp only [keyTo_succ, push_cast, ↓Int.toNat_natCast, ↓Int.cast_ofNat_Int, Int.cast_ofNat_Int, ↓reduceIte, reduceCtorEq, Nat.reduceEqDiff, Nat.reduceLT, Nat.reduceLeDiff, Nat.reduceAdd, Nat.reduceSub, Nat.reduceMul, Int.reduceNeg, Int.reduceLE, Int.reduceLT, Int.reduceToNat, Int.reduceAdd, Int.reduceSub, Int.reduceMul, Int.reduceEq]
    · have h : k = 8 := by omega
      subst h
      have hbl := prgBlk_length x s.data.toList i
      have hs2 : s.data.toList.length = s.size := by simp
      simp only [hlt, hkl, hs2, u8_shr, u8_ofInt, undef, push_cast, ↓Int.toNat_natCast, ↓Int.cast_ofNat_Int, Int.cast_ofNat_Int, ↓reduceIte, reduceCtorEq, Nat.reduceEqDiff, Nat.reduceLT, Nat.reduceLeDiff, Nat.reduceAdd, Nat.reduceSub, Nat.reduceMul, Int.reduceNeg, Int.reduceLE, Int.reduceLT, Int.reduceToNat, Int.reduceAdd, Int.reduceSub, Int.reduceMul, Int.reduceEq]
      (repeat (refine And.intro (by first | omega | decide) ?_))
      refine callG_v rfl cb59 rfl (macOKs (key := beTo x 8) (l := blkT s.data.toList i) (shows_blk_all (k := 1) (c := .u8 (keyTo x 8)) rfl (fun _ => by rw [← keyTo_all]; rfl) 8 8 (by rw [List.length_map, beTo_length]) (by omega)) (shows_str rfl (fun _ => rfl)) (by rw [beTo_length]; omega) (by simp [blkT]; omega) hk) (dOk_lt rfl) ?_
      have hb2 : (macOf (beTo x 8) (blkT s.data.toList i)).length = 32 := hbl
      simp only [hb2, push_cast, ↓Int.toNat_natCast, ↓Int.cast_ofNat_Int, Int.cast_ofNat_Int, ↓reduceIte, reduceCtorEq, Nat.reduceEqDiff, Nat.reduceLT, Nat.reduceLeDiff, Nat.reduceAdd, Nat.reduceSub, Nat.reduceMul, Int.reduceNeg, Int.reduceLE, Int.reduceLT, Int.reduceToNat, Int.reduceAdd, Int.reduceSub, Int.reduceMul, Int.reduceEq]
      rfl
theorem byte_div' (x : UInt64) (n : Nat) (h : n < 64) : ((shr64 x n).toUInt8).toNat = x.toNat / 2 ^ n % 256 := by
  unfold shr64
  rw [if_pos h]
  have e : (UInt64.ofNat n).toNat % 64 = n := by simp; omega
  rw [UInt64.toNat_toUInt8, UInt64.toNat_shiftRight, e, Nat.shiftRight_eq_div_pow]
theorem u64n (n : Nat) (h : n < 18446744073709551616) : (UInt64.ofNat n).toNat = n := by rw [UInt64.toNat_ofNat']; exact Nat.mod_eq_of_lt h
theorem pow_lt (k : Nat) : 256 ^ (7 - k) < 18446744073709551616 := by
  have : 256 ^ (7 - k) ≤ 256 ^ 7 := Nat.pow_le_pow_right (by omega) (by omega)
  have h7 : 256 ^ 7 = 72057594037927936 := by decide
  omega
theorem rkey (x : UInt64) (k : Nat) (hk : k < 8) : ((x / UInt64.ofNat (256 ^ (7 - k))) % 256).toUInt8 = (shr64 x (56 - 8 * k)).toUInt8 := by
  have hp : 256 ^ (7 - k) = 2 ^ (56 - 8 * k) := by rw [show (256 : Nat) = 2 ^ 8 from rfl, ← Nat.pow_mul]; congr 1; omega
  have hlt := pow_lt k
  apply UInt8.toNat_inj.1
  rw [byte_div' x _ (by omega), UInt64.toNat_toUInt8, UInt64.toNat_mod, UInt64.toNat_div, u64n _ hlt, hp]
  show _ % 256 % 256 = _
  omega
def pwTo : Nat → UInt64
  | 0 => 72057594037927936
  | k + 1 => pwTo k / 256
theorem pwTo_succ (k : Nat) : pwTo (k + 1) = pwTo k / 256 := rfl
theorem pwTo_zero : pwTo 0 = 72057594037927936 := rfl
theorem pwTo_eq (k : Nat) (hk : k < 8) : pwTo k = UInt64.ofNat (256 ^ (7 - k)) := by
  induction k with
  | zero => rfl
  | succ k ih =>
    rw [pwTo_succ, ih (by omega)]
    have e : 256 ^ (7 - k) = 256 ^ (7 - (k + 1)) * 256 := by rw [← Nat.pow_succ]; congr 1; omega
    have h1 := pow_lt k
    have h2 := pow_lt (k + 1)
    apply UInt64.toNat_inj.1
    rw [UInt64.toNat_div, u64n _ h1, u64n _ h2, e]
    show _ * 256 / 256 = _
    omega
theorem pwTo_ne (k : Nat) (hk : k < 8) : ¬ pwTo k = 0 := fun h => by
  rw [pwTo_eq k hk] at h
  have h1 := congrArg UInt64.toNat h
  rw [u64n _ (pow_lt k)] at h1
  have := Nat.pow_pos (n := 7 - k) (show 0 < 256 by omega)
  have h0 : (0 : UInt64).toNat = 0 := rfl
  omega
def refKey (x : UInt64) : Nat → List UInt8
  | 0 => []
  | k + 1 => refKey x k ++ [((x / pwTo k) % 256).toUInt8]
theorem refKey_zero (x : UInt64) : refKey x 0 = [] := rfl
theorem refKey_succ (x : UInt64) (k : Nat) : refKey x (k + 1) = refKey x k ++ [((x / pwTo k) % 256).toUInt8] := rfl
theorem refKey_eq (x : UInt64) (k : Nat) (hk : k ≤ 8) : refKey x k = beTo x k := by
  induction k with
  | zero => rw [refKey_zero, beTo_none]
  | succ k ih => rw [refKey_succ, ih (by omega), pwTo_eq k (by omega), rkey x k (by omega), beTo_next]
theorem refKey_length (x : UInt64) (k : Nat) (hk : k ≤ 8) : (refKey x k).length = k := by rw [refKey_eq x k hk, beTo_length]
attribute [local irreducible] refKey pwTo
set_option maxRecDepth 100000 in
theorem refBlock7_any (x : UInt64) (s : ByteArray) (hs : s.size ≤ 1000) (i : Nat) (hi : i < 4294967296) (w : World) :
    Calls Tryd.prog 47 #[vU64 x, .string s, .int .i64 i] w fun e w' => e = .returned (.agg (arr8 (prgBlk x s.data.toList i))) ∧ Below w.heap.size w w' := by
  refine calls_v (n := 46) Tryd.func47 rfl Tryd.ntmps47 [.x (.a (.v (vU64 x))), .x (.a (.v (.string s))), .x (.a (.v (.int .i64 i)))] (by simp) (.x (.a8 (prgBlk x s.data.toList i))) (fun _ => rfl) ?_
  simp only [push_cast, ↓Int.toNat_natCast, ↓Int.cast_ofNat_Int, Int.cast_ofNat_Int, ↓reduceIte, reduceCtorEq, Nat.reduceEqDiff, Nat.reduceLT, Nat.reduceLeDiff, Nat.reduceAdd, Nat.reduceSub, Nat.reduceMul, Int.reduceNeg, Int.reduceLE, Int.reduceLT, Int.reduceToNat, Int.reduceAdd, Int.reduceSub, Int.reduceMul, Int.reduceEq]
  (repeat (refine And.intro (by first | omega | decide) ?_))
  refine loop_ghost 7 5 (.u8 []) rfl rfl trivial (by simp only [push_cast, ↓Int.toNat_natCast, ↓Int.cast_ofNat_Int, Int.cast_ofNat_Int, ↓reduceIte, reduceCtorEq, Nat.reduceEqDiff, Nat.reduceLT, Nat.reduceLeDiff, Nat.reduceAdd, Nat.reduceSub, Nat.reduceMul, Int.reduceNeg, Int.reduceLE, Int.reduceLT, Int.reduceToNat, Int.reduceAdd, Int.reduceSub, Int.reduceMul, Int.reduceEq]) ?_
  refine loop_rule (ι := Nat) (fun k => ⟨[(0, .x (.a (.v (vU64 x)))), (1, .x (.a (.v (.string s)))), (2, .x (.a (.v (.int .i64 i)))), (6, .x (.a (.p 0 0))), (7, .x (.a (.o 1))), (8, .x (.a (.v (vU64 (pwTo k))))), (9, .x (.a (.v (.int .i64 k))))],
    [.blk 89 (.u8 (List.replicate 32 0)), .own 5 (.u8 (refKey x k))]⟩) (fun k => k ≤ 8) (fun k => 8 - k) 0 [0, 1] (by omega) ?_ ?_
  · simp only [refKey_zero, pwTo_zero, push_cast, ↓Int.toNat_natCast, ↓Int.cast_ofNat_Int, Int.cast_ofNat_Int, ↓reduceIte, reduceCtorEq, Nat.reduceEqDiff, Nat.reduceLT, Nat.reduceLeDiff, Nat.reduceAdd, Nat.reduceSub, Nat.reduceMul, Int.reduceNeg, Int.reduceLE, Int.reduceLT, Int.reduceToNat, Int.reduceAdd, Int.reduceSub, Int.reduceMul, Int.reduceEq]
    unfold n64
    rfl
  · intro k hk8
    have hkl := refKey_length x k hk8
    by_cases hlt : (k : Int) < 8
    · have h : k < 8 := by omega
      have hp0 := pwTo_ne k h
      simp only [hlt, hkl, hp0, undef, push_cast, ↓Int.toNat_natCast, ↓Int.cast_ofNat_Int, Int.cast_ofNat_Int, ↓reduceIte, reduceCtorEq, Nat.reduceEqDiff, Nat.reduceLT, Nat.reduceLeDiff, Nat.reduceAdd, Nat.reduceSub, Nat.reduceMul, Int.reduceNeg, Int.reduceLE, Int.reduceLT, Int.reduceToNat, Int.reduceAdd, Int.reduceSub, Int.reduceMul, Int.reduceEq]
      (repeat (refine And.intro (by first | omega | decide) ?_))
      refine loopK_normal (k + 1) [0, 3] (by omega) (by omega) ?_
      simp only [refKey_succ, pwTo_succ, push_cast, ↓Int.toNat_natCast, ↓Int.cast_ofNat_Int, Int.cast_ofNat_Int, ↓reduceIte, reduceCtorEq, Nat.reduceEqDiff, Nat.reduceLT, Nat.reduceLeDiff, Nat.reduceAdd, Nat.reduceSub, Nat.reduceMul, Int.reduceNeg, Int.reduceLE, Int.reduceLT, Int.reduceToNat, Int.reduceAdd, Int.reduceSub, Int.reduceMul, Int.reduceEq]
    · have h : k = 8 := by omega
      subst h
      have hbl := prgBlk_length x s.data.toList i
      have hs2 : s.data.toList.length = s.size := by simp
      have q1 : UInt8.ofInt ((i : Int).tdiv 16777216) = UInt8.ofNat (i / 2 ^ 24) := by rw [show (16777216 : Int) = ((16777216 : Nat) : Int) from rfl, tdiv_nat, u8_ofInt]
      have q2 : UInt8.ofInt (((i : Int).tdiv 65536).tmod 256) = UInt8.ofNat (i / 2 ^ 16) := by
        rw [show (65536 : Int) = ((65536 : Nat) : Int) from rfl, show (256 : Int) = ((256 : Nat) : Int) from rfl, tdiv_nat, tmod_nat, u8_ofInt]
        apply UInt8.toNat_inj.1
        simp
      have q3 : UInt8.ofInt (((i : Int).tdiv 256).tmod 256) = UInt8.ofNat (i / 2 ^ 8) := by
        rw [show (256 : Int) = ((256 : Nat) : Int) from rfl, tdiv_nat, tmod_nat, u8_ofInt]
        apply UInt8.toNat_inj.1
        simp
      have q4 : UInt8.ofInt ((i : Int).tmod 256) = UInt8.ofNat i := by
        rw [show (256 : Int) = ((256 : Nat) : Int) from rfl, tmod_nat, u8_ofInt]
        apply UInt8.toNat_inj.1
        simp
      have b1 : (i : Int).tdiv 16777216 = ((i / 16777216 : Nat) : Int) := tdiv_nat i 16777216
      have b2 : (i : Int).tdiv 65536 = ((i / 65536 : Nat) : Int) := tdiv_nat i 65536
      have b3 : (i : Int).tdiv 256 = ((i / 256 : Nat) : Int) := tdiv_nat i 256
      have hkk : refKey x 8 = beTo x 8 := refKey_eq x 8 (by omega)
      simp only [hlt, hkl, hs2, q1, q2, q3, q4, undef, push_cast, ↓Int.toNat_natCast, ↓Int.cast_ofNat_Int, Int.cast_ofNat_Int, ↓reduceIte, reduceCtorEq, Nat.reduceEqDiff, Nat.reduceLT, Nat.reduceLeDiff, Nat.reduceAdd, Nat.reduceSub, Nat.reduceMul, Int.reduceNeg, Int.reduceLE, Int.reduceLT, Int.reduceToNat, Int.reduceAdd, Int.reduceSub, Int.reduceMul, Int.reduceEq]
      (repeat (refine And.intro (by first | omega | decide) ?_))
      refine callG_v rfl cb60 rfl (refMacOKs (key := beTo x 8) (l := blkT s.data.toList i) (shows_own (k := 1) (c := .u8 (refKey x 8)) rfl (fun _ => by rw [← hkk]; rfl)) (shows_str rfl (fun _ => rfl)) (by rw [beTo_length]; omega) (by simp [blkT]; omega)) (dOk_lt rfl) ?_
      have hb2 : (macOf (beTo x 8) (blkT s.data.toList i)).length = 32 := hbl
      simp only [hb2, push_cast, ↓Int.toNat_natCast, ↓Int.cast_ofNat_Int, Int.cast_ofNat_Int, ↓reduceIte, reduceCtorEq, Nat.reduceEqDiff, Nat.reduceLT, Nat.reduceLeDiff, Nat.reduceAdd, Nat.reduceSub, Nat.reduceMul, Int.reduceNeg, Int.reduceLE, Int.reduceLT, Int.reduceToNat, Int.reduceAdd, Int.reduceSub, Int.reduceMul, Int.reduceEq]
      rfl
end Go.Proofs.YtohnlajccfnecaaDoor
