/- A number out of a seed, a label and a place; are two rows the same. -/
import Derived.Test.YtkchdhkpjnnliaaDoorPg3
namespace Go.Proofs.YtkchdhkpjnnliaaDoor
open Go.RowKit
set_option linter.unusedSimpArgs false
def num8To (b : List UInt8) : Nat → UInt64
  | 0 => 0
  | k + 1 => shl64 (num8To b k) 8 ||| (ix b k).toUInt64
theorem num8To_zero (b : List UInt8) : num8To b 0 = 0 := rfl
theorem num8To_succ (b : List UInt8) (k : Nat) : num8To b (k + 1) = shl64 (num8To b k) 8 ||| (ix b k).toUInt64 := rfl
theorem num8_step (v : UInt64) (b : UInt8) : 256 * v + b.toUInt64 = shl64 v 8 ||| b.toUInt64 := by
  have hb := b.toNat_lt
  have hv := v.toNat_lt
  apply UInt64.toNat_inj.1
  unfold shl64
  rw [if_pos (by omega), UInt64.toNat_or, UInt64.toNat_shiftLeft, UInt8.toNat_toUInt64, Nat.shiftLeft_eq, show (UInt64.ofNat 8).toNat % 64 = 8 from rfl]
  rw [nat_join 8 _ b.toNat (by omega) (by omega), UInt64.toNat_add, UInt64.toNat_mul, UInt8.toNat_toUInt64]
  have e3 : (256 : UInt64).toNat = 256 := rfl
  rw [e3]
  omega
def numV (x : UInt64) (s : List UInt8) (i : Nat) : UInt64 := num8To (prgBlk x s i) 8 % fpP
def numOut (x : UInt64) (s : ByteArray) (n : Int) : UInt64 := if wOk s n 1048576 = true then numV x s.data.toList n.toNat else 0
theorem numOut_no {x : UInt64} {s : ByteArray} {n : Int} (h : wOk s n 1048576 = false) : numOut x s n = 0 := by unfold numOut; rw [h]; rfl
theorem numOut_yes {x : UInt64} {s : ByteArray} {n : Int} (h : wOk s n 1048576 = true) : numOut x s n = num8To (prgBlk x s.data.toList n.toNat) 8 % fpP := by unfold numOut; rw [h]; rfl
theorem n64_nought : n64 0 = 0 := rfl
theorem vU64_nought : vU64 0 = .int .u64 0 := rfl
attribute [local irreducible] num8To
set_option maxRecDepth 100000 in
theorem num7_any (x : UInt64) (s : ByteArray) (n : Int) (w : World) (hk : LaidK 0 w) :
    Calls Tryd.prog 39 #[vU64 x, .string s, .int .i64 n] w fun e w' => e = .returned (.tuple #[vU64 (numOut x s n), wErr s n 1048576]) ∧ Below w.heap.size w w' := by
  refine calls_v (n := 42) Tryd.func39 rfl Tryd.ntmps39 [.x (.a (.v (vU64 x))), .x (.a (.v (.string s))), .x (.a (.v (.int .i64 n)))] (by simp) (.t [.a (.v (vU64 (numOut x s n))), .a (.v (wErr s n 1048576))]) (fun _ => rfl) ?_
  simp only [push_cast, ↓Int.toNat_natCast, ↓Int.cast_ofNat_Int, Int.cast_ofNat_Int, ↓reduceIte, reduceCtorEq, Nat.reduceEqDiff, Nat.reduceLT, Nat.reduceLeDiff, Nat.reduceAdd, Nat.reduceSub, Nat.reduceMul, Int.reduceNeg, Int.reduceLE, Int.reduceLT, Int.reduceToNat, Int.reduceAdd, Int.reduceSub, Int.reduceMul, Int.reduceEq]
  (repeat (refine And.intro (by first | omega | decide) ?_))
  refine callG_v rfl cb71 rfl (goodOK s) (dOk_lt rfl) ?_
  cases hl : labOk s
  · have hb := wOk_lab (n := n) (m := 1048576) hl
    simp only [numOut_no hb, wErr_no hb, vU64_nought, undef, push_cast, ↓Int.toNat_natCast, ↓Int.cast_ofNat_Int, Int.cast_ofNat_Int, ↓reduceIte, reduceCtorEq, Nat.reduceEqDiff, Nat.reduceLT, Nat.reduceLeDiff, Nat.reduceAdd, Nat.reduceSub, Nat.reduceMul, Int.reduceNeg, Int.reduceLE, Int.reduceLT, Int.reduceToNat, Int.reduceAdd, Int.reduceSub, Int.reduceMul, Int.reduceEq]
  by_cases h0 : n < 0
  · have hb := wOk_lo (s := s) (m := 1048576) h0
    simp only [h0, numOut_no hb, wErr_no hb, vU64_nought, undef, push_cast, ↓Int.toNat_natCast, ↓Int.cast_ofNat_Int, Int.cast_ofNat_Int, ↓reduceIte, reduceCtorEq, Nat.reduceEqDiff, Nat.reduceLT, Nat.reduceLeDiff, Nat.reduceAdd, Nat.reduceSub, Nat.reduceMul, Int.reduceNeg, Int.reduceLE, Int.reduceLT, Int.reduceToNat, Int.reduceAdd, Int.reduceSub, Int.reduceMul, Int.reduceEq]
  by_cases h1 : 1048576 < n
  · have hb := wOk_hi (s := s) h1
    simp only [h0, h1, numOut_no hb, wErr_no hb, vU64_nought, undef, push_cast, ↓Int.toNat_natCast, ↓Int.cast_ofNat_Int, Int.cast_ofNat_Int, ↓reduceIte, reduceCtorEq, Nat.reduceEqDiff, Nat.reduceLT, Nat.reduceLeDiff, Nat.reduceAdd, Nat.reduceSub, Nat.reduceMul, Int.reduceNeg, Int.reduceLE, Int.reduceLT, Int.reduceToNat, Int.reduceAdd, Int.reduceSub, Int.reduceMul, Int.reduceEq]
  have hb := wOk_yes hl h0 h1
  have hsz := labOk_size hl
  rw [numOut_yes hb, wErr_yes hb]
  obtain ⟨m, rfl⟩ := Int.eq_ofNat_of_zero_le (show 0 ≤ n by omega)
  have hbl := prgBlk_length x s.data.toList m
  simp only [h0, h1, undef, push_cast, ↓Int.toNat_natCast, ↓Int.cast_ofNat_Int, Int.cast_ofNat_Int, ↓reduceIte, reduceCtorEq, Nat.reduceEqDiff, Nat.reduceLT, Nat.reduceLeDiff, Nat.reduceAdd, Nat.reduceSub, Nat.reduceMul, Int.reduceNeg, Int.reduceLE, Int.reduceLT, Int.reduceToNat, Int.reduceAdd, Int.reduceSub, Int.reduceMul, Int.reduceEq]
  (repeat (refine And.intro (by first | omega | decide) ?_))
  refine callG_v rfl cb72 rfl (block7OK x s (by omega) m hk) (dOk_lt rfl) ?_
  simp only [hbl, undef, push_cast, ↓Int.toNat_natCast, ↓Int.cast_ofNat_Int, Int.cast_ofNat_Int, ↓reduceIte, reduceCtorEq, Nat.reduceEqDiff, Nat.reduceLT, Nat.reduceLeDiff, Nat.reduceAdd, Nat.reduceSub, Nat.reduceMul, Int.reduceNeg, Int.reduceLE, Int.reduceLT, Int.reduceToNat, Int.reduceAdd, Int.reduceSub, Int.reduceMul, Int.reduceEq]
  (repeat (refine And.intro (by first | omega | decide) ?_))
  refine loop_rule (ι := Nat) (fun k => ⟨[(9, .x (.a (.v (vU64 (num8To (prgBlk x s.data.toList m) k))))), (28, .x (.a (.s 0 0 8 32))), (29, .x (.a (.v (.int .i64 8)))), (30, .x (.a (.v (.int .i64 k))))], [.blk 23 (.u8 (prgBlk x s.data.toList m))]⟩)
    (fun k => k ≤ 8) (fun k => 8 - k) 0 [0] (by omega) ?_ ?_
  · simp only [num8To_zero, vU64_nought, push_cast, ↓Int.toNat_natCast, ↓Int.cast_ofNat_Int, Int.cast_ofNat_Int, ↓reduceIte, reduceCtorEq, Nat.reduceEqDiff, Nat.reduceLT, Nat.reduceLeDiff, Nat.reduceAdd, Nat.reduceSub, Nat.reduceMul, Int.reduceNeg, Int.reduceLE, Int.reduceLT, Int.reduceToNat, Int.reduceAdd, Int.reduceSub, Int.reduceMul, Int.reduceEq]
  · intro k hk8
    by_cases hlt : (k : Int) < 8
    · simp only [hlt, hbl, undef, push_cast, ↓Int.toNat_natCast, ↓Int.cast_ofNat_Int, Int.cast_ofNat_Int, ↓reduceIte, reduceCtorEq, Nat.reduceEqDiff, Nat.reduceLT, Nat.reduceLeDiff, Nat.reduceAdd, Nat.reduceSub, Nat.reduceMul, Int.reduceNeg, Int.reduceLE, Int.reduceLT, Int.reduceToNat, Int.reduceAdd, Int.reduceSub, Int.reduceMul, Int.reduceEq]
      (repeat (refine And.intro (by first | omega | decide) ?_))
      refine loopK_normal (k + 1) [0] (by omega) (by omega) ?_
      simp only [num8To_succ, push_cast, ↓Int.toNat_natCast, ↓Int.cast_ofNat_Int, Int.cast_ofNat_Int, ↓reduceIte, reduceCtorEq, Nat.reduceEqDiff, Nat.reduceLT, Nat.reduceLeDiff, Nat.reduceAdd, Nat.reduceSub, Nat.reduceMul, Int.reduceNeg, Int.reduceLE, Int.reduceLT, Int.reduceToNat, Int.reduceAdd, Int.reduceSub, Int.reduceMul, Int.reduceEq]
    · have e : k = 8 := by omega
      subst e
      simp only [undef, Int.lt_irrefl, push_cast, ↓Int.toNat_natCast, ↓Int.cast_ofNat_Int, Int.cast_ofNat_Int, ↓reduceIte, reduceCtorEq, Nat.reduceEqDiff, Nat.reduceLT, Nat.reduceLeDiff, Nat.reduceAdd, Nat.reduceSub, Nat.reduceMul, Int.reduceNeg, Int.reduceLE, Int.reduceLT, Int.reduceToNat, Int.reduceAdd, Int.reduceSub, Int.reduceMul, Int.reduceEq]
      (repeat (refine And.intro (by first | omega | decide) ?_))
      refine callG_v rfl cb75 rfl (fpOfOK _) (dOk_lt rfl) ?_
      simp only [push_cast, ↓Int.toNat_natCast, ↓Int.cast_ofNat_Int, Int.cast_ofNat_Int, ↓reduceIte, reduceCtorEq, Nat.reduceEqDiff, Nat.reduceLT, Nat.reduceLeDiff, Nat.reduceAdd, Nat.reduceSub, Nat.reduceMul, Int.reduceNeg, Int.reduceLE, Int.reduceLT, Int.reduceToNat, Int.reduceAdd, Int.reduceSub, Int.reduceMul, Int.reduceEq]
set_option maxRecDepth 100000 in
theorem refNum7_any (x : UInt64) (s : ByteArray) (hs : s.size ≤ 1000) (n : Int) (w : World) :
    Calls Tryd.prog 40 #[vU64 x, .string s, .int .i64 n] w fun e w' => e = .returned (.tuple #[vU64 (numOut x s n), .bool (wOk s n 1048576)]) ∧ Below w.heap.size w w' := by
  refine calls_v (n := 39) Tryd.func40 rfl Tryd.ntmps40 [.x (.a (.v (vU64 x))), .x (.a (.v (.string s))), .x (.a (.v (.int .i64 n)))] (by simp) (.t [.a (.v (vU64 (numOut x s n))), .a (.v (.bool (wOk s n 1048576)))]) (fun _ => rfl) ?_
  simp only [push_cast, ↓Int.toNat_natCast, ↓Int.cast_ofNat_Int, Int.cast_ofNat_Int, ↓reduceIte, reduceCtorEq, Nat.reduceEqDiff, Nat.reduceLT, Nat.reduceLeDiff, Nat.reduceAdd, Nat.reduceSub, Nat.reduceMul, Int.reduceNeg, Int.reduceLE, Int.reduceLT, Int.reduceToNat, Int.reduceAdd, Int.reduceSub, Int.reduceMul, Int.reduceEq]
  (repeat (refine And.intro (by first | omega | decide) ?_))
  refine callG_v rfl cb73 rfl (labelOK s hs) (dOk_lt rfl) ?_
  cases hl : labOk s
  · have hb := wOk_lab (n := n) (m := 1048576) hl
    simp only [numOut_no hb, hb, vU64_nought, undef, push_cast, ↓Int.toNat_natCast, ↓Int.cast_ofNat_Int, Int.cast_ofNat_Int, ↓reduceIte, reduceCtorEq, Nat.reduceEqDiff, Nat.reduceLT, Nat.reduceLeDiff, Nat.reduceAdd, Nat.reduceSub, Nat.reduceMul, Int.reduceNeg, Int.reduceLE, Int.reduceLT, Int.reduceToNat, Int.reduceAdd, Int.reduceSub, Int.reduceMul, Int.reduceEq]
  by_cases h0 : n < 0
  · have hb := wOk_lo (s := s) (m := 1048576) h0
    simp only [h0, numOut_no hb, hb, vU64_nought, undef, push_cast, ↓Int.toNat_natCast, ↓Int.cast_ofNat_Int, Int.cast_ofNat_Int, ↓reduceIte, reduceCtorEq, Nat.reduceEqDiff, Nat.reduceLT, Nat.reduceLeDiff, Nat.reduceAdd, Nat.reduceSub, Nat.reduceMul, Int.reduceNeg, Int.reduceLE, Int.reduceLT, Int.reduceToNat, Int.reduceAdd, Int.reduceSub, Int.reduceMul, Int.reduceEq]
  by_cases h1 : 1048576 < n
  · have hb := wOk_hi (s := s) h1
    simp only [h0, h1, numOut_no hb, hb, vU64_nought, undef, push_cast, ↓Int.toNat_natCast, ↓Int.cast_ofNat_Int, Int.cast_ofNat_Int, ↓reduceIte, reduceCtorEq, Nat.reduceEqDiff, Nat.reduceLT, Nat.reduceLeDiff, Nat.reduceAdd, Nat.reduceSub, Nat.reduceMul, Int.reduceNeg, Int.reduceLE, Int.reduceLT, Int.reduceToNat, Int.reduceAdd, Int.reduceSub, Int.reduceMul, Int.reduceEq]
  have hb := wOk_yes hl h0 h1
  rw [numOut_yes hb, hb]
  obtain ⟨m, rfl⟩ := Int.eq_ofNat_of_zero_le (show 0 ≤ n by omega)
  have hbl := prgBlk_length x s.data.toList m
  simp only [h0, h1, undef, push_cast, ↓Int.toNat_natCast, ↓Int.cast_ofNat_Int, Int.cast_ofNat_Int, ↓reduceIte, reduceCtorEq, Nat.reduceEqDiff, Nat.reduceLT, Nat.reduceLeDiff, Nat.reduceAdd, Nat.reduceSub, Nat.reduceMul, Int.reduceNeg, Int.reduceLE, Int.reduceLT, Int.reduceToNat, Int.reduceAdd, Int.reduceSub, Int.reduceMul, Int.reduceEq]
  (repeat (refine And.intro (by first | omega | decide) ?_))
  refine callG_v rfl cb74 rfl (refBlock7OK x s hs m (by omega)) (dOk_lt rfl) ?_
  simp only [hbl, undef, push_cast, ↓Int.toNat_natCast, ↓Int.cast_ofNat_Int, Int.cast_ofNat_Int, ↓reduceIte, reduceCtorEq, Nat.reduceEqDiff, Nat.reduceLT, Nat.reduceLeDiff, Nat.reduceAdd, Nat.reduceSub, Nat.reduceMul, Int.reduceNeg, Int.reduceLE, Int.reduceLT, Int.reduceToNat, Int.reduceAdd, Int.reduceSub, Int.reduceMul, Int.reduceEq]
  (repeat (refine And.intro (by first | omega | decide) ?_))
  refine loop_rule (ι := Nat) (fun k => ⟨[(8, .x (.a (.p 0 0))), (9, .x (.a (.v (vU64 (num8To (prgBlk x s.data.toList m) k))))), (10, .x (.a (.v (.int .i64 k))))], [.blk 23 (.u8 (prgBlk x s.data.toList m))]⟩)
    (fun k => k ≤ 8) (fun k => 8 - k) 0 [0] (by omega) ?_ ?_
  · simp only [num8To_zero, vU64_nought, push_cast, ↓Int.toNat_natCast, ↓Int.cast_ofNat_Int, Int.cast_ofNat_Int, ↓reduceIte, reduceCtorEq, Nat.reduceEqDiff, Nat.reduceLT, Nat.reduceLeDiff, Nat.reduceAdd, Nat.reduceSub, Nat.reduceMul, Int.reduceNeg, Int.reduceLE, Int.reduceLT, Int.reduceToNat, Int.reduceAdd, Int.reduceSub, Int.reduceMul, Int.reduceEq]
  · intro k hk8
    by_cases hlt : (k : Int) < 8
    · simp only [hlt, hbl, undef, push_cast, ↓Int.toNat_natCast, ↓Int.cast_ofNat_Int, Int.cast_ofNat_Int, ↓reduceIte, reduceCtorEq, Nat.reduceEqDiff, Nat.reduceLT, Nat.reduceLeDiff, Nat.reduceAdd, Nat.reduceSub, Nat.reduceMul, Int.reduceNeg, Int.reduceLE, Int.reduceLT, Int.reduceToNat, Int.reduceAdd, Int.reduceSub, Int.reduceMul, Int.reduceEq]
      (repeat (refine And.intro (by first | omega | decide) ?_))
      refine loopK_normal (k + 1) [0] (by omega) (by omega) ?_
      simp only [num8To_succ, num8_step, push_cast, ↓Int.toNat_natCast, ↓Int.cast_ofNat_Int, Int.cast_ofNat_Int, ↓reduceIte, reduceCtorEq, Nat.reduceEqDiff, Nat.reduceLT, Nat.reduceLeDiff, Nat.reduceAdd, Nat.reduceSub, Nat.reduceMul, Int.reduceNeg, Int.reduceLE, Int.reduceLT, Int.reduceToNat, Int.reduceAdd, Int.reduceSub, Int.reduceMul, Int.reduceEq]
    · have e : k = 8 := by omega
      subst e
      simp only [undef, Int.lt_irrefl, push_cast, ↓Int.toNat_natCast, ↓Int.cast_ofNat_Int, Int.cast_ofNat_Int, ↓reduceIte, reduceCtorEq, Nat.reduceEqDiff, Nat.reduceLT, Nat.reduceLeDiff, Nat.reduceAdd, Nat.reduceSub, Nat.reduceMul, Int.reduceNeg, Int.reduceLE, Int.reduceLT, Int.reduceToNat, Int.reduceAdd, Int.reduceSub, Int.reduceMul, Int.reduceEq]
      refine ⟨by decide, rfl⟩
section
variable {w0 : World} {hp : List Res}
theorem num7OK (x : UInt64) (s : ByteArray) (n : Int) (hk : LaidK 0 w0) : CallOK Tryd.prog w0 No 39 [.x (.a (.v (vU64 x))), .x (.a (.v (.string s))), .x (.a (.v (.int .i64 n)))] hp (.t [.a (.v (vU64 (numOut x s n))), .a (.v (wErr s n 1048576))]) hp := callOK_v fun _ w hS => num7_any x s n w (laid_later hk hS)
theorem refNum7OK {ow : Nat → Prop} (x : UInt64) (s : ByteArray) (hs : s.size ≤ 1000) (n : Int) : CallOK Tryd.prog w0 ow 40 [.x (.a (.v (vU64 x))), .x (.a (.v (.string s))), .x (.a (.v (.int .i64 n)))] hp (.t [.a (.v (vU64 (numOut x s n))), .a (.v (.bool (wOk s n 1048576)))]) hp := callOK_v fun _ w _ => refNum7_any x s hs n w
theorem words7OK (x : UInt64) (s : ByteArray) (n : Int) (hk : LaidK 0 w0) (hbr : ∀ r ∈ hp, Res.bnd hp.length r) : CallOK Tryd.prog w0 No 37 [.x (.a (.v (vU64 x))), .x (.a (.v (.string s))), .x (.a (.v (.int .i64 n)))] hp (.t [.a (.o hp.length), .a (.v (wErr s n 32))]) (hp ++ [.own 70 (.u32 (wOut x s n))]) :=
  callOK_own2 hbr trivial fun _ w hS => words7_any x s n w (laid_later hk hS)
theorem refWords7OK {ow : Nat → Prop} (x : UInt64) (s : ByteArray) (hs : s.size ≤ 1000) (n : Int) (hbr : ∀ r ∈ hp, Res.bnd hp.length r) : CallOK Tryd.prog w0 ow 38 [.x (.a (.v (vU64 x))), .x (.a (.v (.string s))), .x (.a (.v (.int .i64 n)))] hp (.t [.a (.o hp.length), .a (.v (.bool (wOk s n 32)))]) (hp ++ [.own 70 (.u32 (wOut x s n))]) :=
  callOK_own2 hbr trivial fun _ w _ => refWords7_any x s hs n w
end
set_option maxRecDepth 100000 in
theorem child7_any (x : UInt64) (s : ByteArray) (w : World) (hk : LaidK 0 w) :
    Calls Tryd.prog 41 #[vU64 x, .string s] w fun e w' => e = .returned (.tuple #[vU64 (numOut x s 0), wErr s 0 1048576]) ∧ Below w.heap.size w w' := by
  refine calls_v (n := 11) Tryd.func41 rfl Tryd.ntmps41 [.x (.a (.v (vU64 x))), .x (.a (.v (.string s)))] (by simp) (.t [.a (.v (vU64 (numOut x s 0))), .a (.v (wErr s 0 1048576))]) (fun _ => rfl) ?_
  simp only [push_cast, ↓Int.toNat_natCast, ↓Int.cast_ofNat_Int, Int.cast_ofNat_Int, ↓reduceIte, reduceCtorEq, Nat.reduceEqDiff, Nat.reduceLT, Nat.reduceLeDiff, Nat.reduceAdd, Nat.reduceSub, Nat.reduceMul, Int.reduceNeg, Int.reduceLE, Int.reduceLT, Int.reduceToNat, Int.reduceAdd, Int.reduceSub, Int.reduceMul, Int.reduceEq]
  refine callG_v rfl cb39 rfl (num7OK x s 0 hk) (dOk_lt rfl) ?_
  simp only [push_cast, ↓Int.toNat_natCast, ↓Int.cast_ofNat_Int, Int.cast_ofNat_Int, ↓reduceIte, reduceCtorEq, Nat.reduceEqDiff, Nat.reduceLT, Nat.reduceLeDiff, Nat.reduceAdd, Nat.reduceSub, Nat.reduceMul, Int.reduceNeg, Int.reduceLE, Int.reduceLT, Int.reduceToNat, Int.reduceAdd, Int.reduceSub, Int.reduceMul, Int.reduceEq]
theorem child7OK {w0 : World} {hp : List Res} (x : UInt64) (s : ByteArray) (hk : LaidK 0 w0) : CallOK Tryd.prog w0 No 41 [.x (.a (.v (vU64 x))), .x (.a (.v (.string s)))] hp (.t [.a (.v (vU64 (numOut x s 0))), .a (.v (wErr s 0 1048576))]) hp := callOK_v fun _ w hS => child7_any x s w (laid_later hk hS)
end Go.Proofs.YtkchdhkpjnnliaaDoor
