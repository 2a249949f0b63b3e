/- The walk of law 7's PrgParts. -/
import Derived.Test.YtkchdhkpjnnliaaDoorPg7
namespace Go.Proofs.YtkchdhkpjnnliaaDoor
open Go.RowKit
set_option linter.unusedSimpArgs false
theorem word4_nat (b : List UInt8) (o : Nat) : (word4 b o).toNat = (ix b o).toNat * 16777216 + (ix b (o + 1)).toNat * 65536 + (ix b (o + 2)).toNat * 256 + (ix b (o + 3)).toNat := by
  rw [← be4_word]
  generalize ix b o = p
  generalize ix b (o + 1) = q
  generalize ix b (o + 2) = r
  generalize ix b (o + 3) = t
  have hp := p.toNat_lt
  have hq := q.toNat_lt
  have hr := r.toNat_lt
  have ht := t.toNat_lt
  simp only [UInt32.toNat_add, UInt32.toNat_mul, UInt8.toNat_toUInt32]
  have e1 : (16777216 : UInt32).toNat = 16777216 := rfl
  have e2 : (65536 : UInt32).toNat = 65536 := rfl
  have e3 : (256 : UInt32).toNat = 256 := rfl
  rw [e1, e2, e3]
  omega
theorem num8_nat (b : List UInt8) (k : Nat) : (num8To b (k + 1)).toNat = (256 * (num8To b k).toNat + (ix b k).toNat) % 18446744073709551616 := by
  have hb := (ix b k).toNat_lt
  rw [num8To_succ, ← num8_step, UInt64.toNat_add, UInt64.toNat_mul, UInt8.toNat_toUInt64]
  have e3 : (256 : UInt64).toNat = 256 := rfl
  rw [e3]
  omega
theorem num8_halves (b : List UInt8) : num8To b 8 = shl64 (word4 b 0).toUInt64 32 + (word4 b 4).toUInt64 := by
  apply UInt64.toNat_inj.1
  have h0 : (num8To b 0).toNat = 0 := rfl
  have h1 := num8_nat b 0
  have h2 := num8_nat b 1
  have h3 := num8_nat b 2
  have h4 := num8_nat b 3
  have h5 := num8_nat b 4
  have h6 := num8_nat b 5
  have h7 := num8_nat b 6
  have h8 := num8_nat b 7
  have w0 := word4_nat b 0
  have w4 := word4_nat b 4
  have l0 := (ix b 0).toNat_lt
  have l1 := (ix b 1).toNat_lt
  have l2 := (ix b 2).toNat_lt
  have l3 := (ix b 3).toNat_lt
  have l4 := (ix b 4).toNat_lt
  have l5 := (ix b 5).toNat_lt
  have l6 := (ix b 6).toNat_lt
  have l7 := (ix b 7).toNat_lt
  unfold shl64
  rw [if_pos (by omega), UInt64.toNat_add, UInt64.toNat_shiftLeft, show (UInt64.ofNat 32).toNat % 64 = 32 from rfl, Nat.shiftLeft_eq, UInt32.toNat_toUInt64, UInt32.toNat_toUInt64]
  simp only [Nat.zero_add, Nat.reduceAdd] at h1 h2 h3 h4 h5 h6 h7 h8 w0 w4
  omega
theorem wOut_get (x : UInt64) (s : ByteArray) (p j : Nat) (hl : wOk s 32 32 = true) (hp : p < 4) (hj : j < 8) : ix (wOut x s 32) (8 * p + j) = word4 (prgBlk x s.data.toList p) (4 * j) := by
  rw [wOut_yes hl]
  show ix (wTo x s.data.toList 32) (8 * p + j) = _
  rw [wTo_get x _ 32 _ (by omega), show (8 * p + j) / 8 = p from by omega, show (8 * p + j) % 8 = j from by omega]
  rfl
theorem n8_mod4 (u : UInt8) : ∃ p : Nat, n8 (u % 4) = p ∧ p < 4 := ⟨(u % 4).toNat, rfl, by
  rw [UInt8.toNat_mod]
  have h : (4 : UInt8).toNat = 4 := rfl
  rw [h]
  omega⟩
attribute [local irreducible] Callable CallOK CallG CallM DrawG LoopG symR symM
attribute [local irreducible] wTo wOk numOut wOut word4 num8To
set_option maxRecDepth 100000 in
set_option maxHeartbeats 8000000 in
theorem prgParts_any (x : UInt64) (s : ByteArray) (u : UInt8) (w : World) (hk : LaidK 0 w) (hg : Handle w) :
    Calls Tryd.prog 11 #[vU64 x, .string s, vU8 u] w fun e w' => e = .returned (.bool true) ∧ Below w.heap.size w w' := by
  refine calls_v (n := 102) Tryd.func11 rfl Tryd.ntmps11 [.x (.a (.v (vU64 x))), .x (.a (.v (.string s))), .x (.a (.v (vU8 u)))] (by simp) (.x (.a (.v (.bool true)))) (fun _ => rfl) ?_
  simp only [push_cast, ↓Int.toNat_natCast, ↓Int.cast_ofNat_Int, Int.cast_ofNat_Int, ↓reduceIte, reduceCtorEq, Nat.reduceEqDiff, Nat.reduceLT, Nat.reduceLeDiff, Nat.reduceAdd, Nat.reduceSub, Nat.reduceMul, Int.reduceNeg, Int.reduceLE, Int.reduceLT, Int.reduceToNat, Int.reduceAdd, Int.reduceSub, Int.reduceMul, Int.reduceEq]
  by_cases h64 : (64 : Int) < s.size
  · simp only [h64, push_cast, ↓Int.toNat_natCast, ↓Int.cast_ofNat_Int, Int.cast_ofNat_Int, ↓reduceIte, reduceCtorEq, Nat.reduceEqDiff, Nat.reduceLT, Nat.reduceLeDiff, Nat.reduceAdd, Nat.reduceSub, Nat.reduceMul, Int.reduceNeg, Int.reduceLE, Int.reduceLT, Int.reduceToNat, Int.reduceAdd, Int.reduceSub, Int.reduceMul, Int.reduceEq]
    refine callG_v rfl cb36 rfl (sure07OK hk hg) (dOk_lt rfl) ?_
    simp only [h64, push_cast, ↓Int.toNat_natCast, ↓Int.cast_ofNat_Int, Int.cast_ofNat_Int, ↓reduceIte, reduceCtorEq, Nat.reduceEqDiff, Nat.reduceLT, Nat.reduceLeDiff, Nat.reduceAdd, Nat.reduceSub, Nat.reduceMul, Int.reduceNeg, Int.reduceLE, Int.reduceLT, Int.reduceToNat, Int.reduceAdd, Int.reduceSub, Int.reduceMul, Int.reduceEq]
  obtain ⟨p, hp, hp4⟩ := n8_mod4 u
  have b1 : inU8 (p : Int) := ⟨by omega, by omega⟩
  simp only [h64, push_cast, ↓Int.toNat_natCast, ↓Int.cast_ofNat_Int, Int.cast_ofNat_Int, ↓reduceIte, reduceCtorEq, Nat.reduceEqDiff, Nat.reduceLT, Nat.reduceLeDiff, Nat.reduceAdd, Nat.reduceSub, Nat.reduceMul, Int.reduceNeg, Int.reduceLE, Int.reduceLT, Int.reduceToNat, Int.reduceAdd, Int.reduceSub, Int.reduceMul, Int.reduceEq]
  refine callG_x rfl cb37 rfl (words7OK x s 32 hk (by simp only [push_cast, ↓Int.toNat_natCast, ↓Int.cast_ofNat_Int, Int.cast_ofNat_Int, ↓reduceIte, reduceCtorEq, Nat.reduceEqDiff, Nat.reduceLT, Nat.reduceLeDiff, Nat.reduceAdd, Nat.reduceSub, Nat.reduceMul, Int.reduceNeg, Int.reduceLE, Int.reduceLT, Int.reduceToNat, Int.reduceAdd, Int.reduceSub, Int.reduceMul, Int.reduceEq])) (dOk_lt rfl) (by simp only [push_cast, ↓Int.toNat_natCast, ↓Int.cast_ofNat_Int, Int.cast_ofNat_Int, ↓reduceIte, reduceCtorEq, Nat.reduceEqDiff, Nat.reduceLT, Nat.reduceLeDiff, Nat.reduceAdd, Nat.reduceSub, Nat.reduceMul, Int.reduceNeg, Int.reduceLE, Int.reduceLT, Int.reduceToNat, Int.reduceAdd, Int.reduceSub, Int.reduceMul, Int.reduceEq]) ?_
  simp (config := { maxSteps := 300000 }) only [hp, b1, undef, push_cast, ↓Int.toNat_natCast, ↓Int.cast_ofNat_Int, Int.cast_ofNat_Int, ↓reduceIte, reduceCtorEq, Nat.reduceEqDiff, Nat.reduceLT, Nat.reduceLeDiff, Nat.reduceAdd, Nat.reduceSub, Nat.reduceMul, Int.reduceNeg, Int.reduceLE, Int.reduceLT, Int.reduceToNat, Int.reduceAdd, Int.reduceSub, Int.reduceMul, Int.reduceEq]
  refine ⟨by decide, ?_⟩
  refine callG_v rfl cb39 rfl (num7OK x s p hk) (dOk_lt rfl) ?_
  simp (config := { maxSteps := 300000 }) only [hp, b1, undef, push_cast, ↓Int.toNat_natCast, ↓Int.cast_ofNat_Int, Int.cast_ofNat_Int, ↓reduceIte, reduceCtorEq, Nat.reduceEqDiff, Nat.reduceLT, Nat.reduceLeDiff, Nat.reduceAdd, Nat.reduceSub, Nat.reduceMul, Int.reduceNeg, Int.reduceLE, Int.reduceLT, Int.reduceToNat, Int.reduceAdd, Int.reduceSub, Int.reduceMul, Int.reduceEq]
  refine callG_v rfl cb41 rfl (child7OK x s hk) (dOk_lt rfl) ?_
  have k0 : wOk s 32 32 = labOk s := (wOk_lab_eq s 32 (by omega)).1
  have kp : wOk s p 1048576 = labOk s := (wOk_lab_eq s p (by omega)).2
  have kc : wOk s 0 1048576 = labOk s := (wOk_lab_eq s 0 (by omega)).2
  cases hl : labOk s
  · rw [hl] at k0 kp kc
    have lA := hl
    have g0 := hl
    have g1 := hl
    have g2 := hl
    have g3 := hl
    have t0 := hl
    have t1 := hl
    have q0 := hl
    have q1 := hl
    simp (config := { maxSteps := 300000 }) only [hp, wErr_if, k0, kp, kc, lA, g0, g1, g2, g3, t0, t1, q0, q1, undef, beq_self_eq_true, push_cast, ↓Int.toNat_natCast, ↓Int.cast_ofNat_Int, Int.cast_ofNat_Int, ↓reduceIte, reduceCtorEq, Nat.reduceEqDiff, Nat.reduceLT, Nat.reduceLeDiff, Nat.reduceAdd, Nat.reduceSub, Nat.reduceMul, Int.reduceNeg, Int.reduceLE, Int.reduceLT, Int.reduceToNat, Int.reduceAdd, Int.reduceSub, Int.reduceMul, Int.reduceEq]
    refine callG_v rfl cb36 rfl (sure07OK hk hg) (dOk_lt rfl) ?_
    simp (config := { maxSteps := 300000 }) only [hp, wErr_if, k0, kp, kc, lA, g0, g1, g2, g3, t0, t1, q0, q1, undef, beq_self_eq_true, push_cast, ↓Int.toNat_natCast, ↓Int.cast_ofNat_Int, Int.cast_ofNat_Int, ↓reduceIte, reduceCtorEq, Nat.reduceEqDiff, Nat.reduceLT, Nat.reduceLeDiff, Nat.reduceAdd, Nat.reduceSub, Nat.reduceMul, Int.reduceNeg, Int.reduceLE, Int.reduceLT, Int.reduceToNat, Int.reduceAdd, Int.reduceSub, Int.reduceMul, Int.reduceEq]
  · rw [hl] at k0 kp kc
    have lA : (wOut x s 32).length = 32 := by rw [wOut_yes k0]; exact wTo_length _ _ _
    have g0 : ix (wOut x s 32) (8 * p) = word4 (prgBlk x s.data.toList p) 0 := wOut_get x s p 0 k0 hp4 (by omega)
    have g1 : ix (wOut x s 32) (8 * p + 1) = word4 (prgBlk x s.data.toList p) 4 := wOut_get x s p 1 k0 hp4 (by omega)
    have g2 : ix (wOut x s 32) 0 = word4 (prgBlk x s.data.toList 0) 0 := wOut_get x s 0 0 k0 (by omega) (by omega)
    have g3 : ix (wOut x s 32) 1 = word4 (prgBlk x s.data.toList 0) 4 := wOut_get x s 0 1 k0 (by omega) (by omega)
    have t0 : (8 * (p : Int)).toNat = 8 * p := by omega
    have t1 : (8 * (p : Int) + 1).toNat = 8 * p + 1 := by omega
    have q0 : numOut x s p = (shl64 (word4 (prgBlk x s.data.toList p) 0).toUInt64 32 + (word4 (prgBlk x s.data.toList p) 4).toUInt64) % 2305843009213693951 := by
      rw [numOut_yes kp, ← num8_halves]; rfl
    have q1 : numOut x s 0 = (shl64 (word4 (prgBlk x s.data.toList 0) 0).toUInt64 32 + (word4 (prgBlk x s.data.toList 0) 4).toUInt64) % 2305843009213693951 := by
      rw [numOut_yes kc, ← num8_halves]; rfl
    simp (config := { maxSteps := 300000 }) only [hp, wErr_if, k0, kp, kc, lA, g0, g1, g2, g3, t0, t1, q0, q1, undef, beq_self_eq_true, push_cast, ↓Int.toNat_natCast, ↓Int.cast_ofNat_Int, Int.cast_ofNat_Int, ↓reduceIte, reduceCtorEq, Nat.reduceEqDiff, Nat.reduceLT, Nat.reduceLeDiff, Nat.reduceAdd, Nat.reduceSub, Nat.reduceMul, Int.reduceNeg, Int.reduceLE, Int.reduceLT, Int.reduceToNat, Int.reduceAdd, Int.reduceSub, Int.reduceMul, Int.reduceEq]
    (repeat (refine And.intro (by first | omega | decide) ?_))
    refine draw_rule [(0, true), (1, true), (2, true), (3, true), (4, true), (5, true), (6, true), (7, true), (8, true), (9, true), (10, true), (11, true), (12, true), (13, true), (14, true), (15, true)] (by kernel_rfl) (by kernel_rfl) rfl (by kernel_rfl) ?_
    simp (config := { maxSteps := 300000 }) only [hp, wErr_if, k0, kp, kc, lA, g0, g1, g2, g3, t0, t1, q0, q1, undef, beq_self_eq_true, push_cast, ↓Int.toNat_natCast, ↓Int.cast_ofNat_Int, Int.cast_ofNat_Int, ↓reduceIte, reduceCtorEq, Nat.reduceEqDiff, Nat.reduceLT, Nat.reduceLeDiff, Nat.reduceAdd, Nat.reduceSub, Nat.reduceMul, Int.reduceNeg, Int.reduceLE, Int.reduceLT, Int.reduceToNat, Int.reduceAdd, Int.reduceSub, Int.reduceMul, Int.reduceEq]
    (repeat (refine And.intro (by first | omega | decide) ?_))
    refine draw_rule [(0, true), (1, true), (2, true), (3, true), (4, true), (5, true), (6, true), (7, true), (8, true), (9, true), (10, true)] (by kernel_rfl) (by kernel_rfl) rfl (by kernel_rfl) ?_
    simp (config := { maxSteps := 300000 }) only [hp, wErr_if, k0, kp, kc, lA, g0, g1, g2, g3, t0, t1, q0, q1, undef, beq_self_eq_true, push_cast, ↓Int.toNat_natCast, ↓Int.cast_ofNat_Int, Int.cast_ofNat_Int, ↓reduceIte, reduceCtorEq, Nat.reduceEqDiff, Nat.reduceLT, Nat.reduceLeDiff, Nat.reduceAdd, Nat.reduceSub, Nat.reduceMul, Int.reduceNeg, Int.reduceLE, Int.reduceLT, Int.reduceToNat, Int.reduceAdd, Int.reduceSub, Int.reduceMul, Int.reduceEq]
    (repeat (refine And.intro (by first | omega | decide) ?_))
    refine callG_v rfl cb36 rfl (sure07OK hk hg) (dOk_lt rfl) ?_
    simp (config := { maxSteps := 300000 }) only [hp, wErr_if, k0, kp, kc, lA, g0, g1, g2, g3, t0, t1, q0, q1, undef, beq_self_eq_true, push_cast, ↓Int.toNat_natCast, ↓Int.cast_ofNat_Int, Int.cast_ofNat_Int, ↓reduceIte, reduceCtorEq, Nat.reduceEqDiff, Nat.reduceLT, Nat.reduceLeDiff, Nat.reduceAdd, Nat.reduceSub, Nat.reduceMul, Int.reduceNeg, Int.reduceLE, Int.reduceLT, Int.reduceToNat, Int.reduceAdd, Int.reduceSub, Int.reduceMul, Int.reduceEq]
end Go.Proofs.YtkchdhkpjnnliaaDoor
