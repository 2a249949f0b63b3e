/- fp.Mul: the product of two numbers of the field. -/
import Derived.Test.YtkchdhkpjnnliaaDoorFp1
namespace Go.Proofs.YtkchdhkpjnnliaaDoor
open Go.RowKit
set_option linter.unusedSimpArgs false
section
variable {w0 : World} {ow : Nat → Prop} {hp : List Res}
theorem fpOfK (v : UInt64) : CallOK Tryd.prog w0 ow 75 [.x (.a (.v (vU64 v)))] hp (.x (.a (.v (vU64 (v % fpP))))) hp := callOK_v fun _ w _ => fpOf_any v w
theorem mul64K (x y : UInt64) : CallOK Tryd.prog w0 ow 96 [.x (.a (.v (vU64 x))), .x (.a (.v (vU64 y)))] hp (.t [.a (.v (vU64 (mulHi x y))), .a (.v (vU64 (x * y)))]) hp := callOK_v fun _ w _ => mul64_any x y w
end
def fpMul (a b : UInt64) : UInt64 := ((shl64 (mulHi (a % fpP) (b % fpP)) 3 ||| shr64 ((a % fpP) * (b % fpP)) 61) + ((a % fpP) * (b % fpP) &&& fpP)) % fpP
set_option maxRecDepth 100000 in
theorem fpMul_any (a b : UInt64) (w : World) : Calls Tryd.prog 91 #[vU64 a, vU64 b] w fun e w' => e = .returned (vU64 (fpMul a b)) ∧ Below w.heap.size w w' := by
  refine calls_v (n := 24) Tryd.func91 rfl Tryd.ntmps91 [.x (.a (.v (vU64 a))), .x (.a (.v (vU64 b)))] (by simp) (.x (.a (.v (vU64 (fpMul a b))))) (fun _ => rfl) ?_
  simp only [push_cast, ↓Int.toNat_natCast, ↓Int.cast_ofNat_Int, Int.cast_ofNat_Int, ↓reduceIte, reduceCtorEq, Nat.reduceEqDiff, Nat.reduceLT, Nat.reduceLeDiff, Nat.reduceAdd, Nat.reduceSub, Nat.reduceMul, Int.reduceNeg, Int.reduceLE, Int.reduceLT, Int.reduceToNat, Int.reduceAdd, Int.reduceSub, Int.reduceMul, Int.reduceEq]
  (repeat (refine And.intro (by first | omega | decide) ?_))
  refine callG_v rfl cb75 rfl (fpOfK _) (dOk_lt rfl) ?_
  simp only [push_cast, ↓Int.toNat_natCast, ↓Int.cast_ofNat_Int, Int.cast_ofNat_Int, ↓reduceIte, reduceCtorEq, Nat.reduceEqDiff, Nat.reduceLT, Nat.reduceLeDiff, Nat.reduceAdd, Nat.reduceSub, Nat.reduceMul, Int.reduceNeg, Int.reduceLE, Int.reduceLT, Int.reduceToNat, Int.reduceAdd, Int.reduceSub, Int.reduceMul, Int.reduceEq]
  (repeat (refine And.intro (by first | omega | decide) ?_))
  refine callG_v rfl cb75 rfl (fpOfK _) (dOk_lt rfl) ?_
  simp only [push_cast, ↓Int.toNat_natCast, ↓Int.cast_ofNat_Int, Int.cast_ofNat_Int, ↓reduceIte, reduceCtorEq, Nat.reduceEqDiff, Nat.reduceLT, Nat.reduceLeDiff, Nat.reduceAdd, Nat.reduceSub, Nat.reduceMul, Int.reduceNeg, Int.reduceLE, Int.reduceLT, Int.reduceToNat, Int.reduceAdd, Int.reduceSub, Int.reduceMul, Int.reduceEq]
  (repeat (refine And.intro (by first | omega | decide) ?_))
  refine callG_v rfl cb96 rfl (mul64K _ _) (dOk_lt rfl) ?_
  simp only [push_cast, ↓Int.toNat_natCast, ↓Int.cast_ofNat_Int, Int.cast_ofNat_Int, ↓reduceIte, reduceCtorEq, Nat.reduceEqDiff, Nat.reduceLT, Nat.reduceLeDiff, Nat.reduceAdd, Nat.reduceSub, Nat.reduceMul, Int.reduceNeg, Int.reduceLE, Int.reduceLT, Int.reduceToNat, Int.reduceAdd, Int.reduceSub, Int.reduceMul, Int.reduceEq]
  (repeat (refine And.intro (by first | omega | decide) ?_))
  refine callG_v rfl cb75 rfl (fpOfK _) (dOk_lt rfl) ?_
  simp only [push_cast, ↓Int.toNat_natCast, ↓Int.cast_ofNat_Int, Int.cast_ofNat_Int, ↓reduceIte, reduceCtorEq, Nat.reduceEqDiff, Nat.reduceLT, Nat.reduceLeDiff, Nat.reduceAdd, Nat.reduceSub, Nat.reduceMul, Int.reduceNeg, Int.reduceLE, Int.reduceLT, Int.reduceToNat, Int.reduceAdd, Int.reduceSub, Int.reduceMul, Int.reduceEq]
  (repeat (refine And.intro (by first | omega | decide) ?_))
  rfl
/-- What the product is, in plain numbers. -/
theorem fpMul_toNat (a b : UInt64) : (fpMul a b).toNat = a.toNat * b.toNat % 2305843009213693951 := by
  have ha : (a % fpP).toNat = a.toNat % 2305843009213693951 := by rw [UInt64.toNat_mod]; rfl
  have hb : (b % fpP).toNat = b.toNat % 2305843009213693951 := by rw [UInt64.toNat_mod]; rfl
  have la : (a % fpP).toNat < 2305843009213693951 := by rw [ha]; exact Nat.mod_lt _ (by omega)
  have lb : (b % fpP).toNat < 2305843009213693951 := by rw [hb]; exact Nat.mod_lt _ (by omega)
  rw [Nat.mul_mod, ← ha, ← hb]
  unfold fpMul
  generalize a % fpP = x at *
  generalize b % fpP = y at *
  have hm : x.toNat * y.toNat ≤ 2305843009213693950 * 2305843009213693950 := Nat.mul_le_mul (by omega) (by omega)
  have e1 := mulHi_toNat x y
  have e2 : (x * y).toNat = x.toNat * y.toNat % 18446744073709551616 := by rw [UInt64.toNat_mul]
  generalize mulHi x y = h at *
  generalize x * y = l at *
  generalize x.toNat * y.toNat = n at *
  have e3 : (shl64 h 3 ||| shr64 l 61).toNat = n / 2305843009213693952 := by
    have f1 : (shl64 h 3).toNat = h.toNat * 2 ^ 3 := by
      show (h <<< UInt64.ofNat 3).toNat = _
      rw [UInt64.toNat_shiftLeft]
      show h.toNat <<< 3 % 2 ^ 64 = _
      rw [Nat.shiftLeft_eq]
      exact Nat.mod_eq_of_lt (by omega)
    have f2 : (shr64 l 61).toNat = l.toNat / 2 ^ 61 := by
      show (l >>> UInt64.ofNat 61).toNat = _
      rw [UInt64.toNat_shiftRight]
      exact Nat.shiftRight_eq_div_pow l.toNat 61
    have f3 := l.toNat_lt
    rw [UInt64.toNat_or, f1, f2, Nat.mul_comm, ← Nat.two_pow_add_eq_or_of_lt (by omega)]
    omega
  have e4 : (l &&& fpP).toNat = n % 2305843009213693952 := by
    rw [UInt64.toNat_and]
    show l.toNat &&& (2 ^ 61 - 1) = _
    rw [Nat.and_two_pow_sub_one_eq_mod]
    omega
  rw [UInt64.toNat_mod, UInt64.toNat_add, e3, e4]
  have k1 : n / 2305843009213693952 ≤ 2305843009213693952 := by omega
  have k2 : n % 2305843009213693952 < 2305843009213693952 := Nat.mod_lt _ (by omega)
  have k3 : n = 2305843009213693951 * (n / 2305843009213693952) + (n / 2305843009213693952 + n % 2305843009213693952) := by omega
  rw [Nat.mod_eq_of_lt (show n / 2305843009213693952 + n % 2305843009213693952 < 2 ^ 64 by omega)]
  show (n / 2305843009213693952 + n % 2305843009213693952) % 2305843009213693951 = _
  generalize n / 2305843009213693952 + n % 2305843009213693952 = s at *
  rw [k3, Nat.mul_add_mod]
end Go.Proofs.YtkchdhkpjnnliaaDoor
