import Derived.Test.YtiaeollemmkclaaDoorVa1
import Derived.Test.YtiaeollemmkclaaDoorPk1
import Derived.Test.YtiaeollemmkclaaDoorHnd
/- varint: the size of a number, and its bytes (layer 11). -/
namespace Go.Proofs.YtiaeollemmkclaaDoor
open Go.RowKit
set_option linter.unusedSimpArgs false
set_option linter.unusedVariables false
/-- How many bits a number has. -/
def blN (n : Nat) : Nat := if n = 0 then 0 else Nat.log2 n + 1
/-- A string that tells how many bits a byte has. -/
structure LenT (T : ByteArray) : Prop where
  size : T.size = 256
  at_ : ∀ x : UInt8, sAt T x.toNat = UInt8.ofNat (blN x.toNat)
theorem LenT.of {T : ByteArray} (h0 : T.size = 256) (h : ∀ i : _root_.Fin 256, sAt T i.val = UInt8.ofNat (blN i.val)) : LenT T := ⟨h0, fun x => h ⟨x.toNat, x.toNat_lt⟩⟩
theorem blN_lo {a : Nat} (n k : Nat) (h : 2 ^ k ≤ n) (e : n / 2 ^ k = a) : blN n = k + blN a := by
  subst e
  have hp := Nat.two_pow_pos k
  have h0 : n ≠ 0 := by omega
  have h1 : n / 2 ^ k ≠ 0 := by
    have := (Nat.le_div_iff_mul_le hp).2 (by omega : 1 * 2 ^ k ≤ n)
    omega
  unfold blN
  rw [if_neg h0, if_neg h1]
  have h2 : Nat.log2 n = k + Nat.log2 (n / 2 ^ k) := by
    apply (Nat.log2_eq_iff h0).2
    obtain ⟨g1, g2⟩ := (Nat.log2_eq_iff h1).1 rfl
    have g3 := Nat.div_add_mod n (2 ^ k)
    have g4 := Nat.mod_lt n hp
    constructor
    · rw [Nat.pow_add]
      have := Nat.mul_le_mul_left (2 ^ k) g1
      omega
    · rw [Nat.add_assoc, Nat.pow_add]
      have := Nat.mul_le_mul_left (2 ^ k) (Nat.succ_le_of_lt g2)
      rw [Nat.mul_succ] at this
      omega
  omega
theorem blN_le {n k : Nat} (h : n < 2 ^ k) : blN n ≤ k := by
  unfold blN
  split
  · omega
  · rename_i h0
    have := (Nat.log2_lt h0).2 h
    omega
theorem shr_toNat (v : UInt64) (k : Nat) (h : k < 64) : (shr64 v k).toNat = v.toNat / 2 ^ k := by
  unfold shr64
  rw [if_pos h, UInt64.toNat_shiftRight, UInt64.toNat_ofNat', Nat.shiftRight_eq_div_pow]
  congr 2
  omega
def bl64 (v : UInt64) : Int := (blN v.toNat : Int)
/-- One step: it has at least k bits more than what is left. -/
theorem bl_step (v : UInt64) (k : Nat) (h : k < 64) (hv : 2 ^ k ≤ v.toNat) : bl64 v = (k : Int) + bl64 (shr64 v k) := by
  unfold bl64
  rw [blN_lo v.toNat k hv rfl, shr_toNat v k h]
  push_cast
theorem bl_last {T : ByteArray} (hT : LenT T) (v : UInt64) (h : v.toNat < 256) : (n8 (sAt T v.toUInt8.toNat) : Int) = bl64 v := by
  have e : v.toUInt8.toNat = v.toNat := by simp; omega
  have hb := blN_le (n := v.toNat) (k := 8) h
  rw [hT.at_, e]
  unfold n8 bl64
  rw [UInt8.toNat_ofNat']
  omega
attribute [local irreducible] Callable CallOK CallG CallM DrawG LoopG symR symM
set_option maxRecDepth 100000 in
theorem len64_any (v : UInt64) (w : World) : Calls Tryd.prog 167 #[vU64 v] w fun e w' => e = .returned (.int .i64 (bl64 v)) ∧ Below w.heap.size w w' := by
  refine calls_v (n := 25) Tryd.func167 rfl Tryd.ntmps167 [.x (.a (.v (vU64 v)))] (by simp) (.x (.a (.v (.int .i64 (bl64 v))))) (fun _ => rfl) ?_
  generalize hT : ByteArray.mk _ = T
  have T0 : LenT T := by
    subst hT
    exact LenT.of (by decide +kernel) (by decide +kernel)
  clear hT
  have hs := T0.size
  have key : ∀ x : UInt64, x.toNat < 256 → bl64 x = n8 (sAt T x.toUInt8.toNat) := fun x h => (bl_last T0 x h).symm
  have hn : ∀ x : UInt8, (n8 x).toNat = x.toNat := fun x => Int.toNat_natCast _
  have hb : ∀ x : UInt8, (0 : Int) ≤ n8 x ∧ n8 x < 256 := fun x => ⟨Int.natCast_nonneg _, by have := x.toNat_lt; unfold n8; omega⟩
  have st : ∀ (x : UInt64) (k : Nat) (K : UInt64), k < 64 → K.toNat = 2 ^ k → K ≤ x → bl64 x = (k : Int) + bl64 (shr64 x k) := fun x k K h hK hx => bl_step x k h (by rw [← hK]; exact UInt64.le_iff_toNat_le.1 hx)
  have s1 := st v 32 4294967296 (by decide) (by decide)
  have lt : ∀ (x : UInt64) (k m : Nat), k < 64 → x.toNat < 2 ^ (k + m) → (shr64 x k).toNat < 2 ^ m := fun x k m hk hx => by
    rw [shr_toNat x k hk, Nat.div_lt_iff_lt_mul (Nat.two_pow_pos k), ← Nat.pow_add, Nat.add_comm m k]
    exact hx
  have no : ∀ (x K : UInt64), ¬ K ≤ x → x.toNat < K.toNat := fun x K h => by
    rcases Nat.lt_or_ge x.toNat K.toNat with g | g
    · exact g
    · exact absurd (UInt64.le_iff_toNat_le.2 g) h
  have run : ∀ (y : UInt64) (c : Int), y.toNat < 256 → 0 ≤ c → c ≤ 56 → bl64 v = c + bl64 y → (0 : Int) ≤ n8 y.toUInt8 ∧ n8 y.toUInt8 < 256 ∧ -9223372036854775808 ≤ c + n8 (sAt T y.toUInt8.toNat) ∧ c + n8 (sAt T y.toUInt8.toNat) ≤ 9223372036854775807 ∧ c + n8 (sAt T y.toUInt8.toNat) = bl64 v := fun y c hy h0 h1 h2 => by
    have := key y hy
    have := hb (sAt T y.toUInt8.toNat)
    have := hb y.toUInt8
    omega
  by_cases g1 : (4294967296 : UInt64) ≤ v
  · have eg1 := st (v) 32 4294967296 (by decide) (by decide) g1
    by_cases g2 : (65536 : UInt64) ≤ shr64 v 32
    · have eg2 := st (shr64 v 32) 16 65536 (by decide) (by decide) g2
      by_cases g3 : (256 : UInt64) ≤ shr64 (shr64 v 32) 16
      · have eg3 := st (shr64 (shr64 v 32) 16) 8 256 (by decide) (by decide) g3
        have hy : (shr64 (shr64 (shr64 v 32) 16) 8).toNat < 256 := lt (shr64 (shr64 v 32) 16) 8 8 (by decide) (lt (shr64 v 32) 16 16 (by decide) (lt (v) 32 32 (by decide) (Nat.lt_of_lt_of_le v.toNat_lt (by decide))))
        obtain ⟨r1, r2, r3, r4, r5⟩ := run (shr64 (shr64 (shr64 v 32) 16) 8) 56 hy (by decide) (by decide) (by omega)
        simp (config := { maxSteps := 1000000 }) only [g1, g2, g3, hs, hn, r1, r2, r3, r4, r5, undef, push_cast, ↓Int.toNat_natCast, ↓Int.cast_ofNat_Int, Int.cast_ofNat_Int, ↓reduceIte, reduceCtorEq, Nat.reduceEqDiff, Nat.reduceLT, Nat.reduceLeDiff, Nat.reduceAdd, Nat.reduceSub, Nat.reduceMul, Int.reduceNeg, Int.reduceLE, Int.reduceLT, Int.reduceToNat, Int.reduceAdd, Int.reduceSub, Int.reduceMul, Int.reduceEq]
        all_goals (first | exact r5 | omega)
      · have ng3 := no (shr64 (shr64 v 32) 16) 256 g3
        have hy : (shr64 (shr64 v 32) 16).toNat < 256 := by have := ng3; exact this
        obtain ⟨r1, r2, r3, r4, r5⟩ := run (shr64 (shr64 v 32) 16) 48 hy (by decide) (by decide) (by omega)
        simp (config := { maxSteps := 1000000 }) only [g1, g2, g3, hs, hn, r1, r2, r3, r4, r5, undef, push_cast, ↓Int.toNat_natCast, ↓Int.cast_ofNat_Int, Int.cast_ofNat_Int, ↓reduceIte, reduceCtorEq, Nat.reduceEqDiff, Nat.reduceLT, Nat.reduceLeDiff, Nat.reduceAdd, Nat.reduceSub, Nat.reduceMul, Int.reduceNeg, Int.reduceLE, Int.reduceLT, Int.reduceToNat, Int.reduceAdd, Int.reduceSub, Int.reduceMul, Int.reduceEq]
        all_goals (first | exact r5 | omega)
    · have ng2 := no (shr64 v 32) 65536 g2
      by_cases g3 : (256 : UInt64) ≤ shr64 v 32
      · have eg3 := st (shr64 v 32) 8 256 (by decide) (by decide) g3
        have hy : (shr64 (shr64 v 32) 8).toNat < 256 := lt (shr64 v 32) 8 8 (by decide) (by have := ng2; exact this)
        obtain ⟨r1, r2, r3, r4, r5⟩ := run (shr64 (shr64 v 32) 8) 40 hy (by decide) (by decide) (by omega)
        simp (config := { maxSteps := 1000000 }) only [g1, g2, g3, hs, hn, r1, r2, r3, r4, r5, undef, push_cast, ↓Int.toNat_natCast, ↓Int.cast_ofNat_Int, Int.cast_ofNat_Int, ↓reduceIte, reduceCtorEq, Nat.reduceEqDiff, Nat.reduceLT, Nat.reduceLeDiff, Nat.reduceAdd, Nat.reduceSub, Nat.reduceMul, Int.reduceNeg, Int.reduceLE, Int.reduceLT, Int.reduceToNat, Int.reduceAdd, Int.reduceSub, Int.reduceMul, Int.reduceEq]
        all_goals (first | exact r5 | omega)
      · have ng3 := no (shr64 v 32) 256 g3
        have hy : (shr64 v 32).toNat < 256 := by have := ng3; exact this
        obtain ⟨r1, r2, r3, r4, r5⟩ := run (shr64 v 32) 32 hy (by decide) (by decide) (by omega)
        simp (config := { maxSteps := 1000000 }) only [g1, g2, g3, hs, hn, r1, r2, r3, r4, r5, undef, push_cast, ↓Int.toNat_natCast, ↓Int.cast_ofNat_Int, Int.cast_ofNat_Int, ↓reduceIte, reduceCtorEq, Nat.reduceEqDiff, Nat.reduceLT, Nat.reduceLeDiff, Nat.reduceAdd, Nat.reduceSub, Nat.reduceMul, Int.reduceNeg, Int.reduceLE, Int.reduceLT, Int.reduceToNat, Int.reduceAdd, Int.reduceSub, Int.reduceMul, Int.reduceEq]
        all_goals (first | exact r5 | omega)
  · have ng1 := no (v) 4294967296 g1
    by_cases g2 : (65536 : UInt64) ≤ v
    · have eg2 := st (v) 16 65536 (by decide) (by decide) g2
      by_cases g3 : (256 : UInt64) ≤ shr64 v 16
      · have eg3 := st (shr64 v 16) 8 256 (by decide) (by decide) g3
        have hy : (shr64 (shr64 v 16) 8).toNat < 256 := lt (shr64 v 16) 8 8 (by decide) (lt (v) 16 16 (by decide) (by have := ng1; exact this))
        obtain ⟨r1, r2, r3, r4, r5⟩ := run (shr64 (shr64 v 16) 8) 24 hy (by decide) (by decide) (by omega)
        simp (config := { maxSteps := 1000000 }) only [g1, g2, g3, hs, hn, r1, r2, r3, r4, r5, undef, push_cast, ↓Int.toNat_natCast, ↓Int.cast_ofNat_Int, Int.cast_ofNat_Int, ↓reduceIte, reduceCtorEq, Nat.reduceEqDiff, Nat.reduceLT, Nat.reduceLeDiff, Nat.reduceAdd, Nat.reduceSub, Nat.reduceMul, Int.reduceNeg, Int.reduceLE, Int.reduceLT, Int.reduceToNat, Int.reduceAdd, Int.reduceSub, Int.reduceMul, Int.reduceEq]
        all_goals (first | exact r5 | omega)
      · have ng3 := no (shr64 v 16) 256 g3
        have hy : (shr64 v 16).toNat < 256 := by have := ng3; exact this
        obtain ⟨r1, r2, r3, r4, r5⟩ := run (shr64 v 16) 16 hy (by decide) (by decide) (by omega)
        simp (config := { maxSteps := 1000000 }) only [g1, g2, g3, hs, hn, r1, r2, r3, r4, r5, undef, push_cast, ↓Int.toNat_natCast, ↓Int.cast_ofNat_Int, Int.cast_ofNat_Int, ↓reduceIte, reduceCtorEq, Nat.reduceEqDiff, Nat.reduceLT, Nat.reduceLeDiff, Nat.reduceAdd, Nat.reduceSub, Nat.reduceMul, Int.reduceNeg, Int.reduceLE, Int.reduceLT, Int.reduceToNat, Int.reduceAdd, Int.reduceSub, Int.reduceMul, Int.reduceEq]
        all_goals (first | exact r5 | omega)
    · have ng2 := no (v) 65536 g2
      by_cases g3 : (256 : UInt64) ≤ v
      · have eg3 := st (v) 8 256 (by decide) (by decide) g3
        have hy : (shr64 v 8).toNat < 256 := lt (v) 8 8 (by decide) (by have := ng2; exact this)
        obtain ⟨r1, r2, r3, r4, r5⟩ := run (shr64 v 8) 8 hy (by decide) (by decide) (by omega)
        simp (config := { maxSteps := 1000000 }) only [g1, g2, g3, hs, hn, r1, r2, r3, r4, r5, undef, push_cast, ↓Int.toNat_natCast, ↓Int.cast_ofNat_Int, Int.cast_ofNat_Int, ↓reduceIte, reduceCtorEq, Nat.reduceEqDiff, Nat.reduceLT, Nat.reduceLeDiff, Nat.reduceAdd, Nat.reduceSub, Nat.reduceMul, Int.reduceNeg, Int.reduceLE, Int.reduceLT, Int.reduceToNat, Int.reduceAdd, Int.reduceSub, Int.reduceMul, Int.reduceEq]
        all_goals (first | exact r5 | omega)
      · have ng3 := no (v) 256 g3
        have hy : (v).toNat < 256 := by have := ng3; exact this
        obtain ⟨r1, r2, r3, r4, r5⟩ := run (v) 0 hy (by decide) (by decide) (by omega)
        simp (config := { maxSteps := 1000000 }) only [g1, g2, g3, hs, hn, r1, r2, r3, r4, r5, undef, push_cast, ↓Int.toNat_natCast, ↓Int.cast_ofNat_Int, Int.cast_ofNat_Int, ↓reduceIte, reduceCtorEq, Nat.reduceEqDiff, Nat.reduceLT, Nat.reduceLeDiff, Nat.reduceAdd, Nat.reduceSub, Nat.reduceMul, Int.reduceNeg, Int.reduceLE, Int.reduceLT, Int.reduceToNat, Int.reduceAdd, Int.reduceSub, Int.reduceMul, Int.reduceEq]
        all_goals (first | exact r5 | omega)
end Go.Proofs.YtiaeollemmkclaaDoor
