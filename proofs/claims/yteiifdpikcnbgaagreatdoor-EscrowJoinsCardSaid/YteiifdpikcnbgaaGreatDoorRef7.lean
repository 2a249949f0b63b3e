/- caucusref05.Of, by the engine. -/
import Derived.Test.YteiifdpikcnbgaaGreatDoorTy
import Derived.Test.YteiifdpikcnbgaaGreatDoorRef6
import Derived.Test.YteiifdpikcnbgaaGreatDoorEn3
namespace Go.Proofs.YteiifdpikcnbgaaGreatDoor
open Go.RowKit
set_option linter.unusedSimpArgs false
theorem sum2 (a b : UInt32) : sumW [a, b] 2 = a + b := by simp [sumW, ix]
theorem sum4 (a b c d : UInt32) : sumW [a, b, c, d] 4 = a + b + c + d := by simp [sumW, ix]
theorem sum5 (a b c d e : UInt32) : sumW [a, b, c, d, e] 5 = a + b + c + d + e := by simp [sumW, ix]
theorem shr10 (x : UInt32) : x / 1024 = x >>> (10 : UInt32) := by
  rw [← UInt32.toNat_inj, UInt32.toNat_div, UInt32.toNat_shiftRight, Nat.shiftRight_eq_div_pow]
  rfl
theorem shr3 (x : UInt32) : x / 8 = x >>> (3 : UInt32) := by
  rw [← UInt32.toNat_inj, UInt32.toNat_div, UInt32.toNat_shiftRight, Nat.shiftRight_eq_div_pow]
  rfl
theorem ones_sub (x : UInt32) : 4294967295 - x = ~~~x := by
  rw [← UInt32.toNat_inj, UInt32.toNat_sub, UInt32.toNat_not]
  have := w32_lt x
  show (4294967296 - x.toNat + 4294967295) % 4294967296 = 4294967296 - 1 - x.toNat
  omega
theorem to2_step (B : List UInt8) (k : Nat) (hk : k < 48) : (to2 B k).take (16 + k) ++ [(rr (ix ((to2 B k).take (16 + k)) (k + 14)) 17 ^^^ rr (ix ((to2 B k).take (16 + k)) (k + 14)) 19 ^^^ ix ((to2 B k).take (16 + k)) (k + 14) / 1024) + ix ((to2 B k).take (16 + k)) (k + 9) +
    (rr (ix ((to2 B k).take (16 + k)) (k + 1)) 7 ^^^ rr (ix ((to2 B k).take (16 + k)) (k + 1)) 18 ^^^ ix ((to2 B k).take (16 + k)) (k + 1) / 8) + ix ((to2 B k).take (16 + k)) k] = (to2 B (k + 1)).take (16 + (k + 1)) := by
  have hl := to2_length B k
  rw [ix_take _ _ _ (by omega), ix_take _ _ _ (by omega), ix_take _ _ _ (by omega), ix_take _ _ _ (by omega), shr10, shr3]
  show _ = ((to2 B k).set (k + 16) (sg1 (ix (to2 B k) (k + 16 - 2)) + ix (to2 B k) (k + 16 - 7) + sg0 (ix (to2 B k) (k + 16 - 15)) + ix (to2 B k) (k + 16 - 16))).take (16 + (k + 1))
  rw [show 16 + (k + 1) = (16 + k) + 1 from by omega, List.take_add_one, List.take_set_of_le (by omega), show k + 16 = 16 + k from by omega, List.getElem?_set_self (by omega),
    show 16 + k - 2 = k + 14 from by omega, show 16 + k - 7 = k + 9 from by omega, show 16 + k - 15 = k + 1 from by omega, show 16 + k - 16 = k from by omega]
  rfl
theorem ix_s0 (s : St) : ix s.list 0 = s.a := rfl
theorem ix_s1 (s : St) : ix s.list 1 = s.b := rfl
theorem ix_s2 (s : St) : ix s.list 2 = s.c := rfl
theorem ix_s3 (s : St) : ix s.list 3 = s.d := rfl
theorem ix_s4 (s : St) : ix s.list 4 = s.e := rfl
theorem ix_s5 (s : St) : ix s.list 5 = s.f := rfl
theorem ix_s6 (s : St) : ix s.list 6 = s.g := rfl
theorem ix_s7 (s : St) : ix s.list 7 = s.h := rfl
theorem rnds_succ (s : St) (w : List UInt32) (t : Nat) : rnds s w (t + 1) = rnd (rnds s w t) (ix kt t) (ix w t) := rfl
theorem rnds_zero (s : St) (w : List UInt32) : rnds s w 0 = s := rfl
theorem moreOf_eq (s : St) (b : List UInt8) : moreOf s b = s.add (rnds s (wordsOf b) 64) := rfl
theorem addTo_succ (l x : List UInt32) (i : Nat) : addTo l x (i + 1) = (addTo l x i).set i (ix (addTo l x i) i + ix x i) := rfl
theorem addTo_zero (l x : List UInt32) : addTo l x 0 = l := rfl
theorem rnd_list (r : St) (k w : UInt32) : [r.h + (rr r.e 6 ^^^ rr r.e 11 ^^^ rr r.e 25) + (r.e &&& r.f ||| (4294967295 - r.e) &&& r.g) + k + w + ((rr r.a 2 ^^^ rr r.a 13 ^^^ rr r.a 22) + (r.a &&& r.b ||| r.a &&& r.c ||| r.b &&& r.c)), r.a, r.b, r.c,
    r.d + (r.h + (rr r.e 6 ^^^ rr r.e 11 ^^^ rr r.e 25) + (r.e &&& r.f ||| (4294967295 - r.e) &&& r.g) + k + w), r.e, r.f, r.g] = (rnd r k w).list := by
  rw [ones_sub, UInt32.and_comm (~~~r.e) r.g]
  rfl
/-- The first i of c, noughts behind. -/
def cpTo (c : List UInt8) (i : Nat) : List UInt8 := c.take i ++ List.replicate (32 - i) 0
theorem cpTo_set (c : List UInt8) (i : Nat) (hc : c.length = 32) (hi : i < 32) : (cpTo c i).set i (ix c i) = cpTo c (i + 1) := by
  unfold cpTo
  have e : List.replicate (32 - i) (0 : UInt8) = 0 :: List.replicate (32 - (i + 1)) 0 := by rw [← List.replicate_succ]; congr 1; omega
  rw [List.set_append_right _ _ (by simp; omega), List.length_take, Nat.min_eq_left (by omega), Nat.sub_self, e, List.set_cons_zero]
  have e2 : c.take (i + 1) = c.take i ++ [ix c i] := by
    rw [List.take_add_one, List.getElem?_eq_getElem (by omega)]
    simp [ix, List.getD_eq_getElem?_getD, List.getElem?_eq_getElem (show i < c.length by omega)]
  rw [e2, List.append_assoc]
  rfl
theorem cpTo_length (c : List UInt8) (i : Nat) (hc : c.length = 32) (hi : i ≤ 32) : (cpTo c i).length = 32 := by simp [cpTo]; omega
theorem cpTo_all (c : List UInt8) (hc : c.length = 32) : cpTo c 32 = c := by unfold cpTo; rw [List.take_of_length_le (by omega)]; simp
theorem kt_len : kt.length = 64 := rfl
attribute [local irreducible] padded refState wordsOf kt bytesTo outTo addTo cpTo rnd to2 to1 rnds moreOf
end Go.Proofs.YteiifdpikcnbgaaGreatDoor
