/- Two lists are bound to the same bytes only if they are the same; two seeds and salts, too. Plain Lean. -/
import Derived.Test.YtkchdhkpjnnliaaDoorSe3
namespace Go.Proofs.YtkchdhkpjnnliaaDoor
open Go.RowKit
def bodyB : List (List UInt8) → List UInt8
  | [] => []
  | x :: r => twoB x.length ++ x ++ bodyB r
theorem bodyB_app (a b : List (List UInt8)) : bodyB (a ++ b) = bodyB a ++ bodyB b := by
  induction a with
  | nil => rfl
  | cons x r ih => simp [bodyB, ih]
theorem lsTo_body (L : List Sl) (k : Nat) (hk : k ≤ L.length) : lsTo L k = [76] ++ twoB L.length ++ bodyB ((L.take k).map Sl.l) := by
  induction k with
  | zero => simp [lsTo_zero, bodyB]
  | succ k ih =>
    rw [lsTo_succ, ih (by omega), List.take_add_one, List.getElem?_eq_getElem (by omega)]
    have e : ix L k = L[k] := by simp [ix, List.getD_eq_getElem?_getD, List.getElem?_eq_getElem (show k < L.length by omega)]
    simp only [Option.toList_some, List.map_append, List.map_cons, List.map_nil, bodyB_app, bodyB, e, List.append_nil, List.append_assoc]
theorem twoB_inj {m n : Nat} (hm : m < 65536) (hn : n < 65536) (h : twoB m = twoB n) : m = n := by
  simp only [twoB, List.cons.injEq, and_true] at h
  obtain ⟨h1, h2⟩ := h
  have h1 := congrArg UInt8.toNat h1
  have h2 := congrArg UInt8.toNat h2
  simp at h1 h2
  omega
theorem bodyB_inj : ∀ (a b : List (List UInt8)), a.length = b.length → (∀ x ∈ a, x.length ≤ 300) → (∀ x ∈ b, x.length ≤ 300) → bodyB a = bodyB b → a = b
  | [], [], _, _, _, _ => rfl
  | x :: r, y :: s, hl, ha, hb, h => by
    have hx := ha x (List.mem_cons_self ..)
    have hy := hb y (List.mem_cons_self ..)
    simp only [bodyB, List.append_assoc] at h
    obtain ⟨h1, h2⟩ := List.append_inj h rfl
    have h3 := twoB_inj (by omega) (by omega) h1
    obtain ⟨h4, h5⟩ := List.append_inj h2 h3
    rw [h4, bodyB_inj r s (by simpa using hl) (fun z hz => ha z (List.mem_cons_of_mem _ hz)) (fun z hz => hb z (List.mem_cons_of_mem _ hz)) h5]
  | [], _ :: _, hl, _, _, _ => by simp at hl
  | _ :: _, [], hl, _, _, _ => by simp at hl
theorem fine_mem {L : List Sl} (hL : Fine L) : ∀ x ∈ L.map Sl.l, x.length ≤ 300 := by
  intro x hx
  obtain ⟨y, hy, rfl⟩ := List.mem_map.1 hx
  obtain ⟨i, hi, rfl⟩ := List.mem_iff_getElem.1 hy
  have := hL.2 i hi
  simpa [ix, List.getD_eq_getElem?_getD, List.getElem?_eq_getElem hi] using this
theorem lsTo_inj {L M : List Sl} (hL : Fine L) (hM : Fine M) (h : lsTo L L.length = lsTo M M.length) : L.map Sl.l = M.map Sl.l := by
  rw [lsTo_body L _ (Nat.le_refl _), lsTo_body M _ (Nat.le_refl _), List.take_length, List.take_length, List.append_assoc, List.append_assoc] at h
  obtain ⟨_, h2⟩ := List.append_inj h rfl
  obtain ⟨h3, h4⟩ := List.append_inj h2 rfl
  have h5 := twoB_inj (by have := hL.1; omega) (by have := hM.1; omega) h3
  exact bodyB_inj _ _ (by simpa using h5) (fine_mem hL) (fine_mem hM) h4
theorem lsTo_same {L M : List Sl} (h : L.map Sl.l = M.map Sl.l) : lsTo L L.length = lsTo M M.length := by
  rw [lsTo_body L _ (Nat.le_refl _), lsTo_body M _ (Nat.le_refl _), List.take_length, List.take_length, h]
  have : L.length = M.length := by simpa using congrArg List.length h
  rw [this]
theorem byte_div (x : UInt64) (n : Nat) (h : n < 64) : ((shr64 x n).toUInt8).toNat = x.toNat / 2 ^ n % 256 := by
  unfold shr64
  rw [if_pos h]
  have e : (UInt64.ofNat n).toNat % 64 = n := by simp; omega
  rw [UInt64.toNat_toUInt8, UInt64.toNat_shiftRight, e, Nat.shiftRight_eq_div_pow]
theorem beTo_inj8 (x y : UInt64) (h : beTo x 8 = beTo y 8) : x = y := by
  simp only [beTo, List.nil_append, List.cons_append, List.cons.injEq, and_true] at h
  obtain ⟨h0, h1, h2, h3, h4, h5, h6, h7⟩ := h
  have b0 := congrArg UInt8.toNat h0
  have b1 := congrArg UInt8.toNat h1
  have b2 := congrArg UInt8.toNat h2
  have b3 := congrArg UInt8.toNat h3
  have b4 := congrArg UInt8.toNat h4
  have b5 := congrArg UInt8.toNat h5
  have b6 := congrArg UInt8.toNat h6
  have b7 := congrArg UInt8.toNat h7
  rw [byte_div x _ (by omega), byte_div y _ (by omega)] at b0 b1 b2 b3 b4 b5 b6 b7
  have hx := x.toNat_lt
  have hy := y.toNat_lt
  apply UInt64.toNat_inj.1
  generalize x.toNat = m at *
  generalize y.toNat = n at *
  simp only [Nat.reduceMul, Nat.reduceSub, Nat.reducePow, Nat.sub_self, Nat.pow_zero, Nat.div_one, Nat.mul_zero, Nat.sub_zero] at b0 b1 b2 b3 b4 b5 b6 b7
  omega
theorem sealB_inj {a b c d : UInt64} (h : sealB a b = sealB c d) : a = c ∧ b = d := by
  unfold sealB at h
  rw [List.append_assoc, List.append_assoc] at h
  obtain ⟨_, h2⟩ := List.append_inj h rfl
  obtain ⟨h3, h4⟩ := List.append_inj h2 (by rw [beTo_length, beTo_length])
  exact ⟨beTo_inj8 _ _ h3, beTo_inj8 _ _ h4⟩
end Go.Proofs.YtkchdhkpjnnliaaDoor
