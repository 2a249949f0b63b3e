import Derived.Test.YtiaeollemmkclaaDoorMg4
import Derived.Test.YtiaeollemmkclaaDoorVa0
/- Layer 16: msg.nums, msg.ints. -/
namespace Go.Proofs.YtiaeollemmkclaaDoor
open Go.RowKit
set_option linter.unusedSimpArgs false
set_option linter.unusedVariables false
theorem takeX_next {α : Type} [Inhabited α] (l : List α) (i : Nat) (h : i < l.length) : l.take (i + 1) = l.take i ++ [ix l i] := by
  rw [List.take_add_one, List.getElem?_eq_getElem h, ix, List.getD_eq_getElem?_getD, List.getElem?_eq_getElem h]
  rfl
theorem numsI_next (l : List Int) (i : Nat) (h : i < l.length) : numsI (l.take (i + 1)) = numsI (l.take i) ++ [UInt64.ofInt (ix l i)] := by
  unfold numsI
  rw [takeX_next l i h, List.map_append]
  rfl
theorem intsU_next (l : List UInt64) (i : Nat) (h : i < l.length) : intsU (l.take (i + 1)) = intsU (l.take i) ++ [n64 (ix l i)] := by
  unfold intsU
  rw [takeX_next l i h, List.map_append]
  rfl
theorem numsI_len (l : List Int) : (numsI l).length = l.length := by unfold numsI; rw [List.length_map]
theorem intsU_len (l : List UInt64) : (intsU l).length = l.length := by unfold intsU; rw [List.length_map]
theorem numsI_nil : numsI [] = [] := rfl
theorem intsU_nil : intsU [] = [] := rfl
attribute [local irreducible] Callable CallOK CallG CallM DrawG LoopG symR symM
attribute [local irreducible] numsI intsU
section
set_option maxRecDepth 100000 in
theorem nums16_any (l : List Int) (A : Option Addr) (c : Nat) (w : World) (hm : l.length ≤ 1000000) (hR : RdV w w.heap.size A (l.map (Value.int .i64))) : Calls Tryd.prog 127 #[.slice A l.length c] w fun e w' => ∃ x, e = .returned x ∧ Own w' w.heap.size 27 x ((numsI l).map vU64) ∧ Below w.heap.size w w' := by
  have F := FM.of hR
  refine calls_own (n := 22) Tryd.func127 rfl Tryd.ntmps127 [.x (.a (.v (.slice A l.length c)))] (by simp) 27 (.u64 (numsI l)) (fun _ => rfl) ?_
  have hl0 : (0 : Int) ≤ l.length := by omega
  have hl8 : 8 * (l.length : Int) ≤ 281474976710656 := by omega
  have hl9 : (l.length : Int) ≤ 9223372036854775807 := by omega
  simp (config := { maxSteps := 1000000 }) only [hl0, hl8, hl9, push_cast, ↓Int.cast_ofNat_Int, Int.cast_ofNat_Int, ↓reduceIte, reduceCtorEq, Nat.reduceLT, Int.reduceLE]
  refine loop_rule (ι := Nat) (fun i => ⟨[(3, .x (.a (.o 0))), (9, .x (.a (.v (.slice A l.length c)))), (10, .x (.a (.v (.int .i64 l.length)))), (11, .x (.a (.v (.int .i64 i))))], [.own 27 (.u64 (numsI (l.take i)))]⟩) (fun i => i ≤ l.length) (fun i => l.length - i) 0 [0] (Nat.zero_le _) ?_ ?_
  · simp (config := { maxSteps := 1000000 }) only [numsI_nil, List.replicate_zero, push_cast, ↓Int.cast_ofNat_Int, Int.cast_ofNat_Int, ↓reduceIte, Nat.reduceEqDiff, Nat.reduceLT]
  intro i hi
  by_cases hlt : (i : Int) < l.length
  · have hil : i < l.length := by omega
    have hs := numsI_next l i hil
    have hk := numsI_len (l.take i)
    rw [List.length_take, Nat.min_eq_left hi] at hk
    have c0 := F.cell i hil
    have o0 := F.ok i hil
    have hA := F.some_ (by omega)
    have b1 : ((numsI (l.take i)).length + 1) * 8 ≤ 140737488355328 := by omega
    have b2 : (numsI (l.take i)).length + 1 ≤ 2 ^ 63 - 1 := by omega
    have nx : (i : Int) + 1 ≤ 9223372036854775807 := by omega
    have nx0 : -9223372036854775808 ≤ (i : Int) + 1 := by omega
    have i0 : (0 : Int) ≤ i := by omega
    simp (config := { maxSteps := 1000000 }) only [hlt, c0, o0, hA, b1, b2, nx, nx0, i0, push_cast, ↓Int.toNat_natCast, ↓reduceIte, reduceCtorEq, Nat.reduceEqDiff, Nat.reduceLT, Nat.reduceLeDiff, Nat.reduceAdd, Int.reduceNeg]
    (repeat (refine And.intro (by first | omega | decide) ?_))
    refine loopK_normal (i + 1) [2] (by omega) (by omega) ?_
    simp (config := { maxSteps := 1000000 }) only [hs, push_cast, ↓reduceIte, Nat.reduceEqDiff, Nat.reduceLT]
    done
  · obtain rfl : i = l.length := by omega
    have ht := List.take_length (l := l)
    simp (config := { maxSteps := 1000000 }) only [hlt, ht, push_cast, ↓reduceIte, Nat.reduceEqDiff, Nat.reduceLT]
    done
theorem nums16K {w0 : World} {ow : Nat → Prop} {hp : List Res} {s : Sv} {l : List Int} (hm : l.length ≤ 1000000) (h : Shows w0 ow hp s (l.map (Value.int .i64))) (hbr : ∀ r ∈ hp, Res.bnd hp.length r) : CallOK Tryd.prog w0 ow 127 [s] hp (.x (.a (.o hp.length))) (hp ++ [.own 27 (.u64 (numsI l))]) := callOK_own hbr trivial fun γ w hS => by
  obtain ⟨A, c, e1, b1, q1⟩ := h γ w hS
  rw [List.length_map] at e1
  show Calls _ _ #[s.val γ] w _
  rw [e1]
  exact nums16_any l A c w hm q1
set_option maxRecDepth 100000 in
theorem ints16_any (l : List UInt64) (A : Option Addr) (c : Nat) (w : World) (hm : l.length ≤ 1000000) (hv : ∀ i, i < l.length → (ix l i).toNat < 2 ^ 63) (hR : RdV w w.heap.size A (l.map vU64)) : Calls Tryd.prog 133 #[.slice A l.length c] w fun e w' => ∃ x, e = .returned x ∧ Own w' w.heap.size 3 x ((intsU l).map (Value.int .i64)) ∧ Below w.heap.size w w' := by
  have F := FM.of hR
  refine calls_own (n := 22) Tryd.func133 rfl Tryd.ntmps133 [.x (.a (.v (.slice A l.length c)))] (by simp) 3 (.i64 (intsU l)) (fun _ => rfl) ?_
  have hl0 : (0 : Int) ≤ l.length := by omega
  have hl8 : 8 * (l.length : Int) ≤ 281474976710656 := by omega
  have hl9 : (l.length : Int) ≤ 9223372036854775807 := by omega
  simp (config := { maxSteps := 1000000 }) only [hl0, hl8, hl9, push_cast, ↓Int.cast_ofNat_Int, Int.cast_ofNat_Int, ↓reduceIte, reduceCtorEq, Nat.reduceLT, Int.reduceLE]
  refine loop_rule (ι := Nat) (fun i => ⟨[(3, .x (.a (.o 0))), (9, .x (.a (.v (.slice A l.length c)))), (10, .x (.a (.v (.int .i64 l.length)))), (11, .x (.a (.v (.int .i64 i))))], [.own 3 (.i64 (intsU (l.take i)))]⟩) (fun i => i ≤ l.length) (fun i => l.length - i) 0 [0] (Nat.zero_le _) ?_ ?_
  · simp (config := { maxSteps := 1000000 }) only [intsU_nil, List.replicate_zero, push_cast, ↓Int.cast_ofNat_Int, Int.cast_ofNat_Int, ↓reduceIte, Nat.reduceEqDiff, Nat.reduceLT]
  intro i hi
  by_cases hlt : (i : Int) < l.length
  · have hil : i < l.length := by omega
    have hs := intsU_next l i hil
    have hk := intsU_len (l.take i)
    rw [List.length_take, Nat.min_eq_left hi] at hk
    have c0 := F.cell i hil
    have o0 := F.ok i hil
    have hA := F.some_ (by omega)
    have b1 : ((intsU (l.take i)).length + 1) * 8 ≤ 140737488355328 := by omega
    have b2 : (intsU (l.take i)).length + 1 ≤ 2 ^ 63 - 1 := by omega
    have nx : (i : Int) + 1 ≤ 9223372036854775807 := by omega
    have nx0 : -9223372036854775808 ≤ (i : Int) + 1 := by omega
    have i0 : (0 : Int) ≤ i := by omega
    have hx0 : (ix l i).toNat < 2 ^ 63 := hv i hil
    have he : n64 (ix l i) = (((ix l i).toNat : Nat) : Int) := rfl
    have hx : -9223372036854775808 ≤ n64 (ix l i) := by omega
    have hx2 : n64 (ix l i) ≤ 9223372036854775807 := by omega
    simp (config := { maxSteps := 1000000 }) only [hlt, c0, o0, hA, b1, b2, nx, nx0, i0, hx, hx2, push_cast, ↓Int.toNat_natCast, ↓reduceIte, reduceCtorEq, Nat.reduceEqDiff, Nat.reduceLT, Nat.reduceLeDiff, Nat.reduceAdd, Int.reduceNeg]
    (repeat (refine And.intro (by first | omega | decide) ?_))
    refine loopK_normal (i + 1) [2] (by omega) (by omega) ?_
    simp (config := { maxSteps := 1000000 }) only [hs, push_cast, ↓reduceIte, Nat.reduceEqDiff, Nat.reduceLT]
    done
  · obtain rfl : i = l.length := by omega
    have ht := List.take_length (l := l)
    simp (config := { maxSteps := 1000000 }) only [hlt, ht, push_cast, ↓reduceIte, Nat.reduceEqDiff, Nat.reduceLT]
    done
theorem ints16K {w0 : World} {ow : Nat → Prop} {hp : List Res} {s : Sv} {l : List UInt64} (hm : l.length ≤ 1000000) (hv : ∀ i, i < l.length → (ix l i).toNat < 2 ^ 63) (h : Shows w0 ow hp s (l.map vU64)) (hbr : ∀ r ∈ hp, Res.bnd hp.length r) : CallOK Tryd.prog w0 ow 133 [s] hp (.x (.a (.o hp.length))) (hp ++ [.own 3 (.i64 (intsU l))]) := callOK_own hbr trivial fun γ w hS => by
  obtain ⟨A, c, e1, b1, q1⟩ := h γ w hS
  rw [List.length_map] at e1
  show Calls _ _ #[s.val γ] w _
  rw [e1]
  exact ints16_any l A c w hm hv q1
end
end Go.Proofs.YtiaeollemmkclaaDoor
/- Digits of a number, as they are shifted out and in. No program in sight. -/
namespace Go.Proofs.YtiaeollemmkclaaDoor
theorem dgV_get : ∀ (k v j : Nat), j < k → ix (dgV k v) j = UInt8.ofNat (v / 256 ^ (k - 1 - j) % 256)
  | 0, _, _, h => absurd h (Nat.not_lt_zero _)
  | k + 1, v, j, h => by
    have hl := dgV_length k (v / 256)
    rw [dgV]
    unfold ix
    by_cases hj : j < k
    · have ih := dgV_get k (v / 256) j hj
      unfold ix at ih
      rw [List.getD_eq_getElem?_getD, List.getElem?_append_left (by omega), ← List.getD_eq_getElem?_getD, ih, Nat.div_div_eq_div_mul, show k + 1 - 1 - j = (k - 1 - j) + 1 by omega, Nat.pow_succ, Nat.mul_comm 256]
    · obtain rfl : j = k := by omega
      rw [List.getD_eq_getElem?_getD, List.getElem?_append_right (by omega), hl]
      simp
theorem shr_byte (v : UInt64) (i : Nat) (h : i < 8) : (shr64 v (8 * i)).toUInt8 = UInt8.ofNat (v.toNat / 256 ^ i % 256) := by
  have h8 : 8 * i < 64 := by omega
  unfold shr64
  rw [if_pos h8]
  apply UInt8.toNat_inj.1
  have e : (UInt64.ofNat (8 * i)).toNat = 8 * i := by rw [UInt64.toNat_ofNat']; exact Nat.mod_eq_of_lt (Nat.lt_trans h8 (by decide))
  rw [UInt64.toNat_toUInt8, UInt64.toNat_shiftRight, e, UInt8.toNat_ofNat', Nat.shiftRight_eq_div_pow, Nat.mod_eq_of_lt h8, show (256 : Nat) = 2 ^ 8 from rfl, ← Nat.pow_mul, Nat.mod_mod]
theorem len_nb (v : UInt64) (h : 1 ≤ v.toNat) : (Nat.log2 v.toNat + 1 + 7) / 8 = nb8 v := by
  have hb := nb8_le v
  obtain ⟨h1, h2⟩ := nb8_lo v h
  rw [show (256 : Nat) = 2 ^ 8 from rfl, ← Nat.pow_mul] at h1 h2
  have h3 : 8 * (nb8 v - 1) ≤ Nat.log2 v.toNat := (Nat.le_log2 (by omega)).2 h1
  have h4 : Nat.log2 v.toNat < 8 * nb8 v := (Nat.log2_lt (by omega)).2 h2
  omega
theorem shl_or (v : UInt64) (x : UInt8) (h : v.toNat < 2 ^ 56) : (shl64 v 8 ||| x.toUInt64) = UInt64.ofNat (256 * v.toNat + x.toNat) := by
  have hx := x.toNat_lt
  unfold shl64
  rw [if_pos (by decide)]
  apply UInt64.toNat_inj.1
  have e : (UInt64.ofNat 8).toNat = 8 := rfl
  rw [UInt64.toNat_or, UInt64.toNat_shiftLeft, e, UInt8.toNat_toUInt64, UInt64.toNat_ofNat', Nat.mod_eq_of_lt (by decide : 8 < 64), Nat.shiftLeft_eq, Nat.mod_eq_of_lt (by omega), Nat.mod_eq_of_lt (by omega), Nat.mul_comm, show (256 : Nat) = 2 ^ 8 from rfl]
  exact (Nat.two_pow_add_eq_or_of_lt (by omega) _).symm
end Go.Proofs.YtiaeollemmkclaaDoor
