/- The walk of law 7's PrgFirst. -/
import Derived.Test.YtkchdhkpjnnliaaDoorPg6
namespace Go.Proofs.YtkchdhkpjnnliaaDoor
open Go.RowKit
set_option linter.unusedSimpArgs false
attribute [local irreducible] Callable CallOK CallG CallM DrawG LoopG symR symM
attribute [local irreducible] wTo wOk numOut wOut
/-! ### Fewer numbers are the first ones of more -/
theorem wTo_take (x : UInt64) (s : List UInt8) (k m : Nat) (h : k ≤ m) : (wTo x s m).take k = wTo x s k := by
  apply ext_ix
  · rw [List.length_take, wTo_length, wTo_length]; omega
  · intro j hj
    rw [List.length_take, wTo_length] at hj
    rw [wTo_get x s k j (by omega), ← wTo_get x s m j (by omega)]
    unfold ix
    rw [List.getD_eq_getElem?_getD, List.getElem?_take_of_lt (by omega), List.getD_eq_getElem?_getD]
theorem shows_z32 {w0 : World} {ow : Nat → Prop} {hp : List Res} {e : TypeId} (k m : Nat) (l : List UInt32) (hr : hp[k]? = some (.own e (.u32 l))) (h : m ≤ l.length) : Shows w0 ow hp (.x (.a (.z k 0 m))) ((l.take m).map vU32) := by
  have := shows_z (w0 := w0) (ow := ow) (vs := l.map vU32) hr (fun _ => rfl) 0 m (by rw [List.length_map]; omega)
  rwa [List.drop_zero, ← List.map_take] at this
theorem n8_mod33 (u : UInt8) : ∃ p : Nat, n8 (u % 33) = p ∧ p ≤ 32 := ⟨(u % 33).toNat, rfl, by
  rw [UInt8.toNat_mod]
  have h : (33 : UInt8).toNat = 33 := rfl
  rw [h]
  omega⟩
theorem wOk_lab_eq (s : ByteArray) (p : Nat) (hp : p ≤ 32) : wOk s p 32 = labOk s ∧ wOk s p 1048576 = labOk s := by
  unfold wOk
  rw [decide_eq_true (by omega), decide_eq_true (by omega), Bool.and_true]
  exact ⟨rfl, rfl⟩
set_option maxRecDepth 100000 in
set_option maxHeartbeats 8000000 in
theorem prgFirst_any (x : UInt64) (s : ByteArray) (u v : UInt8) (w : World) (hk : LaidK 0 w) (hg : Handle w) :
    Calls Tryd.prog 10 (List.map (Sv.val []) [.x (.a (.v (vU64 x))), .x (.a (.v (.string s))), .x (.a8 [u, v])]).toArray w fun e w' => e = .returned (.bool true) ∧ Below w.heap.size w w' := by
  refine calls_v (n := 122) Tryd.func10 rfl Tryd.ntmps10 [.x (.a (.v (vU64 x))), .x (.a (.v (.string s))), .x (.a8 [u, v])] (by simp) (.x (.a (.v (.bool true)))) (fun _ => rfl) ?_
  simp only [push_cast, ↓Int.toNat_natCast, ↓Int.cast_ofNat_Int, Int.cast_ofNat_Int, ↓reduceIte, reduceCtorEq, Nat.reduceEqDiff, Nat.reduceLT, Nat.reduceLeDiff, Nat.reduceAdd, Nat.reduceSub, Nat.reduceMul, Int.reduceNeg, Int.reduceLE, Int.reduceLT, Int.reduceToNat, Int.reduceAdd, Int.reduceSub, Int.reduceMul, Int.reduceEq]
  by_cases h64 : (64 : Int) < s.size
  · simp only [h64, push_cast, ↓Int.toNat_natCast, ↓Int.cast_ofNat_Int, Int.cast_ofNat_Int, ↓reduceIte, reduceCtorEq, Nat.reduceEqDiff, Nat.reduceLT, Nat.reduceLeDiff, Nat.reduceAdd, Nat.reduceSub, Nat.reduceMul, Int.reduceNeg, Int.reduceLE, Int.reduceLT, Int.reduceToNat, Int.reduceAdd, Int.reduceSub, Int.reduceMul, Int.reduceEq]
    refine callG_v rfl cb36 rfl (sure07OK hk hg) (dOk_lt rfl) ?_
    simp only [h64, push_cast, ↓Int.toNat_natCast, ↓Int.cast_ofNat_Int, Int.cast_ofNat_Int, ↓reduceIte, reduceCtorEq, Nat.reduceEqDiff, Nat.reduceLT, Nat.reduceLeDiff, Nat.reduceAdd, Nat.reduceSub, Nat.reduceMul, Int.reduceNeg, Int.reduceLE, Int.reduceLT, Int.reduceToNat, Int.reduceAdd, Int.reduceSub, Int.reduceMul, Int.reduceEq]
  obtain ⟨p, hp, hp32⟩ := n8_mod33 u
  obtain ⟨q, hq, hq32⟩ := n8_mod33 v
  have i0 : ix [u, v] 0 = u := rfl
  have i1 : ix [u, v] 1 = v := rfl
  have b1 : inU8 (p : Int) := ⟨by omega, by omega⟩
  have b2 : inU8 (q : Int) := ⟨by omega, by omega⟩
  have hmax : (if (p : Int) < q then (q : Int) else p) = ((max p q : Nat) : Int) := by split <;> omega
  have hmin : (if (q : Int) < p then (q : Int) else p) = ((min p q : Nat) : Int) := by split <;> omega
  have hM : max p q ≤ 32 := by omega
  have hN : min p q ≤ max p q := by omega
  generalize max p q = M at *
  generalize min p q = N at *
  obtain ⟨kM, _⟩ := wOk_lab_eq s M hM
  obtain ⟨kN, _⟩ := wOk_lab_eq s N (by omega)
  obtain ⟨_, kp⟩ := wOk_lab_eq s p hp32
  simp only [h64, push_cast, ↓Int.toNat_natCast, ↓Int.cast_ofNat_Int, Int.cast_ofNat_Int, ↓reduceIte, reduceCtorEq, Nat.reduceEqDiff, Nat.reduceLT, Nat.reduceLeDiff, Nat.reduceAdd, Nat.reduceSub, Nat.reduceMul, Int.reduceNeg, Int.reduceLE, Int.reduceLT, Int.reduceToNat, Int.reduceAdd, Int.reduceSub, Int.reduceMul, Int.reduceEq]
  refine draw_rule [(0, true), (1, true), (2, true), (3, true), (4, true), (5, true), (6, true), (7, true), (8, true), (9, true)] (by kernel_rfl) (by kernel_rfl) rfl (by kernel_rfl) ?_
  simp (config := { maxSteps := 300000 }) only [i0, i1, hp, hq, b1, b2, hmax, hmin, undef, push_cast, ↓Int.toNat_natCast, ↓Int.cast_ofNat_Int, Int.cast_ofNat_Int, ↓reduceIte, reduceCtorEq, Nat.reduceEqDiff, Nat.reduceLT, Nat.reduceLeDiff, Nat.reduceAdd, Nat.reduceSub, Nat.reduceMul, Int.reduceNeg, Int.reduceLE, Int.reduceLT, Int.reduceToNat, Int.reduceAdd, Int.reduceSub, Int.reduceMul, Int.reduceEq]
  refine ⟨by decide, by decide, ?_⟩
  refine callG_x rfl cb37 rfl (words7OK x s M hk (by simp only [push_cast, ↓Int.toNat_natCast, ↓Int.cast_ofNat_Int, Int.cast_ofNat_Int, ↓reduceIte, reduceCtorEq, Nat.reduceEqDiff, Nat.reduceLT, Nat.reduceLeDiff, Nat.reduceAdd, Nat.reduceSub, Nat.reduceMul, Int.reduceNeg, Int.reduceLE, Int.reduceLT, Int.reduceToNat, Int.reduceAdd, Int.reduceSub, Int.reduceMul, Int.reduceEq])) (dOk_lt rfl) (by simp only [push_cast, ↓Int.toNat_natCast, ↓Int.cast_ofNat_Int, Int.cast_ofNat_Int, ↓reduceIte, reduceCtorEq, Nat.reduceEqDiff, Nat.reduceLT, Nat.reduceLeDiff, Nat.reduceAdd, Nat.reduceSub, Nat.reduceMul, Int.reduceNeg, Int.reduceLE, Int.reduceLT, Int.reduceToNat, Int.reduceAdd, Int.reduceSub, Int.reduceMul, Int.reduceEq]) ?_
  simp (config := { maxSteps := 300000 }) only [i0, i1, hp, hq, b1, b2, hmax, hmin, undef, push_cast, ↓Int.toNat_natCast, ↓Int.cast_ofNat_Int, Int.cast_ofNat_Int, ↓reduceIte, reduceCtorEq, Nat.reduceEqDiff, Nat.reduceLT, Nat.reduceLeDiff, Nat.reduceAdd, Nat.reduceSub, Nat.reduceMul, Int.reduceNeg, Int.reduceLE, Int.reduceLT, Int.reduceToNat, Int.reduceAdd, Int.reduceSub, Int.reduceMul, Int.reduceEq]
  refine callG_x rfl cb37 rfl (words7OK x s N hk (by simp only [push_cast, ↓Int.toNat_natCast, ↓Int.cast_ofNat_Int, Int.cast_ofNat_Int, ↓reduceIte, reduceCtorEq, Nat.reduceEqDiff, Nat.reduceLT, Nat.reduceLeDiff, Nat.reduceAdd, Nat.reduceSub, Nat.reduceMul, Int.reduceNeg, Int.reduceLE, Int.reduceLT, Int.reduceToNat, Int.reduceAdd, Int.reduceSub, Int.reduceMul, Int.reduceEq])) (dOk_lt rfl) (by simp only [push_cast, ↓Int.toNat_natCast, ↓Int.cast_ofNat_Int, Int.cast_ofNat_Int, ↓reduceIte, reduceCtorEq, Nat.reduceEqDiff, Nat.reduceLT, Nat.reduceLeDiff, Nat.reduceAdd, Nat.reduceSub, Nat.reduceMul, Int.reduceNeg, Int.reduceLE, Int.reduceLT, Int.reduceToNat, Int.reduceAdd, Int.reduceSub, Int.reduceMul, Int.reduceEq]) ?_
  simp (config := { maxSteps := 300000 }) only [i0, i1, hp, hq, b1, b2, hmax, hmin, undef, push_cast, ↓Int.toNat_natCast, ↓Int.cast_ofNat_Int, Int.cast_ofNat_Int, ↓reduceIte, reduceCtorEq, Nat.reduceEqDiff, Nat.reduceLT, Nat.reduceLeDiff, Nat.reduceAdd, Nat.reduceSub, Nat.reduceMul, Int.reduceNeg, Int.reduceLE, Int.reduceLT, Int.reduceToNat, Int.reduceAdd, Int.reduceSub, Int.reduceMul, Int.reduceEq]
  refine callG_v rfl cb39 rfl (num7OK x s p hk) (dOk_lt rfl) ?_
  simp (config := { maxSteps := 300000 }) only [i0, i1, hp, hq, b1, b2, hmax, hmin, undef, push_cast, ↓Int.toNat_natCast, ↓Int.cast_ofNat_Int, Int.cast_ofNat_Int, ↓reduceIte, reduceCtorEq, Nat.reduceEqDiff, Nat.reduceLT, Nat.reduceLeDiff, Nat.reduceAdd, Nat.reduceSub, Nat.reduceMul, Int.reduceNeg, Int.reduceLE, Int.reduceLT, Int.reduceToNat, Int.reduceAdd, Int.reduceSub, Int.reduceMul, Int.reduceEq]
  refine callG_v rfl cb39 rfl (num7OK x s p hk) (dOk_lt rfl) ?_
  simp only [wErr_if, kM]
  cases hl : labOk s
  · rw [hl] at kM kN kp
    have lA := wOut_no (x := x) kM
    have lB := wOut_no (x := x) kN
    have hNM := hN
    have htk := hN
    simp (config := { maxSteps := 300000 }) only [hmax, hmin, wErr_if, kM, kN, kp, lA, lB, hNM, htk, num_lt, undef, beq_self_eq_true, push_cast, ↓Int.toNat_natCast, ↓Int.cast_ofNat_Int, Int.cast_ofNat_Int, ↓reduceIte, reduceCtorEq, Nat.reduceEqDiff, Nat.reduceLT, Nat.reduceLeDiff, Nat.reduceAdd, Nat.reduceSub, Nat.reduceMul, Int.reduceNeg, Int.reduceLE, Int.reduceLT, Int.reduceToNat, Int.reduceAdd, Int.reduceSub, Int.reduceMul, Int.reduceEq]
    refine callG_v rfl cb36 rfl (sure07OK hk hg) (dOk_lt rfl) ?_
    simp (config := { maxSteps := 300000 }) only [hmax, hmin, wErr_if, kM, kN, kp, lA, lB, hNM, htk, num_lt, undef, beq_self_eq_true, push_cast, ↓Int.toNat_natCast, ↓Int.cast_ofNat_Int, Int.cast_ofNat_Int, ↓reduceIte, reduceCtorEq, Nat.reduceEqDiff, Nat.reduceLT, Nat.reduceLeDiff, Nat.reduceAdd, Nat.reduceSub, Nat.reduceMul, Int.reduceNeg, Int.reduceLE, Int.reduceLT, Int.reduceToNat, Int.reduceAdd, Int.reduceSub, Int.reduceMul, Int.reduceEq]
  · rw [hl] at kM kN kp
    have eM : wOut x s M = wTo x s.data.toList M := wOut_yes kM
    have eN : wOut x s N = wTo x s.data.toList N := wOut_yes kN
    have lA : (wOut x s M).length = M := by rw [eM, wTo_length]
    have lB : (wOut x s N).length = N := by rw [eN, wTo_length]
    have hNM : (N : Int) ≤ M := by omega
    have htk : (wOut x s M).take N = wOut x s N := by rw [eM, eN]; exact wTo_take _ _ _ _ hN
    simp (config := { maxSteps := 300000 }) only [hmax, hmin, wErr_if, kM, kN, kp, lA, lB, hNM, htk, num_lt, undef, beq_self_eq_true, push_cast, ↓Int.toNat_natCast, ↓Int.cast_ofNat_Int, Int.cast_ofNat_Int, ↓reduceIte, reduceCtorEq, Nat.reduceEqDiff, Nat.reduceLT, Nat.reduceLeDiff, Nat.reduceAdd, Nat.reduceSub, Nat.reduceMul, Int.reduceNeg, Int.reduceLE, Int.reduceLT, Int.reduceToNat, Int.reduceAdd, Int.reduceSub, Int.reduceMul, Int.reduceEq]
    (repeat (refine And.intro (by first | omega | decide) ?_))
    refine callG_v rfl cb44 rfl (same32OK (a := (wOut x s M).take N) (b := wOut x s N) (by rw [List.length_take]; omega) (shows_z32 _ N _ rfl (by omega)) (shows_own rfl fun _ => rfl)) (dOk_lt rfl) ?_
    simp (config := { maxSteps := 300000 }) only [hmax, hmin, wErr_if, kM, kN, kp, lA, lB, hNM, htk, num_lt, undef, beq_self_eq_true, push_cast, ↓Int.toNat_natCast, ↓Int.cast_ofNat_Int, Int.cast_ofNat_Int, ↓reduceIte, reduceCtorEq, Nat.reduceEqDiff, Nat.reduceLT, Nat.reduceLeDiff, Nat.reduceAdd, Nat.reduceSub, Nat.reduceMul, Int.reduceNeg, Int.reduceLE, Int.reduceLT, Int.reduceToNat, Int.reduceAdd, Int.reduceSub, Int.reduceMul, Int.reduceEq]
    refine callG_v rfl cb36 rfl (sure07OK hk hg) (dOk_lt rfl) ?_
    simp (config := { maxSteps := 300000 }) only [hmax, hmin, wErr_if, kM, kN, kp, lA, lB, hNM, htk, num_lt, undef, beq_self_eq_true, push_cast, ↓Int.toNat_natCast, ↓Int.cast_ofNat_Int, Int.cast_ofNat_Int, ↓reduceIte, reduceCtorEq, Nat.reduceEqDiff, Nat.reduceLT, Nat.reduceLeDiff, Nat.reduceAdd, Nat.reduceSub, Nat.reduceMul, Int.reduceNeg, Int.reduceLE, Int.reduceLT, Int.reduceToNat, Int.reduceAdd, Int.reduceSub, Int.reduceMul, Int.reduceEq]
end Go.Proofs.YtkchdhkpjnnliaaDoor
