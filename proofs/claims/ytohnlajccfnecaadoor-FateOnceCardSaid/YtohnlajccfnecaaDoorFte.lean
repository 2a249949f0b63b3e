/- The walk of law 33's FateOnce. -/
import Derived.Test.YtohnlajccfnecaaDoorFtd
namespace Go.Proofs.YtohnlajccfnecaaDoor
open Go.RowKit
set_option linter.unusedSimpArgs false
set_option linter.unusedVariables false
/-- How a fate stands. -/
structure FT where
  k : Int
  r : Int
  I : List Int
  R : List UInt32
structure FT.Ok (x : FT) : Prop where
  k : x.k = 0 ∨ x.k = 1 ∨ x.k = 2
  r : x.k = 2 → 0 ≤ x.r ∧ x.r ≤ 4
  z : x.k = 0 → x.r = 0 ∧ x.I = [] ∧ x.R = []
  il : x.I.length ≤ 100
  rl : x.R.length ≤ 100
  id : ∀ n ∈ x.I, 0 ≤ n ∧ n < 64
/-- One more, each of the first ones. -/
def incU (l : List UInt32) : Nat → List UInt32
  | 0 => l
  | i + 1 => (incU l i).set i (ix (incU l i) i + 1)
theorem incU_zero (l : List UInt32) : incU l 0 = l := rfl
theorem incU_succ (l : List UInt32) (i : Nat) : incU l (i + 1) = (incU l i).set i (ix (incU l i) i + 1) := rfl
theorem incU_length (l : List UInt32) (i : Nat) : (incU l i).length = l.length := by
  induction i with
  | zero => rfl
  | succ i ih => rw [incU_succ, List.length_set, ih]
attribute [local irreducible] Callable CallOK CallG CallM DrawG LoopG symR symM
attribute [local irreducible] txtU setOk incU
set_option maxRecDepth 100000 in
set_option maxHeartbeats 8000000 in
theorem fateOnce_any (l : List Ac) (A : Option Addr) (c : Nat) (w : World) (hR : RdV w w.heap.size A (avs l)) (hA : ∀ p ∈ l, AcOk w p) (ht : TabW w) :
    Calls Tryd.prog 4 (List.map (Sv.val []) [(.x (.a (.v (.slice A l.length c))))]).toArray w fun e w' => e = .returned (.bool true) ∧ Below w.heap.size w w' := by
  have F := FA.of hR
  refine calls_v (n := 122) Tryd.func4 rfl Tryd.ntmps4 [(.x (.a (.v (.slice A l.length c))))] (by simp) (.x (.a (.v (.bool true)))) (fun _ => rfl) ?_
  simp (config := { maxSteps := 1000000 }) only [undef, push_cast, ↓Int.toNat_natCast, ↓Int.cast_ofNat_Int, Int.cast_ofNat_Int, ↓reduceIte, reduceCtorEq, Nat.reduceEqDiff, Nat.reduceLT, Nat.reduceLeDiff, Nat.reduceAdd, Nat.reduceSub, Nat.reduceMul, Int.reduceNeg, Int.reduceLE, Int.reduceLT, Int.reduceToNat, Int.reduceAdd, Int.reduceSub, Int.reduceMul, Int.reduceEq]
  (repeat (refine And.intro (by first | omega | decide) ?_))
  refine loop_ghostC 0 1 33 3 _ (.i64 []) rfl rfl rfl trivial (by simp only [push_cast, ↓Int.toNat_natCast, ↓Int.cast_ofNat_Int, Int.cast_ofNat_Int, ↓reduceIte, reduceCtorEq, Nat.reduceEqDiff, Nat.reduceLT, Nat.reduceLeDiff, Nat.reduceAdd, Nat.reduceSub, Nat.reduceMul, Int.reduceNeg, Int.reduceLE, Int.reduceLT, Int.reduceToNat, Int.reduceAdd, Int.reduceSub, Int.reduceMul, Int.reduceEq]) ?_
  refine loop_ghostC 0 2 33 46 _ (.u32 []) rfl rfl rfl trivial (by simp only [push_cast, ↓Int.toNat_natCast, ↓Int.cast_ofNat_Int, Int.cast_ofNat_Int, ↓reduceIte, reduceCtorEq, Nat.reduceEqDiff, Nat.reduceLT, Nat.reduceLeDiff, Nat.reduceAdd, Nat.reduceSub, Nat.reduceMul, Int.reduceNeg, Int.reduceLE, Int.reduceLT, Int.reduceToNat, Int.reduceAdd, Int.reduceSub, Int.reduceMul, Int.reduceEq]) ?_
  refine loop_rule (ι := Nat × FT) (fun y => ⟨[(0, (.x (.a (.v (.slice A l.length c))))), (3, .x (.a (.p 0 0))), (4, .x (.a (.v (.int .i64 y.1))))], [.blk 33 (.c [.v (.int .i64 y.2.k), .o 1, .o 2, .v (.int .i64 y.2.r)]), .own 3 (.i64 y.2.I), .own 46 (.u32 y.2.R)]⟩)
    (fun y => y.1 ≤ l.length ∧ FT.Ok y.2) (fun y => l.length - y.1) (0, ⟨0, 0, [], []⟩) [0, 1, 2] ⟨by omega, ?_⟩ ?_ ?_
  · exact ⟨.inl rfl, (fun h => by cases h), fun _ => ⟨rfl, rfl, rfl⟩, Nat.zero_le _, Nat.zero_le _, (fun n hn => by cases hn)⟩
  · simp (config := { maxSteps := 1000000 }) only [push_cast, ↓Int.toNat_natCast, ↓Int.cast_ofNat_Int, Int.cast_ofNat_Int, ↓reduceIte, reduceCtorEq, Nat.reduceEqDiff, Nat.reduceLT, Nat.reduceLeDiff, Nat.reduceAdd, Nat.reduceSub, Nat.reduceMul, Int.reduceNeg, Int.reduceLE, Int.reduceLT, Int.reduceToNat, Int.reduceAdd, Int.reduceSub, Int.reduceMul, Int.reduceEq]
  rintro ⟨i, k, r, I, R⟩ ⟨hi, hx⟩
  have hi : i ≤ l.length := hi
  by_cases hlt : (i : Int) < l.length
  · by_cases h40 : (i : Int) < 40
    · have hil : i < l.length := by omega
      have i0 : (0 : Int) ≤ i := by omega
      have c0 := F.c0 i hil
      have c1 := F.c1 i hil
      have c2 := F.c2 i hil
      have c3 := F.c3 i hil
      have o0 := F.ok i 0 hil (by omega)
      have o1 := F.ok i 1 hil (by omega)
      have o2 := F.ok i 2 hil (by omega)
      have o3 := F.ok i 3 hil (by omega)
      rw [Nat.add_zero] at o0
      have hA0 := F.some_ (by omega)
      have hp := hA (ix l i) (ix_mem hil)
      generalize ix l i = a at *
      obtain ⟨s, I2, R2, n, _⟩ := a
      obtain ⟨p1, p2, p3, p4⟩ := hp
      dsimp only at c0 c1 c2 c3 p1 p2 p3 p4 hx
      by_cases g1 : (100 : Int) < I2.l.length
      · simp (config := { maxSteps := 1000000 }) only [pAdd_zero, pAdd_add, pAdd_isSome, hlt, h40, i0, c0, c1, c2, c3, o0, o1, o2, o3, hA0, g1, Slc.val, undef, push_cast, ↓Int.toNat_natCast, ↓Int.cast_ofNat_Int, Int.cast_ofNat_Int, ↓reduceIte, reduceCtorEq, Nat.reduceEqDiff, Nat.reduceLT, Nat.reduceLeDiff, Nat.reduceAdd, Nat.reduceSub, Nat.reduceMul, Int.reduceNeg, Int.reduceLE, Int.reduceLT, Int.reduceToNat, Int.reduceAdd, Int.reduceSub, Int.reduceMul, Int.reduceEq]
        (repeat (refine And.intro (by first | omega | decide) ?_))
        refine loopK_normal (i + 1, ⟨k, r, I, R⟩) [0, 1, 2] ⟨by show i + 1 ≤ l.length; omega, hx⟩ (by show l.length - (i + 1) < l.length - i; omega) ?_
        simp (config := { maxSteps := 1000000 }) only [push_cast, ↓Int.toNat_natCast, ↓Int.cast_ofNat_Int, Int.cast_ofNat_Int, ↓reduceIte, reduceCtorEq, Nat.reduceEqDiff, Nat.reduceLT, Nat.reduceLeDiff, Nat.reduceAdd, Nat.reduceSub, Nat.reduceMul, Int.reduceNeg, Int.reduceLE, Int.reduceLT, Int.reduceToNat, Int.reduceAdd, Int.reduceSub, Int.reduceMul, Int.reduceEq]
      by_cases g2 : (100 : Int) < R2.l.length
      · simp (config := { maxSteps := 1000000 }) only [pAdd_zero, pAdd_add, pAdd_isSome, hlt, h40, i0, c0, c1, c2, c3, o0, o1, o2, o3, hA0, g1, g2, Slc.val, undef, push_cast, ↓Int.toNat_natCast, ↓Int.cast_ofNat_Int, Int.cast_ofNat_Int, ↓reduceIte, reduceCtorEq, Nat.reduceEqDiff, Nat.reduceLT, Nat.reduceLeDiff, Nat.reduceAdd, Nat.reduceSub, Nat.reduceMul, Int.reduceNeg, Int.reduceLE, Int.reduceLT, Int.reduceToNat, Int.reduceAdd, Int.reduceSub, Int.reduceMul, Int.reduceEq]
        (repeat (refine And.intro (by first | omega | decide) ?_))
        refine loopK_normal (i + 1, ⟨k, r, I, R⟩) [0, 1, 2] ⟨by show i + 1 ≤ l.length; omega, hx⟩ (by show l.length - (i + 1) < l.length - i; omega) ?_
        simp (config := { maxSteps := 1000000 }) only [push_cast, ↓Int.toNat_natCast, ↓Int.cast_ofNat_Int, Int.cast_ofNat_Int, ↓reduceIte, reduceCtorEq, Nat.reduceEqDiff, Nat.reduceLT, Nat.reduceLeDiff, Nat.reduceAdd, Nat.reduceSub, Nat.reduceMul, Int.reduceNeg, Int.reduceLE, Int.reduceLT, Int.reduceToNat, Int.reduceAdd, Int.reduceSub, Int.reduceMul, Int.reduceEq]
      have b1 : I2.l.length ≤ 1000 := by omega
      have x1 := hx.il
      have x2 := hx.rl
      have x3 := hx.id
      have x4 := hx.r
      dsimp only at x1 x2 x3 x4
      have q1 : R2.l.length * 4 ≤ 140737488355328 := by omega
      have q2 : R2.l.length ≤ 2 ^ 63 - 1 := by omega
      have rdR := rd32_of (FV.no p4)
      simp (config := { maxSteps := 1000000 }) only [pAdd_zero, pAdd_add, pAdd_isSome, hlt, h40, i0, c0, c1, c2, c3, o0, o1, o2, o3, hA0, g1, g2, Slc.val, undef, push_cast, ↓Int.toNat_natCast, ↓Int.cast_ofNat_Int, Int.cast_ofNat_Int, ↓reduceIte, reduceCtorEq, Nat.reduceEqDiff, Nat.reduceLT, Nat.reduceLeDiff, Nat.reduceAdd, Nat.reduceSub, Nat.reduceMul, Int.reduceNeg, Int.reduceLE, Int.reduceLT, Int.reduceToNat, Int.reduceAdd, Int.reduceSub, Int.reduceMul, Int.reduceEq]
      (repeat (refine And.intro (by first | omega | decide) ?_))
      refine callG_v rfl cb12 rfl (textK (k0 := 0) (p := 1) (q := 2) (ids := I) (row := R) x1 x2 x3 x4 ht rfl rfl rfl) (dOk_lt rfl) ?_
      simp (config := { maxSteps := 1000000 }) only [undef, push_cast, ↓Int.toNat_natCast, ↓Int.cast_ofNat_Int, Int.cast_ofNat_Int, ↓reduceIte, reduceCtorEq, Nat.reduceEqDiff, Nat.reduceLT, Nat.reduceLeDiff, Nat.reduceAdd, Nat.reduceSub, Nat.reduceMul, Int.reduceNeg, Int.reduceLE, Int.reduceLT, Int.reduceToNat, Int.reduceAdd, Int.reduceSub, Int.reduceMul, Int.reduceEq]
      (repeat (refine And.intro (by first | omega | decide) ?_))
      refine callG_v rfl cb10 rfl (kindK (k0 := 0) (p := 1) (q := 2) (ids := I) (row := R) rfl rfl rfl) (dOk_lt rfl) ?_
      rcases (show (s = true ∧ doneOk k I2.l R2.l = true) ∨ (s = true ∧ ¬ doneOk k I2.l R2.l = true) ∨ (s = false ∧ abortOk k n = true) ∨ (s = false ∧ abortOk k n = false) from by
        cases s
        · cases h : abortOk k n
          · exact .inr (.inr (.inr ⟨rfl, rfl⟩))
          · exact .inr (.inr (.inl ⟨rfl, rfl⟩))
        · by_cases h : doneOk k I2.l R2.l = true
          · exact .inl ⟨rfl, h⟩
          · exact .inr (.inl ⟨rfl, h⟩)) with ⟨rfl, hd⟩ | ⟨rfl, hd⟩ | ⟨rfl, hd⟩ | ⟨rfl, hd⟩
      · simp (config := { maxSteps := 1000000 }) only [pAdd_zero, pAdd_add, pAdd_isSome, hlt, h40, i0, c0, c1, c2, c3, o0, o1, o2, o3, hA0, g1, g2, Slc.val, q1, q2, rdR, undef, push_cast, ↓Int.toNat_natCast, ↓Int.cast_ofNat_Int, Int.cast_ofNat_Int, ↓reduceIte, reduceCtorEq, Nat.reduceEqDiff, Nat.reduceLT, Nat.reduceLeDiff, Nat.reduceAdd, Nat.reduceSub, Nat.reduceMul, Int.reduceNeg, Int.reduceLE, Int.reduceLT, Int.reduceToNat, Int.reduceAdd, Int.reduceSub, Int.reduceMul, Int.reduceEq]
        (repeat (refine And.intro (by first | omega | decide) ?_))
        obtain ⟨rfl, d1, d2, d3⟩ := doneOk_spec.1 hd
        obtain ⟨rfl, e1, e2⟩ := hx.z rfl
        dsimp only at e1 e2
        subst e1 e2
        have hy : FT.Ok ⟨1, 0, I2.l, R2.l⟩ := ⟨.inr (.inl rfl), (fun h => by cases h), (fun h => by cases h), by show I2.l.length ≤ 100; omega, by show R2.l.length ≤ 100; omega, setOk_each d2⟩
        refine callG_rule rfl cb8 rfl (doneYesK (k0 := 0) (p := 1) (q := 2) (by decide) (by decide) (by decide) (by simp only [push_cast, ↓Int.toNat_natCast, ↓Int.cast_ofNat_Int, Int.cast_ofNat_Int, ↓reduceIte, reduceCtorEq, Nat.reduceEqDiff, Nat.reduceLT, Nat.reduceLeDiff, Nat.reduceAdd, Nat.reduceSub, Nat.reduceMul, Int.reduceNeg, Int.reduceLE, Int.reduceLT, Int.reduceToNat, Int.reduceAdd, Int.reduceSub, Int.reduceMul, Int.reduceEq]) rfl rfl rfl I2.l R2.l hd b1 (far_raw _ p2 _ _ (by simp) p1) (far_own _ rfl (fun _ => rfl) (by decide))) (dOk_lt rfl) (fun _ => by simp only [Slc.val, push_cast, ↓Int.toNat_natCast, ↓Int.cast_ofNat_Int, Int.cast_ofNat_Int, ↓reduceIte, reduceCtorEq, Nat.reduceEqDiff, Nat.reduceLT, Nat.reduceLeDiff, Nat.reduceAdd, Nat.reduceSub, Nat.reduceMul, Int.reduceNeg, Int.reduceLE, Int.reduceLT, Int.reduceToNat, Int.reduceAdd, Int.reduceSub, Int.reduceMul, Int.reduceEq]) ?_
        simp (config := { maxSteps := 1000000 }) only [pAdd_zero, pAdd_add, pAdd_isSome, hlt, h40, i0, c0, c1, c2, c3, o0, o1, o2, o3, hA0, g1, g2, Slc.val, q1, q2, rdR, undef, push_cast, ↓Int.toNat_natCast, ↓Int.cast_ofNat_Int, Int.cast_ofNat_Int, ↓reduceIte, reduceCtorEq, Nat.reduceEqDiff, Nat.reduceLT, Nat.reduceLeDiff, Nat.reduceAdd, Nat.reduceSub, Nat.reduceMul, Int.reduceNeg, Int.reduceLE, Int.reduceLT, Int.reduceToNat, Int.reduceAdd, Int.reduceSub, Int.reduceMul, Int.reduceEq]
        (repeat (refine And.intro (by first | omega | decide) ?_))
        refine callG_le [0, 7, 8, 5] (s' := ⟨[(61, .x (.a (.p 0 0))), (0, (.x (.a (.v (.slice A l.length c))))), (3, .x (.a (.p 0 0))), (4, .x (.a (.v (.int .i64 i)))), (6, .x (.a (.v (.string (bstr (txtU 0 0 [] [])))))), (7, .x (.a (.v (.int .i64 0)))), (8, .x (.a (.o 3))), (9, .x (.a (.v (.bool true))))], [.blk 33 (.c [.v (.int .i64 1), .o 1, .o 2, .v (.int .i64 0)]), .own 3 (.i64 I2.l), .own 46 (.u32 R2.l), .own 46 (.u32 R2.l)]⟩) (by simp (config := { maxSteps := 1000000 }) only [push_cast, ↓Int.toNat_natCast, ↓Int.cast_ofNat_Int, Int.cast_ofNat_Int, ↓reduceIte, reduceCtorEq, Nat.reduceEqDiff, Nat.reduceLT, Nat.reduceLeDiff, Nat.reduceAdd, Nat.reduceSub, Nat.reduceMul, Int.reduceNeg, Int.reduceLE, Int.reduceLT, Int.reduceToNat, Int.reduceAdd, Int.reduceSub, Int.reduceMul, Int.reduceEq]) ?_
        refine callG_v rfl cb12 rfl (textK (k0 := 0) (p := 1) (q := 2) (ids := I2.l) (row := R2.l) hy.il hy.rl hy.id hy.r ht rfl rfl rfl) (dOk_lt rfl) ?_
        simp (config := { maxSteps := 1000000 }) only [undef, push_cast, ↓Int.toNat_natCast, ↓Int.cast_ofNat_Int, Int.cast_ofNat_Int, ↓reduceIte, reduceCtorEq, Nat.reduceEqDiff, Nat.reduceLT, Nat.reduceLeDiff, Nat.reduceAdd, Nat.reduceSub, Nat.reduceMul, Int.reduceNeg, Int.reduceLE, Int.reduceLT, Int.reduceToNat, Int.reduceAdd, Int.reduceSub, Int.reduceMul, Int.reduceEq]
        (repeat (refine And.intro (by first | omega | decide) ?_))
        refine loop_rule (ι := Nat) (fun j => ⟨[(0, (.x (.a (.v (.slice A l.length c))))), (3, .x (.a (.p 0 0))), (4, .x (.a (.v (.int .i64 i)))), (6, .x (.a (.v (.string (bstr (txtU 0 0 [] [])))))), (7, .x (.a (.v (.int .i64 0)))), (8, .x (.a (.o 3))), (9, .x (.a (.v (.bool true)))), (10, .x (.a (.v (.string (bstr (txtU 1 0 I2.l R2.l)))))), (11, .x (.a (.v (.int .i64 j))))], [.blk 33 (.c [.v (.int .i64 1), .o 1, .o 2, .v (.int .i64 0)]), .own 3 (.i64 I2.l), .own 46 (.u32 R2.l), .own 46 (.u32 (incU R2.l j))]⟩) (fun j => j ≤ R2.l.length) (fun j => R2.l.length - j) 0 [0, 1, 2, 3] (Nat.zero_le _) ?_ ?_
        · simp (config := { maxSteps := 1000000 }) only [incU_zero, push_cast, ↓Int.toNat_natCast, ↓Int.cast_ofNat_Int, Int.cast_ofNat_Int, ↓reduceIte, reduceCtorEq, Nat.reduceEqDiff, Nat.reduceLT, Nat.reduceLeDiff, Nat.reduceAdd, Nat.reduceSub, Nat.reduceMul, Int.reduceNeg, Int.reduceLE, Int.reduceLT, Int.reduceToNat, Int.reduceAdd, Int.reduceSub, Int.reduceMul, Int.reduceEq]
        intro j hj
        have hlj := incU_length R2.l j
        by_cases hjl : (j : Int) < R2.l.length
        · have j0 : (0 : Int) ≤ j := by omega
          simp (config := { maxSteps := 1000000 }) only [hjl, hlj, j0, undef, push_cast, ↓Int.toNat_natCast, ↓Int.cast_ofNat_Int, Int.cast_ofNat_Int, ↓reduceIte, reduceCtorEq, Nat.reduceEqDiff, Nat.reduceLT, Nat.reduceLeDiff, Nat.reduceAdd, Nat.reduceSub, Nat.reduceMul, Int.reduceNeg, Int.reduceLE, Int.reduceLT, Int.reduceToNat, Int.reduceAdd, Int.reduceSub, Int.reduceMul, Int.reduceEq]
          (repeat (refine And.intro (by first | omega | decide) ?_))
          refine loopK_normal (j + 1) [0, 1, 2, 3] (by omega) (by omega) ?_
          simp (config := { maxSteps := 1000000 }) only [incU_succ, push_cast, ↓Int.toNat_natCast, ↓Int.cast_ofNat_Int, Int.cast_ofNat_Int, ↓reduceIte, reduceCtorEq, Nat.reduceEqDiff, Nat.reduceLT, Nat.reduceLeDiff, Nat.reduceAdd, Nat.reduceSub, Nat.reduceMul, Int.reduceNeg, Int.reduceLE, Int.reduceLT, Int.reduceToNat, Int.reduceAdd, Int.reduceSub, Int.reduceMul, Int.reduceEq]
        simp (config := { maxSteps := 1000000 }) only [hjl, hlj, undef, push_cast, ↓Int.toNat_natCast, ↓Int.cast_ofNat_Int, Int.cast_ofNat_Int, ↓reduceIte, reduceCtorEq, Nat.reduceEqDiff, Nat.reduceLT, Nat.reduceLeDiff, Nat.reduceAdd, Nat.reduceSub, Nat.reduceMul, Int.reduceNeg, Int.reduceLE, Int.reduceLT, Int.reduceToNat, Int.reduceAdd, Int.reduceSub, Int.reduceMul, Int.reduceEq]
        (repeat (refine And.intro (by first | omega | decide) ?_))
        refine callG_rule rfl cb7 rfl (sumYesK (k0 := 0) (p := 1) (q := 2) (ids := I2.l) (row := R2.l) (by have := hy.il; dsimp only at this; omega) (by have := hy.rl; dsimp only at this; omega) (by simp only [push_cast, ↓Int.toNat_natCast, ↓Int.cast_ofNat_Int, Int.cast_ofNat_Int, ↓reduceIte, reduceCtorEq, Nat.reduceEqDiff, Nat.reduceLT, Nat.reduceLeDiff, Nat.reduceAdd, Nat.reduceSub, Nat.reduceMul, Int.reduceNeg, Int.reduceLE, Int.reduceLT, Int.reduceToNat, Int.reduceAdd, Int.reduceSub, Int.reduceMul, Int.reduceEq]) rfl rfl rfl) (dOk_lt rfl) (fun _ => by simp only [push_cast, ↓Int.toNat_natCast, ↓Int.cast_ofNat_Int, Int.cast_ofNat_Int, ↓reduceIte, reduceCtorEq, Nat.reduceEqDiff, Nat.reduceLT, Nat.reduceLeDiff, Nat.reduceAdd, Nat.reduceSub, Nat.reduceMul, Int.reduceNeg, Int.reduceLE, Int.reduceLT, Int.reduceToNat, Int.reduceAdd, Int.reduceSub, Int.reduceMul, Int.reduceEq]) ?_
        simp (config := { maxSteps := 1000000 }) only [undef, push_cast, ↓Int.toNat_natCast, ↓Int.cast_ofNat_Int, Int.cast_ofNat_Int, ↓reduceIte, reduceCtorEq, Nat.reduceEqDiff, Nat.reduceLT, Nat.reduceLeDiff, Nat.reduceAdd, Nat.reduceSub, Nat.reduceMul, Int.reduceNeg, Int.reduceLE, Int.reduceLT, Int.reduceToNat, Int.reduceAdd, Int.reduceSub, Int.reduceMul, Int.reduceEq]
        (repeat (refine And.intro (by first | omega | decide) ?_))
        refine loop_rule (ι := Nat) (fun j => ⟨[(0, (.x (.a (.v (.slice A l.length c))))), (3, .x (.a (.p 0 0))), (4, .x (.a (.v (.int .i64 i)))), (6, .x (.a (.v (.string (bstr (txtU 0 0 [] [])))))), (7, .x (.a (.v (.int .i64 0)))), (9, .x (.a (.v (.bool true)))), (10, .x (.a (.v (.string (bstr (txtU 1 0 I2.l R2.l)))))), (13, .x (.a (.o 3))), (15, .x (.a (.v (.int .i64 j))))], [.blk 33 (.c [.v (.int .i64 1), .o 1, .o 2, .v (.int .i64 0)]), .own 3 (.i64 I2.l), .own 46 (.u32 R2.l), .own 46 (.u32 (incU R2.l j))]⟩) (fun j => j ≤ R2.l.length) (fun j => R2.l.length - j) 0 [0, 1, 2, 5] (Nat.zero_le _) ?_ ?_
        · simp (config := { maxSteps := 1000000 }) only [incU_zero, push_cast, ↓Int.toNat_natCast, ↓Int.cast_ofNat_Int, Int.cast_ofNat_Int, ↓reduceIte, reduceCtorEq, Nat.reduceEqDiff, Nat.reduceLT, Nat.reduceLeDiff, Nat.reduceAdd, Nat.reduceSub, Nat.reduceMul, Int.reduceNeg, Int.reduceLE, Int.reduceLT, Int.reduceToNat, Int.reduceAdd, Int.reduceSub, Int.reduceMul, Int.reduceEq]
        intro m hm
        have hlm := incU_length R2.l m
        by_cases hml : (m : Int) < R2.l.length
        · have m0 : (0 : Int) ≤ m := by omega
          simp (config := { maxSteps := 1000000 }) only [hml, hlm, m0, undef, push_cast, ↓Int.toNat_natCast, ↓Int.cast_ofNat_Int, Int.cast_ofNat_Int, ↓reduceIte, reduceCtorEq, Nat.reduceEqDiff, Nat.reduceLT, Nat.reduceLeDiff, Nat.reduceAdd, Nat.reduceSub, Nat.reduceMul, Int.reduceNeg, Int.reduceLE, Int.reduceLT, Int.reduceToNat, Int.reduceAdd, Int.reduceSub, Int.reduceMul, Int.reduceEq]
          (repeat (refine And.intro (by first | omega | decide) ?_))
          refine loopK_normal (m + 1) [0, 1, 2, 3] (by omega) (by omega) ?_
          simp (config := { maxSteps := 1000000 }) only [incU_succ, push_cast, ↓Int.toNat_natCast, ↓Int.cast_ofNat_Int, Int.cast_ofNat_Int, ↓reduceIte, reduceCtorEq, Nat.reduceEqDiff, Nat.reduceLT, Nat.reduceLeDiff, Nat.reduceAdd, Nat.reduceSub, Nat.reduceMul, Int.reduceNeg, Int.reduceLE, Int.reduceLT, Int.reduceToNat, Int.reduceAdd, Int.reduceSub, Int.reduceMul, Int.reduceEq]
        simp (config := { maxSteps := 1000000 }) only [hml, hlm, undef, push_cast, ↓Int.toNat_natCast, ↓Int.cast_ofNat_Int, Int.cast_ofNat_Int, ↓reduceIte, reduceCtorEq, Nat.reduceEqDiff, Nat.reduceLT, Nat.reduceLeDiff, Nat.reduceAdd, Nat.reduceSub, Nat.reduceMul, Int.reduceNeg, Int.reduceLE, Int.reduceLT, Int.reduceToNat, Int.reduceAdd, Int.reduceSub, Int.reduceMul, Int.reduceEq]
        (repeat (refine And.intro (by first | omega | decide) ?_))
        refine callG_v rfl cb10 rfl (kindK (k0 := 0) (p := 1) (q := 2) (ids := I2.l) (row := R2.l) rfl rfl rfl) (dOk_lt rfl) ?_
        simp (config := { maxSteps := 1000000 }) only [undef, push_cast, ↓Int.toNat_natCast, ↓Int.cast_ofNat_Int, Int.cast_ofNat_Int, ↓reduceIte, reduceCtorEq, Nat.reduceEqDiff, Nat.reduceLT, Nat.reduceLeDiff, Nat.reduceAdd, Nat.reduceSub, Nat.reduceMul, Int.reduceNeg, Int.reduceLE, Int.reduceLT, Int.reduceToNat, Int.reduceAdd, Int.reduceSub, Int.reduceMul, Int.reduceEq]
        (repeat (refine And.intro (by first | omega | decide) ?_))
        refine callG_v rfl cb12 rfl (textK (k0 := 0) (p := 1) (q := 2) (ids := I2.l) (row := R2.l) hy.il hy.rl hy.id hy.r ht rfl rfl rfl) (dOk_lt rfl) ?_
        simp (config := { maxSteps := 1000000 }) only [undef, push_cast, ↓Int.toNat_natCast, ↓Int.cast_ofNat_Int, Int.cast_ofNat_Int, ↓reduceIte, reduceCtorEq, Nat.reduceEqDiff, Nat.reduceLT, Nat.reduceLeDiff, Nat.reduceAdd, Nat.reduceSub, Nat.reduceMul, Int.reduceNeg, Int.reduceLE, Int.reduceLT, Int.reduceToNat, Int.reduceAdd, Int.reduceSub, Int.reduceMul, Int.reduceEq]
        (repeat (refine And.intro (by first | omega | decide) ?_))
        refine loopK_normal (i + 1, ⟨1, 0, I2.l, R2.l⟩) [0, 1, 2] ⟨by show i + 1 ≤ l.length; omega, hy⟩ (by show l.length - (i + 1) < l.length - i; omega) ?_
        simp (config := { maxSteps := 1000000 }) only [push_cast, ↓Int.toNat_natCast, ↓Int.cast_ofNat_Int, Int.cast_ofNat_Int, ↓reduceIte, reduceCtorEq, Nat.reduceEqDiff, Nat.reduceLT, Nat.reduceLeDiff, Nat.reduceAdd, Nat.reduceSub, Nat.reduceMul, Int.reduceNeg, Int.reduceLE, Int.reduceLT, Int.reduceToNat, Int.reduceAdd, Int.reduceSub, Int.reduceMul, Int.reduceEq]
      · simp (config := { maxSteps := 1000000 }) only [pAdd_zero, pAdd_add, pAdd_isSome, hlt, h40, i0, c0, c1, c2, c3, o0, o1, o2, o3, hA0, g1, g2, Slc.val, q1, q2, rdR, undef, push_cast, ↓Int.toNat_natCast, ↓Int.cast_ofNat_Int, Int.cast_ofNat_Int, ↓reduceIte, reduceCtorEq, Nat.reduceEqDiff, Nat.reduceLT, Nat.reduceLeDiff, Nat.reduceAdd, Nat.reduceSub, Nat.reduceMul, Int.reduceNeg, Int.reduceLE, Int.reduceLT, Int.reduceToNat, Int.reduceAdd, Int.reduceSub, Int.reduceMul, Int.reduceEq]
        (repeat (refine And.intro (by first | omega | decide) ?_))
        have hy := hx
        refine callG_v rfl cb8 rfl (doneNoK (k0 := 0) (p := 1) (q := 2) I2.l R2.l b1 hd (shows_raw p2 _ _ (by simp) p1) (shows_own rfl fun _ => rfl) rfl rfl rfl) (dOk_lt rfl) ?_
        simp (config := { maxSteps := 1000000 }) only [pAdd_zero, pAdd_add, pAdd_isSome, hlt, h40, i0, c0, c1, c2, c3, o0, o1, o2, o3, hA0, g1, g2, Slc.val, q1, q2, rdR, undef, push_cast, ↓Int.toNat_natCast, ↓Int.cast_ofNat_Int, Int.cast_ofNat_Int, ↓reduceIte, reduceCtorEq, Nat.reduceEqDiff, Nat.reduceLT, Nat.reduceLeDiff, Nat.reduceAdd, Nat.reduceSub, Nat.reduceMul, Int.reduceNeg, Int.reduceLE, Int.reduceLT, Int.reduceToNat, Int.reduceAdd, Int.reduceSub, Int.reduceMul, Int.reduceEq]
        (repeat (refine And.intro (by first | omega | decide) ?_))
        refine callG_le [0, 1, 2, 5] (s' := ⟨[(61, .x (.a (.p 0 0))), (0, (.x (.a (.v (.slice A l.length c))))), (3, .x (.a (.p 0 0))), (4, .x (.a (.v (.int .i64 i)))), (6, .x (.a (.v (.string (bstr (txtU k r I R)))))), (7, .x (.a (.v (.int .i64 k)))), (8, .x (.a (.o 3))), (9, .x (.a (.v (.bool false))))], [.blk 33 (.c [.v (.int .i64 k), .o 1, .o 2, .v (.int .i64 r)]), .own 3 (.i64 I), .own 46 (.u32 R), .own 46 (.u32 R2.l)]⟩) (by simp (config := { maxSteps := 1000000 }) only [push_cast, ↓Int.toNat_natCast, ↓Int.cast_ofNat_Int, Int.cast_ofNat_Int, ↓reduceIte, reduceCtorEq, Nat.reduceEqDiff, Nat.reduceLT, Nat.reduceLeDiff, Nat.reduceAdd, Nat.reduceSub, Nat.reduceMul, Int.reduceNeg, Int.reduceLE, Int.reduceLT, Int.reduceToNat, Int.reduceAdd, Int.reduceSub, Int.reduceMul, Int.reduceEq]) ?_
        by_cases k1 : k = 1
        · subst k1
          refine callG_v rfl cb12 rfl (textK (k0 := 0) (p := 1) (q := 2) (ids := I) (row := R) hy.il hy.rl hy.id hy.r ht rfl rfl rfl) (dOk_lt rfl) ?_
          simp (config := { maxSteps := 1000000 }) only [undef, push_cast, ↓Int.toNat_natCast, ↓Int.cast_ofNat_Int, Int.cast_ofNat_Int, ↓reduceIte, reduceCtorEq, Nat.reduceEqDiff, Nat.reduceLT, Nat.reduceLeDiff, Nat.reduceAdd, Nat.reduceSub, Nat.reduceMul, Int.reduceNeg, Int.reduceLE, Int.reduceLT, Int.reduceToNat, Int.reduceAdd, Int.reduceSub, Int.reduceMul, Int.reduceEq]
          (repeat (refine And.intro (by first | omega | decide) ?_))
          refine loop_rule (ι := Nat) (fun j => ⟨[(0, (.x (.a (.v (.slice A l.length c))))), (3, .x (.a (.p 0 0))), (4, .x (.a (.v (.int .i64 i)))), (6, .x (.a (.v (.string (bstr (txtU 1 r I R)))))), (7, .x (.a (.v (.int .i64 1)))), (8, .x (.a (.o 3))), (9, .x (.a (.v (.bool false)))), (10, .x (.a (.v (.string (bstr (txtU 1 r I R)))))), (11, .x (.a (.v (.int .i64 j))))], [.blk 33 (.c [.v (.int .i64 1), .o 1, .o 2, .v (.int .i64 r)]), .own 3 (.i64 I), .own 46 (.u32 R), .own 46 (.u32 (incU R2.l j))]⟩) (fun j => j ≤ R2.l.length) (fun j => R2.l.length - j) 0 [0, 1, 2, 3] (Nat.zero_le _) ?_ ?_
          · simp (config := { maxSteps := 1000000 }) only [incU_zero, push_cast, ↓Int.toNat_natCast, ↓Int.cast_ofNat_Int, Int.cast_ofNat_Int, ↓reduceIte, reduceCtorEq, Nat.reduceEqDiff, Nat.reduceLT, Nat.reduceLeDiff, Nat.reduceAdd, Nat.reduceSub, Nat.reduceMul, Int.reduceNeg, Int.reduceLE, Int.reduceLT, Int.reduceToNat, Int.reduceAdd, Int.reduceSub, Int.reduceMul, Int.reduceEq]
          intro j hj
          have hlj := incU_length R2.l j
          by_cases hjl : (j : Int) < R2.l.length
          · have j0 : (0 : Int) ≤ j := by omega
            simp (config := { maxSteps := 1000000 }) only [hjl, hlj, j0, undef, push_cast, ↓Int.toNat_natCast, ↓Int.cast_ofNat_Int, Int.cast_ofNat_Int, ↓reduceIte, reduceCtorEq, Nat.reduceEqDiff, Nat.reduceLT, Nat.reduceLeDiff, Nat.reduceAdd, Nat.reduceSub, Nat.reduceMul, Int.reduceNeg, Int.reduceLE, Int.reduceLT, Int.reduceToNat, Int.reduceAdd, Int.reduceSub, Int.reduceMul, Int.reduceEq]
            (repeat (refine And.intro (by first | omega | decide) ?_))
            refine loopK_normal (j + 1) [0, 1, 2, 3] (by omega) (by omega) ?_
            simp (config := { maxSteps := 1000000 }) only [incU_succ, push_cast, ↓Int.toNat_natCast, ↓Int.cast_ofNat_Int, Int.cast_ofNat_Int, ↓reduceIte, reduceCtorEq, Nat.reduceEqDiff, Nat.reduceLT, Nat.reduceLeDiff, Nat.reduceAdd, Nat.reduceSub, Nat.reduceMul, Int.reduceNeg, Int.reduceLE, Int.reduceLT, Int.reduceToNat, Int.reduceAdd, Int.reduceSub, Int.reduceMul, Int.reduceEq]
          simp (config := { maxSteps := 1000000 }) only [hjl, hlj, undef, push_cast, ↓Int.toNat_natCast, ↓Int.cast_ofNat_Int, Int.cast_ofNat_Int, ↓reduceIte, reduceCtorEq, Nat.reduceEqDiff, Nat.reduceLT, Nat.reduceLeDiff, Nat.reduceAdd, Nat.reduceSub, Nat.reduceMul, Int.reduceNeg, Int.reduceLE, Int.reduceLT, Int.reduceToNat, Int.reduceAdd, Int.reduceSub, Int.reduceMul, Int.reduceEq]
          (repeat (refine And.intro (by first | omega | decide) ?_))
          refine callG_rule rfl cb7 rfl (sumYesK (k0 := 0) (p := 1) (q := 2) (ids := I) (row := R) (by have := hy.il; dsimp only at this; omega) (by have := hy.rl; dsimp only at this; omega) (by simp only [push_cast, ↓Int.toNat_natCast, ↓Int.cast_ofNat_Int, Int.cast_ofNat_Int, ↓reduceIte, reduceCtorEq, Nat.reduceEqDiff, Nat.reduceLT, Nat.reduceLeDiff, Nat.reduceAdd, Nat.reduceSub, Nat.reduceMul, Int.reduceNeg, Int.reduceLE, Int.reduceLT, Int.reduceToNat, Int.reduceAdd, Int.reduceSub, Int.reduceMul, Int.reduceEq]) rfl rfl rfl) (dOk_lt rfl) (fun _ => by simp only [push_cast, ↓Int.toNat_natCast, ↓Int.cast_ofNat_Int, Int.cast_ofNat_Int, ↓reduceIte, reduceCtorEq, Nat.reduceEqDiff, Nat.reduceLT, Nat.reduceLeDiff, Nat.reduceAdd, Nat.reduceSub, Nat.reduceMul, Int.reduceNeg, Int.reduceLE, Int.reduceLT, Int.reduceToNat, Int.reduceAdd, Int.reduceSub, Int.reduceMul, Int.reduceEq]) ?_
          simp (config := { maxSteps := 1000000 }) only [undef, push_cast, ↓Int.toNat_natCast, ↓Int.cast_ofNat_Int, Int.cast_ofNat_Int, ↓reduceIte, reduceCtorEq, Nat.reduceEqDiff, Nat.reduceLT, Nat.reduceLeDiff, Nat.reduceAdd, Nat.reduceSub, Nat.reduceMul, Int.reduceNeg, Int.reduceLE, Int.reduceLT, Int.reduceToNat, Int.reduceAdd, Int.reduceSub, Int.reduceMul, Int.reduceEq]
          (repeat (refine And.intro (by first | omega | decide) ?_))
          refine loop_rule (ι := Nat) (fun j => ⟨[(0, (.x (.a (.v (.slice A l.length c))))), (3, .x (.a (.p 0 0))), (4, .x (.a (.v (.int .i64 i)))), (6, .x (.a (.v (.string (bstr (txtU 1 r I R)))))), (7, .x (.a (.v (.int .i64 1)))), (9, .x (.a (.v (.bool false)))), (10, .x (.a (.v (.string (bstr (txtU 1 r I R)))))), (13, .x (.a (.o 3))), (15, .x (.a (.v (.int .i64 j))))], [.blk 33 (.c [.v (.int .i64 1), .o 1, .o 2, .v (.int .i64 r)]), .own 3 (.i64 I), .own 46 (.u32 R), .own 46 (.u32 (incU R j))]⟩) (fun j => j ≤ R.length) (fun j => R.length - j) 0 [0, 1, 2, 5] (Nat.zero_le _) ?_ ?_
          · simp (config := { maxSteps := 1000000 }) only [incU_zero, push_cast, ↓Int.toNat_natCast, ↓Int.cast_ofNat_Int, Int.cast_ofNat_Int, ↓reduceIte, reduceCtorEq, Nat.reduceEqDiff, Nat.reduceLT, Nat.reduceLeDiff, Nat.reduceAdd, Nat.reduceSub, Nat.reduceMul, Int.reduceNeg, Int.reduceLE, Int.reduceLT, Int.reduceToNat, Int.reduceAdd, Int.reduceSub, Int.reduceMul, Int.reduceEq]
          intro m hm
          have hlm := incU_length R m
          by_cases hml : (m : Int) < R.length
          · have m0 : (0 : Int) ≤ m := by omega
            simp (config := { maxSteps := 1000000 }) only [hml, hlm, m0, undef, push_cast, ↓Int.toNat_natCast, ↓Int.cast_ofNat_Int, Int.cast_ofNat_Int, ↓reduceIte, reduceCtorEq, Nat.reduceEqDiff, Nat.reduceLT, Nat.reduceLeDiff, Nat.reduceAdd, Nat.reduceSub, Nat.reduceMul, Int.reduceNeg, Int.reduceLE, Int.reduceLT, Int.reduceToNat, Int.reduceAdd, Int.reduceSub, Int.reduceMul, Int.reduceEq]
            (repeat (refine And.intro (by first | omega | decide) ?_))
            refine loopK_normal (m + 1) [0, 1, 2, 3] (by omega) (by omega) ?_
            simp (config := { maxSteps := 1000000 }) only [incU_succ, push_cast, ↓Int.toNat_natCast, ↓Int.cast_ofNat_Int, Int.cast_ofNat_Int, ↓reduceIte, reduceCtorEq, Nat.reduceEqDiff, Nat.reduceLT, Nat.reduceLeDiff, Nat.reduceAdd, Nat.reduceSub, Nat.reduceMul, Int.reduceNeg, Int.reduceLE, Int.reduceLT, Int.reduceToNat, Int.reduceAdd, Int.reduceSub, Int.reduceMul, Int.reduceEq]
          simp (config := { maxSteps := 1000000 }) only [hml, hlm, undef, push_cast, ↓Int.toNat_natCast, ↓Int.cast_ofNat_Int, Int.cast_ofNat_Int, ↓reduceIte, reduceCtorEq, Nat.reduceEqDiff, Nat.reduceLT, Nat.reduceLeDiff, Nat.reduceAdd, Nat.reduceSub, Nat.reduceMul, Int.reduceNeg, Int.reduceLE, Int.reduceLT, Int.reduceToNat, Int.reduceAdd, Int.reduceSub, Int.reduceMul, Int.reduceEq]
          (repeat (refine And.intro (by first | omega | decide) ?_))
          refine callG_v rfl cb12 rfl (textK (k0 := 0) (p := 1) (q := 2) (ids := I) (row := R) hy.il hy.rl hy.id hy.r ht rfl rfl rfl) (dOk_lt rfl) ?_
          simp (config := { maxSteps := 1000000 }) only [undef, push_cast, ↓Int.toNat_natCast, ↓Int.cast_ofNat_Int, Int.cast_ofNat_Int, ↓reduceIte, reduceCtorEq, Nat.reduceEqDiff, Nat.reduceLT, Nat.reduceLeDiff, Nat.reduceAdd, Nat.reduceSub, Nat.reduceMul, Int.reduceNeg, Int.reduceLE, Int.reduceLT, Int.reduceToNat, Int.reduceAdd, Int.reduceSub, Int.reduceMul, Int.reduceEq]
          (repeat (refine And.intro (by first | omega | decide) ?_))
          refine loopK_normal (i + 1, ⟨1, r, I, R⟩) [0, 1, 2] ⟨by show i + 1 ≤ l.length; omega, hy⟩ (by show l.length - (i + 1) < l.length - i; omega) ?_
          simp (config := { maxSteps := 1000000 }) only [push_cast, ↓Int.toNat_natCast, ↓Int.cast_ofNat_Int, Int.cast_ofNat_Int, ↓reduceIte, reduceCtorEq, Nat.reduceEqDiff, Nat.reduceLT, Nat.reduceLeDiff, Nat.reduceAdd, Nat.reduceSub, Nat.reduceMul, Int.reduceNeg, Int.reduceLE, Int.reduceLT, Int.reduceToNat, Int.reduceAdd, Int.reduceSub, Int.reduceMul, Int.reduceEq]
        refine callG_v rfl cb12 rfl (textK (k0 := 0) (p := 1) (q := 2) (ids := I) (row := R) hy.il hy.rl hy.id hy.r ht rfl rfl rfl) (dOk_lt rfl) ?_
        simp (config := { maxSteps := 1000000 }) only [undef, push_cast, ↓Int.toNat_natCast, ↓Int.cast_ofNat_Int, Int.cast_ofNat_Int, ↓reduceIte, reduceCtorEq, Nat.reduceEqDiff, Nat.reduceLT, Nat.reduceLeDiff, Nat.reduceAdd, Nat.reduceSub, Nat.reduceMul, Int.reduceNeg, Int.reduceLE, Int.reduceLT, Int.reduceToNat, Int.reduceAdd, Int.reduceSub, Int.reduceMul, Int.reduceEq]
        (repeat (refine And.intro (by first | omega | decide) ?_))
        refine loop_rule (ι := Nat) (fun j => ⟨[(0, (.x (.a (.v (.slice A l.length c))))), (3, .x (.a (.p 0 0))), (4, .x (.a (.v (.int .i64 i)))), (6, .x (.a (.v (.string (bstr (txtU k r I R)))))), (7, .x (.a (.v (.int .i64 k)))), (8, .x (.a (.o 3))), (9, .x (.a (.v (.bool false)))), (10, .x (.a (.v (.string (bstr (txtU k r I R)))))), (11, .x (.a (.v (.int .i64 j))))], [.blk 33 (.c [.v (.int .i64 k), .o 1, .o 2, .v (.int .i64 r)]), .own 3 (.i64 I), .own 46 (.u32 R), .own 46 (.u32 (incU R2.l j))]⟩) (fun j => j ≤ R2.l.length) (fun j => R2.l.length - j) 0 [0, 1, 2, 3] (Nat.zero_le _) ?_ ?_
        · simp (config := { maxSteps := 1000000 }) only [incU_zero, push_cast, ↓Int.toNat_natCast, ↓Int.cast_ofNat_Int, Int.cast_ofNat_Int, ↓reduceIte, reduceCtorEq, Nat.reduceEqDiff, Nat.reduceLT, Nat.reduceLeDiff, Nat.reduceAdd, Nat.reduceSub, Nat.reduceMul, Int.reduceNeg, Int.reduceLE, Int.reduceLT, Int.reduceToNat, Int.reduceAdd, Int.reduceSub, Int.reduceMul, Int.reduceEq]
        intro j hj
        have hlj := incU_length R2.l j
        by_cases hjl : (j : Int) < R2.l.length
        · have j0 : (0 : Int) ≤ j := by omega
          simp (config := { maxSteps := 1000000 }) only [hjl, hlj, j0, undef, push_cast, ↓Int.toNat_natCast, ↓Int.cast_ofNat_Int, Int.cast_ofNat_Int, ↓reduceIte, reduceCtorEq, Nat.reduceEqDiff, Nat.reduceLT, Nat.reduceLeDiff, Nat.reduceAdd, Nat.reduceSub, Nat.reduceMul, Int.reduceNeg, Int.reduceLE, Int.reduceLT, Int.reduceToNat, Int.reduceAdd, Int.reduceSub, Int.reduceMul, Int.reduceEq]
          (repeat (refine And.intro (by first | omega | decide) ?_))
          refine loopK_normal (j + 1) [0, 1, 2, 3] (by omega) (by omega) ?_
          simp (config := { maxSteps := 1000000 }) only [incU_succ, push_cast, ↓Int.toNat_natCast, ↓Int.cast_ofNat_Int, Int.cast_ofNat_Int, ↓reduceIte, reduceCtorEq, Nat.reduceEqDiff, Nat.reduceLT, Nat.reduceLeDiff, Nat.reduceAdd, Nat.reduceSub, Nat.reduceMul, Int.reduceNeg, Int.reduceLE, Int.reduceLT, Int.reduceToNat, Int.reduceAdd, Int.reduceSub, Int.reduceMul, Int.reduceEq]
        simp (config := { maxSteps := 1000000 }) only [hjl, hlj, undef, push_cast, ↓Int.toNat_natCast, ↓Int.cast_ofNat_Int, Int.cast_ofNat_Int, ↓reduceIte, reduceCtorEq, Nat.reduceEqDiff, Nat.reduceLT, Nat.reduceLeDiff, Nat.reduceAdd, Nat.reduceSub, Nat.reduceMul, Int.reduceNeg, Int.reduceLE, Int.reduceLT, Int.reduceToNat, Int.reduceAdd, Int.reduceSub, Int.reduceMul, Int.reduceEq]
        (repeat (refine And.intro (by first | omega | decide) ?_))
        refine callG_rule rfl cb7 rfl (sumNoK (k0 := 0) (p := 1) (q := 2) (ids := I) (row := R) k1 rfl rfl rfl) (dOk_lt rfl) (fun _ => by simp only [push_cast, ↓Int.toNat_natCast, ↓Int.cast_ofNat_Int, Int.cast_ofNat_Int, ↓reduceIte, reduceCtorEq, Nat.reduceEqDiff, Nat.reduceLT, Nat.reduceLeDiff, Nat.reduceAdd, Nat.reduceSub, Nat.reduceMul, Int.reduceNeg, Int.reduceLE, Int.reduceLT, Int.reduceToNat, Int.reduceAdd, Int.reduceSub, Int.reduceMul, Int.reduceEq]) ?_
        simp (config := { maxSteps := 1000000 }) only [undef, push_cast, ↓Int.toNat_natCast, ↓Int.cast_ofNat_Int, Int.cast_ofNat_Int, ↓reduceIte, reduceCtorEq, Nat.reduceEqDiff, Nat.reduceLT, Nat.reduceLeDiff, Nat.reduceAdd, Nat.reduceSub, Nat.reduceMul, Int.reduceNeg, Int.reduceLE, Int.reduceLT, Int.reduceToNat, Int.reduceAdd, Int.reduceSub, Int.reduceMul, Int.reduceEq]
        (repeat (refine And.intro (by first | omega | decide) ?_))
        refine loop_rule (ι := Unit) (fun _ => ⟨[(0, (.x (.a (.v (.slice A l.length c))))), (3, .x (.a (.p 0 0))), (4, .x (.a (.v (.int .i64 i)))), (6, .x (.a (.v (.string (bstr (txtU k r I R)))))), (7, .x (.a (.v (.int .i64 k)))), (9, .x (.a (.v (.bool false)))), (10, .x (.a (.v (.string (bstr (txtU k r I R)))))), (13, .x (.a (.v (.slice none 0 0)))), (15, .x (.a (.v (.int .i64 0))))], [.blk 33 (.c [.v (.int .i64 k), .o 1, .o 2, .v (.int .i64 r)]), .own 3 (.i64 I), .own 46 (.u32 R)]⟩) (fun _ => True) (fun _ => 0) () [0, 1, 2] trivial ?_ ?_
        · simp (config := { maxSteps := 1000000 }) only [push_cast, ↓Int.toNat_natCast, ↓Int.cast_ofNat_Int, Int.cast_ofNat_Int, ↓reduceIte, reduceCtorEq, Nat.reduceEqDiff, Nat.reduceLT, Nat.reduceLeDiff, Nat.reduceAdd, Nat.reduceSub, Nat.reduceMul, Int.reduceNeg, Int.reduceLE, Int.reduceLT, Int.reduceToNat, Int.reduceAdd, Int.reduceSub, Int.reduceMul, Int.reduceEq]
        intro _ _
        simp (config := { maxSteps := 1000000 }) only [undef, push_cast, ↓Int.toNat_natCast, ↓Int.cast_ofNat_Int, Int.cast_ofNat_Int, ↓reduceIte, reduceCtorEq, Nat.reduceEqDiff, Nat.reduceLT, Nat.reduceLeDiff, Nat.reduceAdd, Nat.reduceSub, Nat.reduceMul, Int.reduceNeg, Int.reduceLE, Int.reduceLT, Int.reduceToNat, Int.reduceAdd, Int.reduceSub, Int.reduceMul, Int.reduceEq]
        (repeat (refine And.intro (by first | omega | decide) ?_))
        by_cases kz : k = 0
        · subst kz
          simp (config := { maxSteps := 1000000 }) only [undef, push_cast, ↓Int.toNat_natCast, ↓Int.cast_ofNat_Int, Int.cast_ofNat_Int, ↓reduceIte, reduceCtorEq, Nat.reduceEqDiff, Nat.reduceLT, Nat.reduceLeDiff, Nat.reduceAdd, Nat.reduceSub, Nat.reduceMul, Int.reduceNeg, Int.reduceLE, Int.reduceLT, Int.reduceToNat, Int.reduceAdd, Int.reduceSub, Int.reduceMul, Int.reduceEq]
          (repeat (refine And.intro (by first | omega | decide) ?_))
          refine callG_v rfl cb10 rfl (kindK (k0 := 0) (p := 1) (q := 2) (ids := I) (row := R) rfl rfl rfl) (dOk_lt rfl) ?_
          simp (config := { maxSteps := 1000000 }) only [undef, push_cast, ↓Int.toNat_natCast, ↓Int.cast_ofNat_Int, Int.cast_ofNat_Int, ↓reduceIte, reduceCtorEq, Nat.reduceEqDiff, Nat.reduceLT, Nat.reduceLeDiff, Nat.reduceAdd, Nat.reduceSub, Nat.reduceMul, Int.reduceNeg, Int.reduceLE, Int.reduceLT, Int.reduceToNat, Int.reduceAdd, Int.reduceSub, Int.reduceMul, Int.reduceEq]
          (repeat (refine And.intro (by first | omega | decide) ?_))
          refine callG_v rfl cb12 rfl (textK (k0 := 0) (p := 1) (q := 2) (ids := I) (row := R) hy.il hy.rl hy.id hy.r ht rfl rfl rfl) (dOk_lt rfl) ?_
          simp (config := { maxSteps := 1000000 }) only [undef, push_cast, ↓Int.toNat_natCast, ↓Int.cast_ofNat_Int, Int.cast_ofNat_Int, ↓reduceIte, reduceCtorEq, Nat.reduceEqDiff, Nat.reduceLT, Nat.reduceLeDiff, Nat.reduceAdd, Nat.reduceSub, Nat.reduceMul, Int.reduceNeg, Int.reduceLE, Int.reduceLT, Int.reduceToNat, Int.reduceAdd, Int.reduceSub, Int.reduceMul, Int.reduceEq]
          (repeat (refine And.intro (by first | omega | decide) ?_))
          refine loopK_normal (i + 1, ⟨0, r, I, R⟩) [0, 1, 2] ⟨by show i + 1 ≤ l.length; omega, hy⟩ (by show l.length - (i + 1) < l.length - i; omega) ?_
          simp (config := { maxSteps := 1000000 }) only [push_cast, ↓Int.toNat_natCast, ↓Int.cast_ofNat_Int, Int.cast_ofNat_Int, ↓reduceIte, reduceCtorEq, Nat.reduceEqDiff, Nat.reduceLT, Nat.reduceLeDiff, Nat.reduceAdd, Nat.reduceSub, Nat.reduceMul, Int.reduceNeg, Int.reduceLE, Int.reduceLT, Int.reduceToNat, Int.reduceAdd, Int.reduceSub, Int.reduceMul, Int.reduceEq]
        simp (config := { maxSteps := 1000000 }) only [kz, undef, push_cast, ↓Int.toNat_natCast, ↓Int.cast_ofNat_Int, Int.cast_ofNat_Int, ↓reduceIte, reduceCtorEq, Nat.reduceEqDiff, Nat.reduceLT, Nat.reduceLeDiff, Nat.reduceAdd, Nat.reduceSub, Nat.reduceMul, Int.reduceNeg, Int.reduceLE, Int.reduceLT, Int.reduceToNat, Int.reduceAdd, Int.reduceSub, Int.reduceMul, Int.reduceEq]
        (repeat (refine And.intro (by first | omega | decide) ?_))
        refine callG_v rfl cb12 rfl (textK (k0 := 0) (p := 1) (q := 2) (ids := I) (row := R) hy.il hy.rl hy.id hy.r ht rfl rfl rfl) (dOk_lt rfl) ?_
        simp (config := { maxSteps := 1000000 }) only [kz, undef, push_cast, ↓Int.toNat_natCast, ↓Int.cast_ofNat_Int, Int.cast_ofNat_Int, ↓reduceIte, reduceCtorEq, Nat.reduceEqDiff, Nat.reduceLT, Nat.reduceLeDiff, Nat.reduceAdd, Nat.reduceSub, Nat.reduceMul, Int.reduceNeg, Int.reduceLE, Int.reduceLT, Int.reduceToNat, Int.reduceAdd, Int.reduceSub, Int.reduceMul, Int.reduceEq]
        (repeat (refine And.intro (by first | omega | decide) ?_))
        refine loopK_normal (i + 1, ⟨k, r, I, R⟩) [0, 1, 2] ⟨by show i + 1 ≤ l.length; omega, hy⟩ (by show l.length - (i + 1) < l.length - i; omega) ?_
        simp (config := { maxSteps := 1000000 }) only [push_cast, ↓Int.toNat_natCast, ↓Int.cast_ofNat_Int, Int.cast_ofNat_Int, ↓reduceIte, reduceCtorEq, Nat.reduceEqDiff, Nat.reduceLT, Nat.reduceLeDiff, Nat.reduceAdd, Nat.reduceSub, Nat.reduceMul, Int.reduceNeg, Int.reduceLE, Int.reduceLT, Int.reduceToNat, Int.reduceAdd, Int.reduceSub, Int.reduceMul, Int.reduceEq]
      · simp (config := { maxSteps := 1000000 }) only [pAdd_zero, pAdd_add, pAdd_isSome, hlt, h40, i0, c0, c1, c2, c3, o0, o1, o2, o3, hA0, g1, g2, Slc.val, q1, q2, rdR, undef, push_cast, ↓Int.toNat_natCast, ↓Int.cast_ofNat_Int, Int.cast_ofNat_Int, ↓reduceIte, reduceCtorEq, Nat.reduceEqDiff, Nat.reduceLT, Nat.reduceLeDiff, Nat.reduceAdd, Nat.reduceSub, Nat.reduceMul, Int.reduceNeg, Int.reduceLE, Int.reduceLT, Int.reduceToNat, Int.reduceAdd, Int.reduceSub, Int.reduceMul, Int.reduceEq]
        (repeat (refine And.intro (by first | omega | decide) ?_))
        obtain ⟨rfl, d1, d2⟩ := abortOk_spec.1 hd
        obtain ⟨rfl, e1, e2⟩ := hx.z rfl
        dsimp only at e1 e2
        subst e1 e2
        have hy : FT.Ok ⟨2, n, [], []⟩ := ⟨.inr (.inr rfl), (fun _ => ⟨by show 0 ≤ n; omega, d2⟩), (fun h => by cases h), Nat.zero_le _, Nat.zero_le _, (fun n hn => by cases hn)⟩
        refine callG_rule rfl cb9 rfl (abortYesK (k0 := 0) (p := 1) (q := 2) (by decide) (by decide) (by decide) (by simp only [push_cast, ↓Int.toNat_natCast, ↓Int.cast_ofNat_Int, Int.cast_ofNat_Int, ↓reduceIte, reduceCtorEq, Nat.reduceEqDiff, Nat.reduceLT, Nat.reduceLeDiff, Nat.reduceAdd, Nat.reduceSub, Nat.reduceMul, Int.reduceNeg, Int.reduceLE, Int.reduceLT, Int.reduceToNat, Int.reduceAdd, Int.reduceSub, Int.reduceMul, Int.reduceEq]) rfl rfl rfl n d1 d2) (dOk_lt rfl) (fun _ => by simp only [Slc.val, push_cast, ↓Int.toNat_natCast, ↓Int.cast_ofNat_Int, Int.cast_ofNat_Int, ↓reduceIte, reduceCtorEq, Nat.reduceEqDiff, Nat.reduceLT, Nat.reduceLeDiff, Nat.reduceAdd, Nat.reduceSub, Nat.reduceMul, Int.reduceNeg, Int.reduceLE, Int.reduceLT, Int.reduceToNat, Int.reduceAdd, Int.reduceSub, Int.reduceMul, Int.reduceEq]) ?_
        simp (config := { maxSteps := 1000000 }) only [pAdd_zero, pAdd_add, pAdd_isSome, hlt, h40, i0, c0, c1, c2, c3, o0, o1, o2, o3, hA0, g1, g2, Slc.val, q1, q2, rdR, undef, push_cast, ↓Int.toNat_natCast, ↓Int.cast_ofNat_Int, Int.cast_ofNat_Int, ↓reduceIte, reduceCtorEq, Nat.reduceEqDiff, Nat.reduceLT, Nat.reduceLeDiff, Nat.reduceAdd, Nat.reduceSub, Nat.reduceMul, Int.reduceNeg, Int.reduceLE, Int.reduceLT, Int.reduceToNat, Int.reduceAdd, Int.reduceSub, Int.reduceMul, Int.reduceEq]
        (repeat (refine And.intro (by first | omega | decide) ?_))
        refine callG_le [0, 7, 8, 5] (s' := ⟨[(61, .x (.a (.p 0 0))), (0, (.x (.a (.v (.slice A l.length c))))), (3, .x (.a (.p 0 0))), (4, .x (.a (.v (.int .i64 i)))), (6, .x (.a (.v (.string (bstr (txtU 0 0 [] [])))))), (7, .x (.a (.v (.int .i64 0)))), (8, .x (.a (.o 3))), (9, .x (.a (.v (.bool true))))], [.blk 33 (.c [.v (.int .i64 2), .o 1, .o 2, .v (.int .i64 n)]), .own 3 (.i64 []), .own 46 (.u32 []), .own 46 (.u32 R2.l)]⟩) (by simp (config := { maxSteps := 1000000 }) only [push_cast, ↓Int.toNat_natCast, ↓Int.cast_ofNat_Int, Int.cast_ofNat_Int, ↓reduceIte, reduceCtorEq, Nat.reduceEqDiff, Nat.reduceLT, Nat.reduceLeDiff, Nat.reduceAdd, Nat.reduceSub, Nat.reduceMul, Int.reduceNeg, Int.reduceLE, Int.reduceLT, Int.reduceToNat, Int.reduceAdd, Int.reduceSub, Int.reduceMul, Int.reduceEq]) ?_
        refine callG_v rfl cb12 rfl (textK (k0 := 0) (p := 1) (q := 2) (ids := []) (row := []) hy.il hy.rl hy.id hy.r ht rfl rfl rfl) (dOk_lt rfl) ?_
        simp (config := { maxSteps := 1000000 }) only [undef, push_cast, ↓Int.toNat_natCast, ↓Int.cast_ofNat_Int, Int.cast_ofNat_Int, ↓reduceIte, reduceCtorEq, Nat.reduceEqDiff, Nat.reduceLT, Nat.reduceLeDiff, Nat.reduceAdd, Nat.reduceSub, Nat.reduceMul, Int.reduceNeg, Int.reduceLE, Int.reduceLT, Int.reduceToNat, Int.reduceAdd, Int.reduceSub, Int.reduceMul, Int.reduceEq]
        (repeat (refine And.intro (by first | omega | decide) ?_))
        refine loop_rule (ι := Nat) (fun j => ⟨[(0, (.x (.a (.v (.slice A l.length c))))), (3, .x (.a (.p 0 0))), (4, .x (.a (.v (.int .i64 i)))), (6, .x (.a (.v (.string (bstr (txtU 0 0 [] [])))))), (7, .x (.a (.v (.int .i64 0)))), (8, .x (.a (.o 3))), (9, .x (.a (.v (.bool true)))), (10, .x (.a (.v (.string (bstr (txtU 2 n [] [])))))), (11, .x (.a (.v (.int .i64 j))))], [.blk 33 (.c [.v (.int .i64 2), .o 1, .o 2, .v (.int .i64 n)]), .own 3 (.i64 []), .own 46 (.u32 []), .own 46 (.u32 (incU R2.l j))]⟩) (fun j => j ≤ R2.l.length) (fun j => R2.l.length - j) 0 [0, 1, 2, 3] (Nat.zero_le _) ?_ ?_
        · simp (config := { maxSteps := 1000000 }) only [incU_zero, push_cast, ↓Int.toNat_natCast, ↓Int.cast_ofNat_Int, Int.cast_ofNat_Int, ↓reduceIte, reduceCtorEq, Nat.reduceEqDiff, Nat.reduceLT, Nat.reduceLeDiff, Nat.reduceAdd, Nat.reduceSub, Nat.reduceMul, Int.reduceNeg, Int.reduceLE, Int.reduceLT, Int.reduceToNat, Int.reduceAdd, Int.reduceSub, Int.reduceMul, Int.reduceEq]
        intro j hj
        have hlj := incU_length R2.l j
        by_cases hjl : (j : Int) < R2.l.length
        · have j0 : (0 : Int) ≤ j := by omega
          simp (config := { maxSteps := 1000000 }) only [hjl, hlj, j0, undef, push_cast, ↓Int.toNat_natCast, ↓Int.cast_ofNat_Int, Int.cast_ofNat_Int, ↓reduceIte, reduceCtorEq, Nat.reduceEqDiff, Nat.reduceLT, Nat.reduceLeDiff, Nat.reduceAdd, Nat.reduceSub, Nat.reduceMul, Int.reduceNeg, Int.reduceLE, Int.reduceLT, Int.reduceToNat, Int.reduceAdd, Int.reduceSub, Int.reduceMul, Int.reduceEq]
          (repeat (refine And.intro (by first | omega | decide) ?_))
          refine loopK_normal (j + 1) [0, 1, 2, 3] (by omega) (by omega) ?_
          simp (config := { maxSteps := 1000000 }) only [incU_succ, push_cast, ↓Int.toNat_natCast, ↓Int.cast_ofNat_Int, Int.cast_ofNat_Int, ↓reduceIte, reduceCtorEq, Nat.reduceEqDiff, Nat.reduceLT, Nat.reduceLeDiff, Nat.reduceAdd, Nat.reduceSub, Nat.reduceMul, Int.reduceNeg, Int.reduceLE, Int.reduceLT, Int.reduceToNat, Int.reduceAdd, Int.reduceSub, Int.reduceMul, Int.reduceEq]
        simp (config := { maxSteps := 1000000 }) only [hjl, hlj, undef, push_cast, ↓Int.toNat_natCast, ↓Int.cast_ofNat_Int, Int.cast_ofNat_Int, ↓reduceIte, reduceCtorEq, Nat.reduceEqDiff, Nat.reduceLT, Nat.reduceLeDiff, Nat.reduceAdd, Nat.reduceSub, Nat.reduceMul, Int.reduceNeg, Int.reduceLE, Int.reduceLT, Int.reduceToNat, Int.reduceAdd, Int.reduceSub, Int.reduceMul, Int.reduceEq]
        (repeat (refine And.intro (by first | omega | decide) ?_))
        refine callG_rule rfl cb7 rfl (sumNoK (k0 := 0) (p := 1) (q := 2) (ids := []) (row := []) (by decide) rfl rfl rfl) (dOk_lt rfl) (fun _ => by simp only [push_cast, ↓Int.toNat_natCast, ↓Int.cast_ofNat_Int, Int.cast_ofNat_Int, ↓reduceIte, reduceCtorEq, Nat.reduceEqDiff, Nat.reduceLT, Nat.reduceLeDiff, Nat.reduceAdd, Nat.reduceSub, Nat.reduceMul, Int.reduceNeg, Int.reduceLE, Int.reduceLT, Int.reduceToNat, Int.reduceAdd, Int.reduceSub, Int.reduceMul, Int.reduceEq]) ?_
        simp (config := { maxSteps := 1000000 }) only [undef, push_cast, ↓Int.toNat_natCast, ↓Int.cast_ofNat_Int, Int.cast_ofNat_Int, ↓reduceIte, reduceCtorEq, Nat.reduceEqDiff, Nat.reduceLT, Nat.reduceLeDiff, Nat.reduceAdd, Nat.reduceSub, Nat.reduceMul, Int.reduceNeg, Int.reduceLE, Int.reduceLT, Int.reduceToNat, Int.reduceAdd, Int.reduceSub, Int.reduceMul, Int.reduceEq]
        (repeat (refine And.intro (by first | omega | decide) ?_))
        refine loop_rule (ι := Unit) (fun _ => ⟨[(0, (.x (.a (.v (.slice A l.length c))))), (3, .x (.a (.p 0 0))), (4, .x (.a (.v (.int .i64 i)))), (6, .x (.a (.v (.string (bstr (txtU 0 0 [] [])))))), (7, .x (.a (.v (.int .i64 0)))), (9, .x (.a (.v (.bool true)))), (10, .x (.a (.v (.string (bstr (txtU 2 n [] [])))))), (13, .x (.a (.v (.slice none 0 0)))), (15, .x (.a (.v (.int .i64 0))))], [.blk 33 (.c [.v (.int .i64 2), .o 1, .o 2, .v (.int .i64 n)]), .own 3 (.i64 []), .own 46 (.u32 [])]⟩) (fun _ => True) (fun _ => 0) () [0, 1, 2] trivial ?_ ?_
        · simp (config := { maxSteps := 1000000 }) only [push_cast, ↓Int.toNat_natCast, ↓Int.cast_ofNat_Int, Int.cast_ofNat_Int, ↓reduceIte, reduceCtorEq, Nat.reduceEqDiff, Nat.reduceLT, Nat.reduceLeDiff, Nat.reduceAdd, Nat.reduceSub, Nat.reduceMul, Int.reduceNeg, Int.reduceLE, Int.reduceLT, Int.reduceToNat, Int.reduceAdd, Int.reduceSub, Int.reduceMul, Int.reduceEq]
        intro _ _
        simp (config := { maxSteps := 1000000 }) only [undef, push_cast, ↓Int.toNat_natCast, ↓Int.cast_ofNat_Int, Int.cast_ofNat_Int, ↓reduceIte, reduceCtorEq, Nat.reduceEqDiff, Nat.reduceLT, Nat.reduceLeDiff, Nat.reduceAdd, Nat.reduceSub, Nat.reduceMul, Int.reduceNeg, Int.reduceLE, Int.reduceLT, Int.reduceToNat, Int.reduceAdd, Int.reduceSub, Int.reduceMul, Int.reduceEq]
        (repeat (refine And.intro (by first | omega | decide) ?_))
        refine callG_v rfl cb10 rfl (kindK (k0 := 0) (p := 1) (q := 2) (ids := []) (row := []) rfl rfl rfl) (dOk_lt rfl) ?_
        simp (config := { maxSteps := 1000000 }) only [undef, push_cast, ↓Int.toNat_natCast, ↓Int.cast_ofNat_Int, Int.cast_ofNat_Int, ↓reduceIte, reduceCtorEq, Nat.reduceEqDiff, Nat.reduceLT, Nat.reduceLeDiff, Nat.reduceAdd, Nat.reduceSub, Nat.reduceMul, Int.reduceNeg, Int.reduceLE, Int.reduceLT, Int.reduceToNat, Int.reduceAdd, Int.reduceSub, Int.reduceMul, Int.reduceEq]
        (repeat (refine And.intro (by first | omega | decide) ?_))
        refine callG_v rfl cb12 rfl (textK (k0 := 0) (p := 1) (q := 2) (ids := []) (row := []) hy.il hy.rl hy.id hy.r ht rfl rfl rfl) (dOk_lt rfl) ?_
        simp (config := { maxSteps := 1000000 }) only [undef, push_cast, ↓Int.toNat_natCast, ↓Int.cast_ofNat_Int, Int.cast_ofNat_Int, ↓reduceIte, reduceCtorEq, Nat.reduceEqDiff, Nat.reduceLT, Nat.reduceLeDiff, Nat.reduceAdd, Nat.reduceSub, Nat.reduceMul, Int.reduceNeg, Int.reduceLE, Int.reduceLT, Int.reduceToNat, Int.reduceAdd, Int.reduceSub, Int.reduceMul, Int.reduceEq]
        (repeat (refine And.intro (by first | omega | decide) ?_))
        refine loopK_normal (i + 1, ⟨2, n, [], []⟩) [0, 1, 2] ⟨by show i + 1 ≤ l.length; omega, hy⟩ (by show l.length - (i + 1) < l.length - i; omega) ?_
        simp (config := { maxSteps := 1000000 }) only [push_cast, ↓Int.toNat_natCast, ↓Int.cast_ofNat_Int, Int.cast_ofNat_Int, ↓reduceIte, reduceCtorEq, Nat.reduceEqDiff, Nat.reduceLT, Nat.reduceLeDiff, Nat.reduceAdd, Nat.reduceSub, Nat.reduceMul, Int.reduceNeg, Int.reduceLE, Int.reduceLT, Int.reduceToNat, Int.reduceAdd, Int.reduceSub, Int.reduceMul, Int.reduceEq]
      · simp (config := { maxSteps := 1000000 }) only [pAdd_zero, pAdd_add, pAdd_isSome, hlt, h40, i0, c0, c1, c2, c3, o0, o1, o2, o3, hA0, g1, g2, Slc.val, q1, q2, rdR, undef, push_cast, ↓Int.toNat_natCast, ↓Int.cast_ofNat_Int, Int.cast_ofNat_Int, ↓reduceIte, reduceCtorEq, Nat.reduceEqDiff, Nat.reduceLT, Nat.reduceLeDiff, Nat.reduceAdd, Nat.reduceSub, Nat.reduceMul, Int.reduceNeg, Int.reduceLE, Int.reduceLT, Int.reduceToNat, Int.reduceAdd, Int.reduceSub, Int.reduceMul, Int.reduceEq]
        (repeat (refine And.intro (by first | omega | decide) ?_))
        have hy := hx
        refine callG_v rfl cb9 rfl (abortNoK (k0 := 0) (p := 1) (q := 2) n hd rfl rfl rfl) (dOk_lt rfl) ?_
        simp (config := { maxSteps := 1000000 }) only [pAdd_zero, pAdd_add, pAdd_isSome, hlt, h40, i0, c0, c1, c2, c3, o0, o1, o2, o3, hA0, g1, g2, Slc.val, q1, q2, rdR, undef, push_cast, ↓Int.toNat_natCast, ↓Int.cast_ofNat_Int, Int.cast_ofNat_Int, ↓reduceIte, reduceCtorEq, Nat.reduceEqDiff, Nat.reduceLT, Nat.reduceLeDiff, Nat.reduceAdd, Nat.reduceSub, Nat.reduceMul, Int.reduceNeg, Int.reduceLE, Int.reduceLT, Int.reduceToNat, Int.reduceAdd, Int.reduceSub, Int.reduceMul, Int.reduceEq]
        (repeat (refine And.intro (by first | omega | decide) ?_))
        refine callG_le [0, 1, 2, 5] (s' := ⟨[(61, .x (.a (.p 0 0))), (0, (.x (.a (.v (.slice A l.length c))))), (3, .x (.a (.p 0 0))), (4, .x (.a (.v (.int .i64 i)))), (6, .x (.a (.v (.string (bstr (txtU k r I R)))))), (7, .x (.a (.v (.int .i64 k)))), (8, .x (.a (.o 3))), (9, .x (.a (.v (.bool false))))], [.blk 33 (.c [.v (.int .i64 k), .o 1, .o 2, .v (.int .i64 r)]), .own 3 (.i64 I), .own 46 (.u32 R), .own 46 (.u32 R2.l)]⟩) (by simp (config := { maxSteps := 1000000 }) only [push_cast, ↓Int.toNat_natCast, ↓Int.cast_ofNat_Int, Int.cast_ofNat_Int, ↓reduceIte, reduceCtorEq, Nat.reduceEqDiff, Nat.reduceLT, Nat.reduceLeDiff, Nat.reduceAdd, Nat.reduceSub, Nat.reduceMul, Int.reduceNeg, Int.reduceLE, Int.reduceLT, Int.reduceToNat, Int.reduceAdd, Int.reduceSub, Int.reduceMul, Int.reduceEq]) ?_
        by_cases k1 : k = 1
        · subst k1
          refine callG_v rfl cb12 rfl (textK (k0 := 0) (p := 1) (q := 2) (ids := I) (row := R) hy.il hy.rl hy.id hy.r ht rfl rfl rfl) (dOk_lt rfl) ?_
          simp (config := { maxSteps := 1000000 }) only [undef, push_cast, ↓Int.toNat_natCast, ↓Int.cast_ofNat_Int, Int.cast_ofNat_Int, ↓reduceIte, reduceCtorEq, Nat.reduceEqDiff, Nat.reduceLT, Nat.reduceLeDiff, Nat.reduceAdd, Nat.reduceSub, Nat.reduceMul, Int.reduceNeg, Int.reduceLE, Int.reduceLT, Int.reduceToNat, Int.reduceAdd, Int.reduceSub, Int.reduceMul, Int.reduceEq]
          (repeat (refine And.intro (by first | omega | decide) ?_))
          refine loop_rule (ι := Nat) (fun j => ⟨[(0, (.x (.a (.v (.slice A l.length c))))), (3, .x (.a (.p 0 0))), (4, .x (.a (.v (.int .i64 i)))), (6, .x (.a (.v (.string (bstr (txtU 1 r I R)))))), (7, .x (.a (.v (.int .i64 1)))), (8, .x (.a (.o 3))), (9, .x (.a (.v (.bool false)))), (10, .x (.a (.v (.string (bstr (txtU 1 r I R)))))), (11, .x (.a (.v (.int .i64 j))))], [.blk 33 (.c [.v (.int .i64 1), .o 1, .o 2, .v (.int .i64 r)]), .own 3 (.i64 I), .own 46 (.u32 R), .own 46 (.u32 (incU R2.l j))]⟩) (fun j => j ≤ R2.l.length) (fun j => R2.l.length - j) 0 [0, 1, 2, 3] (Nat.zero_le _) ?_ ?_
          · simp (config := { maxSteps := 1000000 }) only [incU_zero, push_cast, ↓Int.toNat_natCast, ↓Int.cast_ofNat_Int, Int.cast_ofNat_Int, ↓reduceIte, reduceCtorEq, Nat.reduceEqDiff, Nat.reduceLT, Nat.reduceLeDiff, Nat.reduceAdd, Nat.reduceSub, Nat.reduceMul, Int.reduceNeg, Int.reduceLE, Int.reduceLT, Int.reduceToNat, Int.reduceAdd, Int.reduceSub, Int.reduceMul, Int.reduceEq]
          intro j hj
          have hlj := incU_length R2.l j
          by_cases hjl : (j : Int) < R2.l.length
          · have j0 : (0 : Int) ≤ j := by omega
            simp (config := { maxSteps := 1000000 }) only [hjl, hlj, j0, undef, push_cast, ↓Int.toNat_natCast, ↓Int.cast_ofNat_Int, Int.cast_ofNat_Int, ↓reduceIte, reduceCtorEq, Nat.reduceEqDiff, Nat.reduceLT, Nat.reduceLeDiff, Nat.reduceAdd, Nat.reduceSub, Nat.reduceMul, Int.reduceNeg, Int.reduceLE, Int.reduceLT, Int.reduceToNat, Int.reduceAdd, Int.reduceSub, Int.reduceMul, Int.reduceEq]
            (repeat (refine And.intro (by first | omega | decide) ?_))
            refine loopK_normal (j + 1) [0, 1, 2, 3] (by omega) (by omega) ?_
            simp (config := { maxSteps := 1000000 }) only [incU_succ, push_cast, ↓Int.toNat_natCast, ↓Int.cast_ofNat_Int, Int.cast_ofNat_Int, ↓reduceIte, reduceCtorEq, Nat.reduceEqDiff, Nat.reduceLT, Nat.reduceLeDiff, Nat.reduceAdd, Nat.reduceSub, Nat.reduceMul, Int.reduceNeg, Int.reduceLE, Int.reduceLT, Int.reduceToNat, Int.reduceAdd, Int.reduceSub, Int.reduceMul, Int.reduceEq]
          simp (config := { maxSteps := 1000000 }) only [hjl, hlj, undef, push_cast, ↓Int.toNat_natCast, ↓Int.cast_ofNat_Int, Int.cast_ofNat_Int, ↓reduceIte, reduceCtorEq, Nat.reduceEqDiff, Nat.reduceLT, Nat.reduceLeDiff, Nat.reduceAdd, Nat.reduceSub, Nat.reduceMul, Int.reduceNeg, Int.reduceLE, Int.reduceLT, Int.reduceToNat, Int.reduceAdd, Int.reduceSub, Int.reduceMul, Int.reduceEq]
          (repeat (refine And.intro (by first | omega | decide) ?_))
          refine callG_rule rfl cb7 rfl (sumYesK (k0 := 0) (p := 1) (q := 2) (ids := I) (row := R) (by have := hy.il; dsimp only at this; omega) (by have := hy.rl; dsimp only at this; omega) (by simp only [push_cast, ↓Int.toNat_natCast, ↓Int.cast_ofNat_Int, Int.cast_ofNat_Int, ↓reduceIte, reduceCtorEq, Nat.reduceEqDiff, Nat.reduceLT, Nat.reduceLeDiff, Nat.reduceAdd, Nat.reduceSub, Nat.reduceMul, Int.reduceNeg, Int.reduceLE, Int.reduceLT, Int.reduceToNat, Int.reduceAdd, Int.reduceSub, Int.reduceMul, Int.reduceEq]) rfl rfl rfl) (dOk_lt rfl) (fun _ => by simp only [push_cast, ↓Int.toNat_natCast, ↓Int.cast_ofNat_Int, Int.cast_ofNat_Int, ↓reduceIte, reduceCtorEq, Nat.reduceEqDiff, Nat.reduceLT, Nat.reduceLeDiff, Nat.reduceAdd, Nat.reduceSub, Nat.reduceMul, Int.reduceNeg, Int.reduceLE, Int.reduceLT, Int.reduceToNat, Int.reduceAdd, Int.reduceSub, Int.reduceMul, Int.reduceEq]) ?_
          simp (config := { maxSteps := 1000000 }) only [undef, push_cast, ↓Int.toNat_natCast, ↓Int.cast_ofNat_Int, Int.cast_ofNat_Int, ↓reduceIte, reduceCtorEq, Nat.reduceEqDiff, Nat.reduceLT, Nat.reduceLeDiff, Nat.reduceAdd, Nat.reduceSub, Nat.reduceMul, Int.reduceNeg, Int.reduceLE, Int.reduceLT, Int.reduceToNat, Int.reduceAdd, Int.reduceSub, Int.reduceMul, Int.reduceEq]
          (repeat (refine And.intro (by first | omega | decide) ?_))
          refine loop_rule (ι := Nat) (fun j => ⟨[(0, (.x (.a (.v (.slice A l.length c))))), (3, .x (.a (.p 0 0))), (4, .x (.a (.v (.int .i64 i)))), (6, .x (.a (.v (.string (bstr (txtU 1 r I R)))))), (7, .x (.a (.v (.int .i64 1)))), (9, .x (.a (.v (.bool false)))), (10, .x (.a (.v (.string (bstr (txtU 1 r I R)))))), (13, .x (.a (.o 3))), (15, .x (.a (.v (.int .i64 j))))], [.blk 33 (.c [.v (.int .i64 1), .o 1, .o 2, .v (.int .i64 r)]), .own 3 (.i64 I), .own 46 (.u32 R), .own 46 (.u32 (incU R j))]⟩) (fun j => j ≤ R.length) (fun j => R.length - j) 0 [0, 1, 2, 5] (Nat.zero_le _) ?_ ?_
          · simp (config := { maxSteps := 1000000 }) only [incU_zero, push_cast, ↓Int.toNat_natCast, ↓Int.cast_ofNat_Int, Int.cast_ofNat_Int, ↓reduceIte, reduceCtorEq, Nat.reduceEqDiff, Nat.reduceLT, Nat.reduceLeDiff, Nat.reduceAdd, Nat.reduceSub, Nat.reduceMul, Int.reduceNeg, Int.reduceLE, Int.reduceLT, Int.reduceToNat, Int.reduceAdd, Int.reduceSub, Int.reduceMul, Int.reduceEq]
          intro m hm
          have hlm := incU_length R m
          by_cases hml : (m : Int) < R.length
          · have m0 : (0 : Int) ≤ m := by omega
            simp (config := { maxSteps := 1000000 }) only [hml, hlm, m0, undef, push_cast, ↓Int.toNat_natCast, ↓Int.cast_ofNat_Int, Int.cast_ofNat_Int, ↓reduceIte, reduceCtorEq, Nat.reduceEqDiff, Nat.reduceLT, Nat.reduceLeDiff, Nat.reduceAdd, Nat.reduceSub, Nat.reduceMul, Int.reduceNeg, Int.reduceLE, Int.reduceLT, Int.reduceToNat, Int.reduceAdd, Int.reduceSub, Int.reduceMul, Int.reduceEq]
            (repeat (refine And.intro (by first | omega | decide) ?_))
            refine loopK_normal (m + 1) [0, 1, 2, 3] (by omega) (by omega) ?_
            simp (config := { maxSteps := 1000000 }) only [incU_succ, push_cast, ↓Int.toNat_natCast, ↓Int.cast_ofNat_Int, Int.cast_ofNat_Int, ↓reduceIte, reduceCtorEq, Nat.reduceEqDiff, Nat.reduceLT, Nat.reduceLeDiff, Nat.reduceAdd, Nat.reduceSub, Nat.reduceMul, Int.reduceNeg, Int.reduceLE, Int.reduceLT, Int.reduceToNat, Int.reduceAdd, Int.reduceSub, Int.reduceMul, Int.reduceEq]
          simp (config := { maxSteps := 1000000 }) only [hml, hlm, undef, push_cast, ↓Int.toNat_natCast, ↓Int.cast_ofNat_Int, Int.cast_ofNat_Int, ↓reduceIte, reduceCtorEq, Nat.reduceEqDiff, Nat.reduceLT, Nat.reduceLeDiff, Nat.reduceAdd, Nat.reduceSub, Nat.reduceMul, Int.reduceNeg, Int.reduceLE, Int.reduceLT, Int.reduceToNat, Int.reduceAdd, Int.reduceSub, Int.reduceMul, Int.reduceEq]
          (repeat (refine And.intro (by first | omega | decide) ?_))
          refine callG_v rfl cb12 rfl (textK (k0 := 0) (p := 1) (q := 2) (ids := I) (row := R) hy.il hy.rl hy.id hy.r ht rfl rfl rfl) (dOk_lt rfl) ?_
          simp (config := { maxSteps := 1000000 }) only [undef, push_cast, ↓Int.toNat_natCast, ↓Int.cast_ofNat_Int, Int.cast_ofNat_Int, ↓reduceIte, reduceCtorEq, Nat.reduceEqDiff, Nat.reduceLT, Nat.reduceLeDiff, Nat.reduceAdd, Nat.reduceSub, Nat.reduceMul, Int.reduceNeg, Int.reduceLE, Int.reduceLT, Int.reduceToNat, Int.reduceAdd, Int.reduceSub, Int.reduceMul, Int.reduceEq]
          (repeat (refine And.intro (by first | omega | decide) ?_))
          refine loopK_normal (i + 1, ⟨1, r, I, R⟩) [0, 1, 2] ⟨by show i + 1 ≤ l.length; omega, hy⟩ (by show l.length - (i + 1) < l.length - i; omega) ?_
          simp (config := { maxSteps := 1000000 }) only [push_cast, ↓Int.toNat_natCast, ↓Int.cast_ofNat_Int, Int.cast_ofNat_Int, ↓reduceIte, reduceCtorEq, Nat.reduceEqDiff, Nat.reduceLT, Nat.reduceLeDiff, Nat.reduceAdd, Nat.reduceSub, Nat.reduceMul, Int.reduceNeg, Int.reduceLE, Int.reduceLT, Int.reduceToNat, Int.reduceAdd, Int.reduceSub, Int.reduceMul, Int.reduceEq]
        refine callG_v rfl cb12 rfl (textK (k0 := 0) (p := 1) (q := 2) (ids := I) (row := R) hy.il hy.rl hy.id hy.r ht rfl rfl rfl) (dOk_lt rfl) ?_
        simp (config := { maxSteps := 1000000 }) only [undef, push_cast, ↓Int.toNat_natCast, ↓Int.cast_ofNat_Int, Int.cast_ofNat_Int, ↓reduceIte, reduceCtorEq, Nat.reduceEqDiff, Nat.reduceLT, Nat.reduceLeDiff, Nat.reduceAdd, Nat.reduceSub, Nat.reduceMul, Int.reduceNeg, Int.reduceLE, Int.reduceLT, Int.reduceToNat, Int.reduceAdd, Int.reduceSub, Int.reduceMul, Int.reduceEq]
        (repeat (refine And.intro (by first | omega | decide) ?_))
        refine loop_rule (ι := Nat) (fun j => ⟨[(0, (.x (.a (.v (.slice A l.length c))))), (3, .x (.a (.p 0 0))), (4, .x (.a (.v (.int .i64 i)))), (6, .x (.a (.v (.string (bstr (txtU k r I R)))))), (7, .x (.a (.v (.int .i64 k)))), (8, .x (.a (.o 3))), (9, .x (.a (.v (.bool false)))), (10, .x (.a (.v (.string (bstr (txtU k r I R)))))), (11, .x (.a (.v (.int .i64 j))))], [.blk 33 (.c [.v (.int .i64 k), .o 1, .o 2, .v (.int .i64 r)]), .own 3 (.i64 I), .own 46 (.u32 R), .own 46 (.u32 (incU R2.l j))]⟩) (fun j => j ≤ R2.l.length) (fun j => R2.l.length - j) 0 [0, 1, 2, 3] (Nat.zero_le _) ?_ ?_
        · simp (config := { maxSteps := 1000000 }) only [incU_zero, push_cast, ↓Int.toNat_natCast, ↓Int.cast_ofNat_Int, Int.cast_ofNat_Int, ↓reduceIte, reduceCtorEq, Nat.reduceEqDiff, Nat.reduceLT, Nat.reduceLeDiff, Nat.reduceAdd, Nat.reduceSub, Nat.reduceMul, Int.reduceNeg, Int.reduceLE, Int.reduceLT, Int.reduceToNat, Int.reduceAdd, Int.reduceSub, Int.reduceMul, Int.reduceEq]
        intro j hj
        have hlj := incU_length R2.l j
        by_cases hjl : (j : Int) < R2.l.length
        · have j0 : (0 : Int) ≤ j := by omega
          simp (config := { maxSteps := 1000000 }) only [hjl, hlj, j0, undef, push_cast, ↓Int.toNat_natCast, ↓Int.cast_ofNat_Int, Int.cast_ofNat_Int, ↓reduceIte, reduceCtorEq, Nat.reduceEqDiff, Nat.reduceLT, Nat.reduceLeDiff, Nat.reduceAdd, Nat.reduceSub, Nat.reduceMul, Int.reduceNeg, Int.reduceLE, Int.reduceLT, Int.reduceToNat, Int.reduceAdd, Int.reduceSub, Int.reduceMul, Int.reduceEq]
          (repeat (refine And.intro (by first | omega | decide) ?_))
          refine loopK_normal (j + 1) [0, 1, 2, 3] (by omega) (by omega) ?_
          simp (config := { maxSteps := 1000000 }) only [incU_succ, push_cast, ↓Int.toNat_natCast, ↓Int.cast_ofNat_Int, Int.cast_ofNat_Int, ↓reduceIte, reduceCtorEq, Nat.reduceEqDiff, Nat.reduceLT, Nat.reduceLeDiff, Nat.reduceAdd, Nat.reduceSub, Nat.reduceMul, Int.reduceNeg, Int.reduceLE, Int.reduceLT, Int.reduceToNat, Int.reduceAdd, Int.reduceSub, Int.reduceMul, Int.reduceEq]
        simp (config := { maxSteps := 1000000 }) only [hjl, hlj, undef, push_cast, ↓Int.toNat_natCast, ↓Int.cast_ofNat_Int, Int.cast_ofNat_Int, ↓reduceIte, reduceCtorEq, Nat.reduceEqDiff, Nat.reduceLT, Nat.reduceLeDiff, Nat.reduceAdd, Nat.reduceSub, Nat.reduceMul, Int.reduceNeg, Int.reduceLE, Int.reduceLT, Int.reduceToNat, Int.reduceAdd, Int.reduceSub, Int.reduceMul, Int.reduceEq]
        (repeat (refine And.intro (by first | omega | decide) ?_))
        refine callG_rule rfl cb7 rfl (sumNoK (k0 := 0) (p := 1) (q := 2) (ids := I) (row := R) k1 rfl rfl rfl) (dOk_lt rfl) (fun _ => by simp only [push_cast, ↓Int.toNat_natCast, ↓Int.cast_ofNat_Int, Int.cast_ofNat_Int, ↓reduceIte, reduceCtorEq, Nat.reduceEqDiff, Nat.reduceLT, Nat.reduceLeDiff, Nat.reduceAdd, Nat.reduceSub, Nat.reduceMul, Int.reduceNeg, Int.reduceLE, Int.reduceLT, Int.reduceToNat, Int.reduceAdd, Int.reduceSub, Int.reduceMul, Int.reduceEq]) ?_
        simp (config := { maxSteps := 1000000 }) only [undef, push_cast, ↓Int.toNat_natCast, ↓Int.cast_ofNat_Int, Int.cast_ofNat_Int, ↓reduceIte, reduceCtorEq, Nat.reduceEqDiff, Nat.reduceLT, Nat.reduceLeDiff, Nat.reduceAdd, Nat.reduceSub, Nat.reduceMul, Int.reduceNeg, Int.reduceLE, Int.reduceLT, Int.reduceToNat, Int.reduceAdd, Int.reduceSub, Int.reduceMul, Int.reduceEq]
        (repeat (refine And.intro (by first | omega | decide) ?_))
        refine loop_rule (ι := Unit) (fun _ => ⟨[(0, (.x (.a (.v (.slice A l.length c))))), (3, .x (.a (.p 0 0))), (4, .x (.a (.v (.int .i64 i)))), (6, .x (.a (.v (.string (bstr (txtU k r I R)))))), (7, .x (.a (.v (.int .i64 k)))), (9, .x (.a (.v (.bool false)))), (10, .x (.a (.v (.string (bstr (txtU k r I R)))))), (13, .x (.a (.v (.slice none 0 0)))), (15, .x (.a (.v (.int .i64 0))))], [.blk 33 (.c [.v (.int .i64 k), .o 1, .o 2, .v (.int .i64 r)]), .own 3 (.i64 I), .own 46 (.u32 R)]⟩) (fun _ => True) (fun _ => 0) () [0, 1, 2] trivial ?_ ?_
        · simp (config := { maxSteps := 1000000 }) only [push_cast, ↓Int.toNat_natCast, ↓Int.cast_ofNat_Int, Int.cast_ofNat_Int, ↓reduceIte, reduceCtorEq, Nat.reduceEqDiff, Nat.reduceLT, Nat.reduceLeDiff, Nat.reduceAdd, Nat.reduceSub, Nat.reduceMul, Int.reduceNeg, Int.reduceLE, Int.reduceLT, Int.reduceToNat, Int.reduceAdd, Int.reduceSub, Int.reduceMul, Int.reduceEq]
        intro _ _
        simp (config := { maxSteps := 1000000 }) only [undef, push_cast, ↓Int.toNat_natCast, ↓Int.cast_ofNat_Int, Int.cast_ofNat_Int, ↓reduceIte, reduceCtorEq, Nat.reduceEqDiff, Nat.reduceLT, Nat.reduceLeDiff, Nat.reduceAdd, Nat.reduceSub, Nat.reduceMul, Int.reduceNeg, Int.reduceLE, Int.reduceLT, Int.reduceToNat, Int.reduceAdd, Int.reduceSub, Int.reduceMul, Int.reduceEq]
        (repeat (refine And.intro (by first | omega | decide) ?_))
        by_cases kz : k = 0
        · subst kz
          simp (config := { maxSteps := 1000000 }) only [undef, push_cast, ↓Int.toNat_natCast, ↓Int.cast_ofNat_Int, Int.cast_ofNat_Int, ↓reduceIte, reduceCtorEq, Nat.reduceEqDiff, Nat.reduceLT, Nat.reduceLeDiff, Nat.reduceAdd, Nat.reduceSub, Nat.reduceMul, Int.reduceNeg, Int.reduceLE, Int.reduceLT, Int.reduceToNat, Int.reduceAdd, Int.reduceSub, Int.reduceMul, Int.reduceEq]
          (repeat (refine And.intro (by first | omega | decide) ?_))
          refine callG_v rfl cb10 rfl (kindK (k0 := 0) (p := 1) (q := 2) (ids := I) (row := R) rfl rfl rfl) (dOk_lt rfl) ?_
          simp (config := { maxSteps := 1000000 }) only [undef, push_cast, ↓Int.toNat_natCast, ↓Int.cast_ofNat_Int, Int.cast_ofNat_Int, ↓reduceIte, reduceCtorEq, Nat.reduceEqDiff, Nat.reduceLT, Nat.reduceLeDiff, Nat.reduceAdd, Nat.reduceSub, Nat.reduceMul, Int.reduceNeg, Int.reduceLE, Int.reduceLT, Int.reduceToNat, Int.reduceAdd, Int.reduceSub, Int.reduceMul, Int.reduceEq]
          (repeat (refine And.intro (by first | omega | decide) ?_))
          refine callG_v rfl cb12 rfl (textK (k0 := 0) (p := 1) (q := 2) (ids := I) (row := R) hy.il hy.rl hy.id hy.r ht rfl rfl rfl) (dOk_lt rfl) ?_
          simp (config := { maxSteps := 1000000 }) only [undef, push_cast, ↓Int.toNat_natCast, ↓Int.cast_ofNat_Int, Int.cast_ofNat_Int, ↓reduceIte, reduceCtorEq, Nat.reduceEqDiff, Nat.reduceLT, Nat.reduceLeDiff, Nat.reduceAdd, Nat.reduceSub, Nat.reduceMul, Int.reduceNeg, Int.reduceLE, Int.reduceLT, Int.reduceToNat, Int.reduceAdd, Int.reduceSub, Int.reduceMul, Int.reduceEq]
          (repeat (refine And.intro (by first | omega | decide) ?_))
          refine loopK_normal (i + 1, ⟨0, r, I, R⟩) [0, 1, 2] ⟨by show i + 1 ≤ l.length; omega, hy⟩ (by show l.length - (i + 1) < l.length - i; omega) ?_
          simp (config := { maxSteps := 1000000 }) only [push_cast, ↓Int.toNat_natCast, ↓Int.cast_ofNat_Int, Int.cast_ofNat_Int, ↓reduceIte, reduceCtorEq, Nat.reduceEqDiff, Nat.reduceLT, Nat.reduceLeDiff, Nat.reduceAdd, Nat.reduceSub, Nat.reduceMul, Int.reduceNeg, Int.reduceLE, Int.reduceLT, Int.reduceToNat, Int.reduceAdd, Int.reduceSub, Int.reduceMul, Int.reduceEq]
        simp (config := { maxSteps := 1000000 }) only [kz, undef, push_cast, ↓Int.toNat_natCast, ↓Int.cast_ofNat_Int, Int.cast_ofNat_Int, ↓reduceIte, reduceCtorEq, Nat.reduceEqDiff, Nat.reduceLT, Nat.reduceLeDiff, Nat.reduceAdd, Nat.reduceSub, Nat.reduceMul, Int.reduceNeg, Int.reduceLE, Int.reduceLT, Int.reduceToNat, Int.reduceAdd, Int.reduceSub, Int.reduceMul, Int.reduceEq]
        (repeat (refine And.intro (by first | omega | decide) ?_))
        refine callG_v rfl cb12 rfl (textK (k0 := 0) (p := 1) (q := 2) (ids := I) (row := R) hy.il hy.rl hy.id hy.r ht rfl rfl rfl) (dOk_lt rfl) ?_
        simp (config := { maxSteps := 1000000 }) only [kz, undef, push_cast, ↓Int.toNat_natCast, ↓Int.cast_ofNat_Int, Int.cast_ofNat_Int, ↓reduceIte, reduceCtorEq, Nat.reduceEqDiff, Nat.reduceLT, Nat.reduceLeDiff, Nat.reduceAdd, Nat.reduceSub, Nat.reduceMul, Int.reduceNeg, Int.reduceLE, Int.reduceLT, Int.reduceToNat, Int.reduceAdd, Int.reduceSub, Int.reduceMul, Int.reduceEq]
        (repeat (refine And.intro (by first | omega | decide) ?_))
        refine loopK_normal (i + 1, ⟨k, r, I, R⟩) [0, 1, 2] ⟨by show i + 1 ≤ l.length; omega, hy⟩ (by show l.length - (i + 1) < l.length - i; omega) ?_
        simp (config := { maxSteps := 1000000 }) only [push_cast, ↓Int.toNat_natCast, ↓Int.cast_ofNat_Int, Int.cast_ofNat_Int, ↓reduceIte, reduceCtorEq, Nat.reduceEqDiff, Nat.reduceLT, Nat.reduceLeDiff, Nat.reduceAdd, Nat.reduceSub, Nat.reduceMul, Int.reduceNeg, Int.reduceLE, Int.reduceLT, Int.reduceToNat, Int.reduceAdd, Int.reduceSub, Int.reduceMul, Int.reduceEq]
    · simp (config := { maxSteps := 1000000 }) only [hlt, h40, undef, push_cast, ↓Int.toNat_natCast, ↓Int.cast_ofNat_Int, Int.cast_ofNat_Int, ↓reduceIte, reduceCtorEq, Nat.reduceEqDiff, Nat.reduceLT, Nat.reduceLeDiff, Nat.reduceAdd, Nat.reduceSub, Nat.reduceMul, Int.reduceNeg, Int.reduceLE, Int.reduceLT, Int.reduceToNat, Int.reduceAdd, Int.reduceSub, Int.reduceMul, Int.reduceEq]
      refine callG_v rfl cb18 rfl (sure33OK ht) (dOk_lt rfl) ?_
      simp (config := { maxSteps := 1000000 }) only [undef, push_cast, ↓Int.toNat_natCast, ↓Int.cast_ofNat_Int, Int.cast_ofNat_Int, ↓reduceIte, reduceCtorEq, Nat.reduceEqDiff, Nat.reduceLT, Nat.reduceLeDiff, Nat.reduceAdd, Nat.reduceSub, Nat.reduceMul, Int.reduceNeg, Int.reduceLE, Int.reduceLT, Int.reduceToNat, Int.reduceAdd, Int.reduceSub, Int.reduceMul, Int.reduceEq]
  · simp (config := { maxSteps := 1000000 }) only [hlt, undef, push_cast, ↓Int.toNat_natCast, ↓Int.cast_ofNat_Int, Int.cast_ofNat_Int, ↓reduceIte, reduceCtorEq, Nat.reduceEqDiff, Nat.reduceLT, Nat.reduceLeDiff, Nat.reduceAdd, Nat.reduceSub, Nat.reduceMul, Int.reduceNeg, Int.reduceLE, Int.reduceLT, Int.reduceToNat, Int.reduceAdd, Int.reduceSub, Int.reduceMul, Int.reduceEq]
    refine callG_v rfl cb18 rfl (sure33OK ht) (dOk_lt rfl) ?_
    simp (config := { maxSteps := 1000000 }) only [undef, push_cast, ↓Int.toNat_natCast, ↓Int.cast_ofNat_Int, Int.cast_ofNat_Int, ↓reduceIte, reduceCtorEq, Nat.reduceEqDiff, Nat.reduceLT, Nat.reduceLeDiff, Nat.reduceAdd, Nat.reduceSub, Nat.reduceMul, Int.reduceNeg, Int.reduceLE, Int.reduceLT, Int.reduceToNat, Int.reduceAdd, Int.reduceSub, Int.reduceMul, Int.reduceEq]
end Go.Proofs.YtohnlajccfnecaaDoor
