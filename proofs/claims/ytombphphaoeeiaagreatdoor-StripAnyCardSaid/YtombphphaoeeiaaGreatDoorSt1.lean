import Derived.Test.YtombphphaoeeiaaGreatDoorSrI
import Derived.Test.YtombphphaoeeiaaGreatDoorShA
import Derived.Test.YtombphphaoeeiaaGreatDoorSetA
/- Layer 15: sets (set.can, Bits, From, Either, Both, Less, Has, Check). -/
namespace Go.Proofs.YtombphphaoeeiaaGreatDoor
open Go.RowKit
set_option linter.unusedSimpArgs false
set_option linter.unusedVariables false
def canF (n : Int) : Bool := decide (0 ≤ n ∧ n < 64)
theorem canF_yes {n : Int} (h : 0 ≤ n ∧ n < 64) : canF n = true := decide_eq_true h
theorem canF_no {n : Int} (h : ¬ (0 ≤ n ∧ n < 64)) : canF n = false := decide_eq_false h
attribute [local irreducible] Callable CallOK CallG CallM DrawG LoopG symR symM
attribute [local irreducible] bitsF fromF bitStep canF
section
variable {w0 : World} {ow : Nat → Prop} {hp : List Res}
set_option maxRecDepth 100000 in
theorem can_any (n : Int) (w : World) : Calls Tryz.prog 42 #[.int .i64 n] w fun e w' => e = .returned (.bool (canF n)) ∧ Below w.heap.size w w' := by
  refine calls_v (n := 9) Tryz.func42 rfl Tryz.ntmps42 [.x (.a (.v (.int .i64 n)))] (by simp) (.x (.a (.v (.bool (canF n))))) (fun _ => rfl) ?_
  by_cases h : (0 : Int) ≤ n
  · by_cases h1 : n < 64
    · have hd := canF_yes ⟨h, h1⟩
      simp (config := { maxSteps := 1000000 }) only [h, h1, hd, push_cast, ↓reduceIte, reduceCtorEq, Nat.reduceEqDiff, Nat.reduceLT]
      done
    · have hd := canF_no (n := n) fun e => h1 e.2
      simp (config := { maxSteps := 1000000 }) only [h, h1, hd, push_cast, ↓reduceIte, reduceCtorEq, Nat.reduceEqDiff, Nat.reduceLT]
      done
  · have hd := canF_no (n := n) fun e => h e.1
    simp (config := { maxSteps := 1000000 }) only [h, hd, undef, push_cast, ↓reduceIte, reduceCtorEq, Nat.reduceEqDiff, Nat.reduceLT]
    done
theorem canK (n : Int) : CallOK Tryz.prog w0 ow 42 [.x (.a (.v (.int .i64 n)))] hp (.x (.a (.v (.bool (canF n))))) hp := callOK_v fun γ w _ => can_any n w
theorem bits_take {l : List Int} {i : Nat} (h : i < l.length) : bitsF (l.take (i + 1)) = bitStep (bitsF (l.take i)) (ix l i) := by
  unfold bitsF
  rw [List.take_add_one, List.getElem?_eq_getElem h, Option.toList_some, List.foldl_append, List.foldl_cons, List.foldl_nil, ix, List.getD_eq_getElem?_getD, List.getElem?_eq_getElem h]
  rfl
theorem bitStep_yes {s : UInt64} {n : Int} (h : 0 ≤ n ∧ n < 64) : bitStep s n = s ||| shl64 1 n.toNat := by unfold bitStep; rw [if_pos h]
theorem bitStep_no {s : UInt64} {n : Int} (h : ¬ (0 ≤ n ∧ n < 64)) : bitStep s n = s := by unfold bitStep; rw [if_neg h]
set_option maxRecDepth 100000 in
theorem bits_any (l : List Int) (A : Option Addr) (c : Nat) (w : World) (hm : l.length ≤ 1000000) (hR : RdV w w.heap.size A (l.map (Value.int .i64))) :
    Calls Tryz.prog 43 #[.slice A l.length c] w fun e w' => e = .returned (vU64 (bitsF l)) ∧ Below w.heap.size w w' := by
  have F := FM.of hR
  refine calls_v (n := 20) Tryz.func43 rfl Tryz.ntmps43 [.x (.a (.v (.slice A l.length c)))] (by simp) (.x (.a (.v (vU64 (bitsF l))))) (fun _ => rfl) ?_
  simp (config := { maxSteps := 1000000 }) only [push_cast, ↓reduceIte, reduceCtorEq, Nat.reduceLT]
  refine loop_rule (ι := Nat) (fun i => ⟨[(3, .x (.a (.v (vU64 (bitsF (l.take i)))))), (6, .x (.a (.v (.slice A l.length c)))), (7, .x (.a (.v (.int .i64 l.length)))), (8, .x (.a (.v (.int .i64 i))))], []⟩) (fun i => i ≤ l.length) (fun i => l.length - i) 0 [] (Nat.zero_le _) ?_ ?_
  · have e0 : bitsF [] = 0 := by unfold bitsF; rfl
    simp (config := { maxSteps := 1000000 }) only [e0, push_cast, ↓Int.cast_ofNat_Int, Int.cast_ofNat_Int, ↓reduceIte, Nat.reduceEqDiff]
    rfl
  intro i hi
  by_cases hlt : (i : Int) < l.length
  · have hil : i < l.length := by omega
    have i0 : (0 : Int) ≤ i := by omega
    have c0 := F.cell i hil
    have o0 := F.ok i hil
    have hA := F.some_ (by omega)
    have hb := bits_take hil
    have nx : (i : Int) + 1 ≤ 9223372036854775807 := by omega
    simp (config := { maxSteps := 1000000 }) only [hlt, i0, c0, o0, hA, push_cast, ↓Int.toNat_natCast, ↓reduceIte, reduceCtorEq, Nat.reduceEqDiff, Nat.reduceLT]
    (repeat (refine And.intro (by first | omega | decide) ?_))
    refine callG_v rfl cb42 rfl (canK _) (dOk_lt rfl) ?_
    by_cases h : 0 ≤ ix l i ∧ ix l i < 64
    · have hd := canF_yes h
      rw [bitStep_yes h] at hb
      obtain ⟨h1, h2⟩ := h
      simp (config := { maxSteps := 1000000 }) only [hd, h1, push_cast, ↓reduceIte, Nat.reduceEqDiff, Nat.reduceLT, Int.reduceNeg]
      (repeat (refine And.intro (by first | omega | decide) ?_))
      refine loopK_normal (i + 1) [] (by omega) (by omega) ?_
      simp (config := { maxSteps := 1000000 }) only [hb, push_cast, ↓reduceIte, Nat.reduceEqDiff]
      done
    · have hd := canF_no h
      rw [bitStep_no h] at hb
      simp (config := { maxSteps := 1000000 }) only [hd, push_cast, ↓reduceIte, Nat.reduceEqDiff, Nat.reduceLT, Int.reduceNeg]
      (repeat (refine And.intro (by first | omega | decide) ?_))
      refine loopK_normal (i + 1) [] (by omega) (by omega) ?_
      simp (config := { maxSteps := 1000000 }) only [hb, push_cast, ↓reduceIte, Nat.reduceEqDiff]
      done
  · obtain rfl : i = l.length := by omega
    simp (config := { maxSteps := 1000000 }) only [hlt, List.take_length, push_cast, ↓reduceIte, Nat.reduceEqDiff, Nat.reduceLT]
    done
theorem bitsK {sv : Sv} {l : List Int} (hm : l.length ≤ 1000000) (h : Shows w0 ow hp sv (l.map (Value.int .i64))) : CallOK Tryz.prog w0 ow 43 [sv] hp (.x (.a (.v (vU64 (bitsF l))))) hp := callOK_v fun γ w hS => by
  obtain ⟨A, c, e1, b1, r1⟩ := h γ w hS
  rw [List.length_map] at e1
  show Calls _ _ #[sv.val γ] w _
  rw [e1]
  exact bits_any l A c w hm r1
def fromTo (v : UInt64) (n : Nat) : List Int := ((List.range n).filter (bitT v)).map Int.ofNat
theorem fromTo_succ (v : UInt64) (n : Nat) : fromTo v (n + 1) = fromTo v n ++ (if bitT v n = true then [(n : Int)] else []) := by
  unfold fromTo
  rw [List.range_succ, List.filter_append, List.map_append]
  congr 1
  by_cases h : bitT v n = true
  · simp [h]
  · simp [h]
theorem fromTo_len (v : UInt64) (n : Nat) : (fromTo v n).length ≤ n := by
  unfold fromTo
  rw [List.length_map]
  have := List.length_filter_le (bitT v) (List.range n)
  simpa using this
theorem fromTo_all (v : UInt64) : fromTo v 64 = fromF v := by unfold fromTo fromF; rfl
attribute [local irreducible] fromTo
set_option maxRecDepth 100000 in
theorem from_any (v : UInt64) (w : World) : Calls Tryz.prog 56 #[vU64 v] w fun e w' => ∃ x, e = .returned x ∧ Own w' w.heap.size 3 x ((fromF v).map (Value.int .i64)) ∧ Below w.heap.size w w' := by
  refine calls_own (n := 19) Tryz.func56 rfl Tryz.ntmps56 [.x (.a (.v (vU64 v)))] (by simp) 3 (.i64 (fromF v)) (fun _ => rfl) ?_
  simp (config := { maxSteps := 1000000 }) only [push_cast, ↓reduceIte, Nat.reduceLT]
  refine loop_ghost 3 3 (.i64 []) rfl rfl trivial (by simp (config := { maxSteps := 1000000 }) only [push_cast]) ?_
  simp (config := { maxSteps := 1000000 }) only [push_cast]
  refine loop_rule (ι := Nat) (fun i => ⟨[(0, .x (.a (.v (vU64 v)))), (3, .x (.a (.o 0))), (5, .x (.a (.v (.int .i64 i))))], [.own 3 (.i64 (fromTo v i))]⟩) (fun i => i ≤ 64) (fun i => 64 - i) 0 [0] (Nat.zero_le _) ?_ ?_
  · have e0 : fromTo v 0 = [] := by unfold fromTo; rfl
    simp (config := { maxSteps := 1000000 }) only [e0, push_cast, ↓Int.cast_ofNat_Int, Int.cast_ofNat_Int, ↓reduceIte, reduceCtorEq, Nat.reduceEqDiff, Nat.reduceLT]
  intro i hi
  by_cases hlt : (i : Int) < 64
  · have i0 : (0 : Int) ≤ i := by omega
    have hs := fromTo_succ v i
    have hl := fromTo_len v i
    have b1 : ((fromTo v i).length + 1) * 8 ≤ 140737488355328 := by omega
    have b2 : (fromTo v i).length + 1 ≤ 2 ^ 63 - 1 := by omega
    have hbt : bitT v i = decide (shr64 v i &&& 1 = 1) := rfl
    by_cases hb : shr64 v i &&& 1 = 1
    · rw [hbt, decide_eq_true hb, if_pos rfl] at hs
      simp (config := { maxSteps := 1000000 }) only [hlt, i0, hb, b1, b2, push_cast, ↓Int.toNat_natCast, ↓reduceIte, reduceCtorEq, Nat.reduceEqDiff, Nat.reduceLT, Nat.reduceLeDiff, Nat.reduceAdd, Int.reduceNeg]
      (repeat (refine And.intro (by first | omega | decide) ?_))
      refine loopK_normal (i + 1) [2] (by omega) (by omega) ?_
      simp (config := { maxSteps := 1000000 }) only [hs, push_cast, ↓reduceIte, reduceCtorEq, Nat.reduceEqDiff, Nat.reduceLT]
      done
    · rw [hbt, decide_eq_false hb, if_neg (by decide), List.append_nil] at hs
      simp (config := { maxSteps := 1000000 }) only [hlt, i0, hb, push_cast, ↓Int.toNat_natCast, ↓reduceIte, reduceCtorEq, Nat.reduceEqDiff, Nat.reduceLT, Int.reduceNeg]
      (repeat (refine And.intro (by first | omega | decide) ?_))
      refine loopK_normal (i + 1) [0] (by omega) (by omega) ?_
      simp (config := { maxSteps := 1000000 }) only [hs, push_cast, ↓reduceIte, reduceCtorEq, Nat.reduceEqDiff, Nat.reduceLT]
      done
  · obtain rfl : i = 64 := by omega
    have e9 := fromTo_all v
    simp (config := { maxSteps := 1000000 }) only [e9, push_cast, ↓Int.cast_ofNat_Int, Int.cast_ofNat_Int, ↓reduceIte, reduceCtorEq, Nat.reduceEqDiff, Nat.reduceLT, Int.reduceLT]
    done
theorem fromK (v : UInt64) (hbr : ∀ r ∈ hp, Res.bnd hp.length r) : CallOK Tryz.prog w0 ow 56 [.x (.a (.v (vU64 v)))] hp (.x (.a (.o hp.length))) (hp ++ [.own 3 (.i64 (fromF v))]) :=
  callOK_own hbr trivial fun γ w _ => from_any v w
end
end Go.Proofs.YtombphphaoeeiaaGreatDoor
