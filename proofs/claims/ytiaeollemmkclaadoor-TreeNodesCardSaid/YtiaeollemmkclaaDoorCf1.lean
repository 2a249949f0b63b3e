import Derived.Test.YtiaeollemmkclaaDoorCf0
/- Layer 21: conf.within, standing. -/
namespace Go.Proofs.YtiaeollemmkclaaDoor
open Go.RowKit
set_option linter.unusedSimpArgs false
set_option linter.unusedVariables false
theorem wiF_yes {n a b : Int} (h : a ≤ n) (h2 : n ≤ b) : wiF n a b = true := decide_eq_true ⟨h, h2⟩
theorem wiF_lo {n a b : Int} (h : ¬ a ≤ n) : wiF n a b = false := decide_eq_false fun e => h e.1
theorem wiF_hi {n a b : Int} (h : ¬ n ≤ b) : wiF n a b = false := decide_eq_false fun e => h e.2
theorem ix_set {α : Type} [Inhabited α] {l : List α} {i : Nat} {x : α} (h : i < l.length) : ix (l.set i x) i = x := by
  rw [ix, List.getD_eq_getElem?_getD, List.getElem?_set_self h]; rfl
theorem ix_set_ne {α : Type} [Inhabited α] {l : List α} {i j : Nat} {x : α} (h : i ≠ j) : ix (l.set i x) j = ix l j := by
  rw [ix, ix, List.getD_eq_getElem?_getD, List.getD_eq_getElem?_getD, List.getElem?_set_ne h]
theorem ix_rep (n j : Nat) : ix (List.replicate n (0 : Int)) j = 0 := by
  rw [ix, List.getD_eq_getElem?_getD, List.getElem?_replicate]
  split <;> rfl
attribute [local irreducible] Callable CallOK CallG CallM DrawG LoopG symR symM
attribute [local irreducible] wiF stGo
section
variable {w0 : World} {ow : Nat → Prop} {hp : List Res}
set_option maxRecDepth 100000 in
theorem within_any (n a b : Int) (w : World) : Calls Tryd.prog 75 #[.int .i64 n, .int .i64 a, .int .i64 b] w fun e w' => e = .returned (.bool (wiF n a b)) ∧ Below w.heap.size w w' := by
  refine calls_v (n := 15) Tryd.func75 rfl Tryd.ntmps75 [.x (.a (.v (.int .i64 n))), .x (.a (.v (.int .i64 a))), .x (.a (.v (.int .i64 b)))] (by simp) (.x (.a (.v (.bool (wiF n a b))))) (fun _ => rfl) ?_
  by_cases h : a ≤ n
  · by_cases h1 : n ≤ b
    · have hd := wiF_yes h h1
      simp (config := { maxSteps := 1000000 }) only [h, h1, hd, undef, push_cast, ↓Int.toNat_natCast, ↓Int.cast_ofNat_Int, Int.cast_ofNat_Int, ↓reduceIte, reduceCtorEq, Nat.reduceEqDiff, Nat.reduceLT, Nat.reduceLeDiff, Nat.reduceAdd, Nat.reduceSub, Nat.reduceMul, Int.reduceNeg, Int.reduceLE, Int.reduceLT, Int.reduceToNat, Int.reduceAdd, Int.reduceSub, Int.reduceMul, Int.reduceEq]
      done
    · have hd := wiF_hi (a := a) h1
      simp (config := { maxSteps := 1000000 }) only [h, h1, hd, undef, push_cast, ↓Int.toNat_natCast, ↓Int.cast_ofNat_Int, Int.cast_ofNat_Int, ↓reduceIte, reduceCtorEq, Nat.reduceEqDiff, Nat.reduceLT, Nat.reduceLeDiff, Nat.reduceAdd, Nat.reduceSub, Nat.reduceMul, Int.reduceNeg, Int.reduceLE, Int.reduceLT, Int.reduceToNat, Int.reduceAdd, Int.reduceSub, Int.reduceMul, Int.reduceEq]
      done
  · have hd := wiF_lo (b := b) h
    simp (config := { maxSteps := 1000000 }) only [h, hd, undef, push_cast, ↓Int.toNat_natCast, ↓Int.cast_ofNat_Int, Int.cast_ofNat_Int, ↓reduceIte, reduceCtorEq, Nat.reduceEqDiff, Nat.reduceLT, Nat.reduceLeDiff, Nat.reduceAdd, Nat.reduceSub, Nat.reduceMul, Int.reduceNeg, Int.reduceLE, Int.reduceLT, Int.reduceToNat, Int.reduceAdd, Int.reduceSub, Int.reduceMul, Int.reduceEq]
    done
theorem withinK (n a b : Int) : CallOK Tryd.prog w0 ow 75 [.x (.a (.v (.int .i64 n))), .x (.a (.v (.int .i64 a))), .x (.a (.v (.int .i64 b)))] hp (.x (.a (.v (.bool (wiF n a b))))) hp := callOK_v fun γ w _ => within_any n a b w
set_option maxRecDepth 100000 in
set_option maxHeartbeats 1000000 in
theorem standing_any (l : List PlS) (A : Option Addr) (c : Nat) (w : World) (hm : l.length ≤ 1000000) (hR : RdV w w.heap.size A (l.flatMap plV)) :
    Calls Tryd.prog 76 #[.slice A l.length c] w fun e w' => e = .returned (.bool (stF l)) ∧ Below w.heap.size w w' := by
  have F := FLm.of plV_len (by decide) hR
  refine calls_v (n := 67) Tryd.func76 rfl Tryd.ntmps76 [.x (.a (.v (.slice A l.length c)))] (by simp) (.x (.a (.v (.bool (stF l))))) (fun _ => rfl) ?_
  obtain ⟨q, hq⟩ : ∃ q, q = stF l := ⟨_, rfl⟩
  rw [← hq]
  unfold stF at hq
  simp (config := { maxSteps := 1000000 }) only [undef, push_cast, ↓Int.toNat_natCast, ↓Int.cast_ofNat_Int, Int.cast_ofNat_Int, ↓reduceIte, reduceCtorEq, Nat.reduceEqDiff, Nat.reduceLT, Nat.reduceLeDiff, Nat.reduceAdd, Nat.reduceSub, Nat.reduceMul, Int.reduceNeg, Int.reduceLE, Int.reduceLT, Int.reduceToNat, Int.reduceAdd, Int.reduceSub, Int.reduceMul, Int.reduceEq]
  (repeat (refine And.intro (by first | omega | decide) ?_))
  refine callG_v rfl cb75 rfl (withinK _ _ _) (dOk_lt rfl) ?_
  cases hw : wiF l.length 2 16 with
  | false =>
    rw [if_neg (by rw [hw]; simp)] at hq
    simp (config := { maxSteps := 1000000 }) only [hw, hq, undef, push_cast, ↓Int.toNat_natCast, ↓Int.cast_ofNat_Int, Int.cast_ofNat_Int, ↓reduceIte, reduceCtorEq, Nat.reduceEqDiff, Nat.reduceLT, Nat.reduceLeDiff, Nat.reduceAdd, Nat.reduceSub, Nat.reduceMul, Int.reduceNeg, Int.reduceLE, Int.reduceLT, Int.reduceToNat, Int.reduceAdd, Int.reduceSub, Int.reduceMul, Int.reduceEq]
    done
  | true =>
    have hn := wiF_iff.1 hw
    obtain ⟨c0, o0⟩ := F.cell 0 0 _ (by omega) rfl
    obtain ⟨c1, o1⟩ := F.cell 0 1 _ (by omega) rfl
    have hA := F.some_ (by omega)
    rw [Nat.zero_mul, Nat.add_zero, pAdd_zero] at c0 o0
    rw [Nat.zero_mul, Nat.zero_add] at c1 o1
    have hl0 : (0 : Int) < l.length := by omega
    by_cases h1 : (ix l 0).parent = -1
    · by_cases h2 : (ix l 0).spare = 0
      · rw [if_pos ⟨hw, h1, h2⟩] at hq
        have k1 : (l.length : Int) ≤ 2 ^ 63 - 1 := by omega
        have k2 : l.length ≤ 2 ^ 63 - 1 := by omega
        have k3 : l.length * 8 ≤ 140737488355328 := by omega
        simp (config := { maxSteps := 1000000 }) only [hw, hl0, pAdd_zero, pAdd_add, pAdd_isSome, c0, o0, c1, o1, hA, h1, h2, k1, k2, k3, undef, push_cast, ↓Int.toNat_natCast, ↓Int.cast_ofNat_Int, Int.cast_ofNat_Int, ↓reduceIte, reduceCtorEq, Nat.reduceEqDiff, Nat.reduceLT, Nat.reduceLeDiff, Nat.reduceAdd, Nat.reduceSub, Nat.reduceMul, Int.reduceNeg, Int.reduceLE, Int.reduceLT, Int.reduceToNat, Int.reduceAdd, Int.reduceSub, Int.reduceMul, Int.reduceEq]
        (repeat (refine And.intro (by first | omega | decide) ?_))
        refine loop_rule (ι := Nat × List Int) (fun x => ⟨[(0, .x (.a (.v (.slice A l.length c)))), (3, .x (.a (.o 0))), (4, .x (.a (.v (.int .i64 (x.1 : Nat)))))], [.own 3 (.i64 x.2)]⟩)
          (fun x => 1 ≤ x.1 ∧ x.1 ≤ l.length ∧ x.2.length = l.length ∧ (∀ j, 0 ≤ ix x.2 j ∧ ix x.2 j < 4) ∧ q = stGo l (l.length - x.1) x.1 x.2) (fun x => l.length - x.1) (1, List.replicate l.length 0) [0] ⟨Nat.le_refl _, by omega, by simp, fun j => by rw [ix_rep]; decide, hq⟩ ?_ ?_
        · simp (config := { maxSteps := 1000000 }) only [push_cast, ↓Int.toNat_natCast, ↓Int.cast_ofNat_Int, Int.cast_ofNat_Int, ↓reduceIte, reduceCtorEq, Nat.reduceEqDiff, Nat.reduceLT, Nat.reduceLeDiff, Nat.reduceAdd, Nat.reduceSub, Nat.reduceMul, Int.reduceNeg, Int.reduceLE, Int.reduceLT, Int.reduceToNat, Int.reduceAdd, Int.reduceSub, Int.reduceMul, Int.reduceEq]
        rintro ⟨i, ab⟩ ⟨h0, hi, hal, hab, hg⟩
        dsimp only at h0 hi hal hab hg
        by_cases hlt : (i : Int) < l.length
        · have hil : i < l.length := by omega
          have i0 : (0 : Int) ≤ i := by omega
          obtain ⟨d0, p0⟩ := F.cell i 0 _ hil rfl
          obtain ⟨d1, p1⟩ := F.cell i 1 _ hil rfl
          rw [Nat.add_zero] at d0 p0
          have i1 : -9223372036854775808 ≤ (i : Int) - 1 ∧ (i : Int) - 1 ≤ 9223372036854775807 := by omega
          rw [show l.length - i = (l.length - (i + 1)) + 1 by omega, stGo] at hg
          generalize (ix l i).spare = sp at *
          generalize (ix l i).parent = pa at *
          simp (config := { maxSteps := 1000000 }) only [hlt, i0, i1, pAdd_zero, pAdd_add, pAdd_isSome, d0, p0, d1, p1, hA, undef, push_cast, ↓Int.toNat_natCast, ↓Int.cast_ofNat_Int, Int.cast_ofNat_Int, ↓reduceIte, reduceCtorEq, Nat.reduceEqDiff, Nat.reduceLT, Nat.reduceLeDiff, Nat.reduceAdd, Nat.reduceSub, Nat.reduceMul, Int.reduceNeg, Int.reduceLE, Int.reduceLT, Int.reduceToNat, Int.reduceAdd, Int.reduceSub, Int.reduceMul, Int.reduceEq]
          (repeat (refine And.intro (by first | omega | decide) ?_))
          refine callG_v rfl cb75 rfl (withinK _ _ _) (dOk_lt rfl) ?_
          cases hp1 : wiF pa 0 ((i : Int) - 1) with
          | false =>
            rw [if_neg (by rw [hp1]; simp)] at hg
            simp (config := { maxSteps := 1000000 }) only [hp1, hg, undef, push_cast, ↓Int.toNat_natCast, ↓Int.cast_ofNat_Int, Int.cast_ofNat_Int, ↓reduceIte, reduceCtorEq, Nat.reduceEqDiff, Nat.reduceLT, Nat.reduceLeDiff, Nat.reduceAdd, Nat.reduceSub, Nat.reduceMul, Int.reduceNeg, Int.reduceLE, Int.reduceLT, Int.reduceToNat, Int.reduceAdd, Int.reduceSub, Int.reduceMul, Int.reduceEq]
            done
          | true =>
            simp (config := { maxSteps := 1000000 }) only [hp1, hlt, i0, i1, pAdd_zero, pAdd_add, pAdd_isSome, d0, p0, d1, p1, hA, undef, push_cast, ↓Int.toNat_natCast, ↓Int.cast_ofNat_Int, Int.cast_ofNat_Int, ↓reduceIte, reduceCtorEq, Nat.reduceEqDiff, Nat.reduceLT, Nat.reduceLeDiff, Nat.reduceAdd, Nat.reduceSub, Nat.reduceMul, Int.reduceNeg, Int.reduceLE, Int.reduceLT, Int.reduceToNat, Int.reduceAdd, Int.reduceSub, Int.reduceMul, Int.reduceEq]
            (repeat (refine And.intro (by first | omega | decide) ?_))
            refine callG_v rfl cb75 rfl (withinK _ _ _) (dOk_lt rfl) ?_
            cases hp2 : wiF sp 0 2 with
            | false =>
              rw [if_neg (by rw [hp2]; simp)] at hg
              simp (config := { maxSteps := 1000000 }) only [hp2, hg, undef, push_cast, ↓Int.toNat_natCast, ↓Int.cast_ofNat_Int, Int.cast_ofNat_Int, ↓reduceIte, reduceCtorEq, Nat.reduceEqDiff, Nat.reduceLT, Nat.reduceLeDiff, Nat.reduceAdd, Nat.reduceSub, Nat.reduceMul, Int.reduceNeg, Int.reduceLE, Int.reduceLT, Int.reduceToNat, Int.reduceAdd, Int.reduceSub, Int.reduceMul, Int.reduceEq]
              done
            | true =>
              rw [if_pos ⟨hp1, hp2⟩] at hg
              have hpa := wiF_iff.1 hp1
              obtain ⟨P, hP⟩ : ∃ P : Nat, pa = P := ⟨pa.toNat, by omega⟩
              subst hP
              have P0 : (0 : Int) ≤ P := by omega
              have P1 : (P : Int) < ab.length := by omega
              have I1 : (i : Int) < ab.length := by omega
              have vP := hab P
              have vP1 : -9223372036854775808 ≤ ix ab P + 1 ∧ ix ab P + 1 ≤ 9223372036854775807 := by omega
              have hset : ix (ab.set i (ix ab P + 1)) i = ix ab P + 1 := ix_set (by omega)
              rw [Int.toNat_natCast] at hg
              by_cases h4 : (4 : Int) ≤ ix ab P + 1
              · rw [if_pos h4] at hg
                simp (config := { maxSteps := 1000000 }) only [hp2, hlt, i0, i1, pAdd_zero, pAdd_add, pAdd_isSome, d0, p0, d1, p1, hA, P0, P1, I1, vP1, hset, h4, hg, undef, push_cast, ↓Int.toNat_natCast, ↓Int.cast_ofNat_Int, Int.cast_ofNat_Int, ↓reduceIte, reduceCtorEq, Nat.reduceEqDiff, Nat.reduceLT, Nat.reduceLeDiff, Nat.reduceAdd, Nat.reduceSub, Nat.reduceMul, Int.reduceNeg, Int.reduceLE, Int.reduceLT, Int.reduceToNat, Int.reduceAdd, Int.reduceSub, Int.reduceMul, Int.reduceEq]
                exact ⟨by omega, by omega⟩
              · rw [if_neg h4] at hg
                simp (config := { maxSteps := 1000000 }) only [hp2, hlt, i0, i1, pAdd_zero, pAdd_add, pAdd_isSome, d0, p0, d1, p1, hA, P0, P1, I1, vP1, hset, h4, undef, push_cast, ↓Int.toNat_natCast, ↓Int.cast_ofNat_Int, Int.cast_ofNat_Int, ↓reduceIte, reduceCtorEq, Nat.reduceEqDiff, Nat.reduceLT, Nat.reduceLeDiff, Nat.reduceAdd, Nat.reduceSub, Nat.reduceMul, Int.reduceNeg, Int.reduceLE, Int.reduceLT, Int.reduceToNat, Int.reduceAdd, Int.reduceSub, Int.reduceMul, Int.reduceEq]
                (repeat (refine And.intro (by first | omega | decide) ?_))
                refine loopK_normal (i + 1, ab.set i (ix ab P + 1)) [0] ⟨by show 1 ≤ i + 1; omega, by show i + 1 ≤ l.length; omega, by simp [hal], fun j => ?_, hg⟩ (by show l.length - (i + 1) < l.length - i; omega) ?_
                · by_cases e : i = j
                  · subst e; show 0 ≤ ix (ab.set i _) i ∧ _ < 4; rw [hset]; omega
                  · show 0 ≤ ix (ab.set i _) j ∧ _ < 4; rw [ix_set_ne e]; exact hab j
                · simp (config := { maxSteps := 1000000 }) only [push_cast, ↓Int.toNat_natCast, ↓Int.cast_ofNat_Int, Int.cast_ofNat_Int, ↓reduceIte, reduceCtorEq, Nat.reduceEqDiff, Nat.reduceLT, Nat.reduceLeDiff, Nat.reduceAdd, Nat.reduceSub, Nat.reduceMul, Int.reduceNeg, Int.reduceLE, Int.reduceLT, Int.reduceToNat, Int.reduceAdd, Int.reduceSub, Int.reduceMul, Int.reduceEq]
                  done
        · obtain rfl : i = l.length := by omega
          rw [Nat.sub_self, stGo] at hg
          simp (config := { maxSteps := 1000000 }) only [hlt, hg, undef, push_cast, ↓Int.toNat_natCast, ↓Int.cast_ofNat_Int, Int.cast_ofNat_Int, ↓reduceIte, reduceCtorEq, Nat.reduceEqDiff, Nat.reduceLT, Nat.reduceLeDiff, Nat.reduceAdd, Nat.reduceSub, Nat.reduceMul, Int.reduceNeg, Int.reduceLE, Int.reduceLT, Int.reduceToNat, Int.reduceAdd, Int.reduceSub, Int.reduceMul, Int.reduceEq]
          done
      · rw [if_neg (fun e => h2 e.2.2)] at hq
        simp (config := { maxSteps := 1000000 }) only [hw, hl0, pAdd_zero, pAdd_add, pAdd_isSome, c0, o0, c1, o1, hA, h1, h2, hq, undef, push_cast, ↓Int.toNat_natCast, ↓Int.cast_ofNat_Int, Int.cast_ofNat_Int, ↓reduceIte, reduceCtorEq, Nat.reduceEqDiff, Nat.reduceLT, Nat.reduceLeDiff, Nat.reduceAdd, Nat.reduceSub, Nat.reduceMul, Int.reduceNeg, Int.reduceLE, Int.reduceLT, Int.reduceToNat, Int.reduceAdd, Int.reduceSub, Int.reduceMul, Int.reduceEq]
        done
    · rw [if_neg (fun e => h1 e.2.1)] at hq
      simp (config := { maxSteps := 1000000 }) only [hw, hl0, pAdd_zero, pAdd_add, pAdd_isSome, c0, o0, c1, o1, hA, h1, hq, undef, push_cast, ↓Int.toNat_natCast, ↓Int.cast_ofNat_Int, Int.cast_ofNat_Int, ↓reduceIte, reduceCtorEq, Nat.reduceEqDiff, Nat.reduceLT, Nat.reduceLeDiff, Nat.reduceAdd, Nat.reduceSub, Nat.reduceMul, Int.reduceNeg, Int.reduceLE, Int.reduceLT, Int.reduceToNat, Int.reduceAdd, Int.reduceSub, Int.reduceMul, Int.reduceEq]
      done
end
end Go.Proofs.YtiaeollemmkclaaDoor
