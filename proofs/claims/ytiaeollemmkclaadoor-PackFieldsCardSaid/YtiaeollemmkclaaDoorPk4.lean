import Derived.Test.YtiaeollemmkclaaDoorPk3
/- varint.Get: the number at the beginning of bytes (layer 11). -/
namespace Go.Proofs.YtiaeollemmkclaaDoor
open Go.RowKit
set_option linter.unusedSimpArgs false
set_option linter.unusedVariables false
/-- What is told of a number at the beginning of bytes. -/
def getT (bs : List UInt8) : List Sc := match getV bs with
  | some (v, n) => [.a (.v (vU64 v)), .a (.v (.int .i64 n)), .a (.v .nilIface)]
  | none => [.a (.v (.int .u64 0)), .a (.v (.int .i64 0)), .a (.v (.iface 137 (.int .i64 3)))]
theorem getT_nil : getT [] = [.a (.v (.int .u64 0)), .a (.v (.int .i64 0)), .a (.v (.iface 137 (.int .i64 3)))] := rfl
theorem getT_none {bs : List UInt8} (h : getV bs = none) : getT bs = [.a (.v (.int .u64 0)), .a (.v (.int .i64 0)), .a (.v (.iface 137 (.int .i64 3)))] := by unfold getT; rw [h]
theorem getT_some {bs : List UInt8} {v : UInt64} {n : Nat} (h : getV bs = some (v, n)) : getT bs = [.a (.v (vU64 v)), .a (.v (.int .i64 n)), .a (.v .nilIface)] := by unfold getT; rw [h]
theorem getT_val (bs : List UInt8) (γ : List Nm) : (Sv.t (getT bs)).val γ = (Sv.t (getT bs)).val [] := by
  unfold getT
  split <;> rfl
theorem u8_lt {x y : UInt8} : x < y ↔ x.toNat < y.toNat := UInt8.lt_iff_toNat_lt
theorem vU64_zero : vU64 0 = .int .u64 0 := rfl
attribute [local irreducible] Callable CallOK CallG CallM DrawG LoopG symR symM
attribute [local irreducible] getT fbV
set_option maxRecDepth 100000 in
set_option maxHeartbeats 1000000 in
theorem get_any (bs : List UInt8) (A : Option Addr) (c : Nat) (w : World) (hc : bs.length ≤ c) (hR : RdV w w.heap.size A (bs.map vU8)) :
    Calls Tryd.prog 111 #[.slice A bs.length c] w fun e w' => e = .returned ((Sv.t (getT bs)).val []) ∧ Below w.heap.size w w' := by
  have F := FM.of (f := vU8) hR
  refine calls_v (n := 57) Tryd.func111 rfl Tryd.ntmps111 [.x (.a (.v (.slice A bs.length c)))] (by simp) (.t (getT bs)) (getT_val bs) ?_
  rcases bs with _ | ⟨x, t⟩
  · simp (config := { maxSteps := 1000000 }) only [getT_nil, undef, push_cast, ↓Int.toNat_natCast, ↓Int.cast_ofNat_Int, Int.cast_ofNat_Int, ↓reduceIte, reduceCtorEq, Nat.reduceEqDiff, Nat.reduceLT, Nat.reduceLeDiff, Nat.reduceAdd, Nat.reduceSub, Nat.reduceMul, Int.reduceNeg, Int.reduceLE, Int.reduceLT, Int.reduceToNat, Int.reduceAdd, Int.reduceSub, Int.reduceMul, Int.reduceEq]
    done
  have c0 := F.cell 0 (by simp)
  have o0 := F.ok 0 (by simp)
  have hA := F.some_ (by simp)
  have hx : ix (x :: t) 0 = x := rfl
  rw [hx] at c0
  rw [pAdd_zero] at c0 o0
  have l0 : ¬ ((t.length : Int) + 1 = 0) := by omega
  have l1 : (0 : Int) < (t.length : Int) + 1 := by omega
  by_cases h1 : x < 248
  · have hg := getT_some (bs := x :: t) (v := x.toUInt64) (n := 1) (by simp only [getV, if_pos h1])
    simp (config := { maxSteps := 1000000 }) only [c0, o0, hA, l0, l1, h1, hg, pAdd_zero, undef, push_cast, ↓Int.toNat_natCast, ↓Int.cast_ofNat_Int, Int.cast_ofNat_Int, ↓reduceIte, reduceCtorEq, Nat.reduceEqDiff, Nat.reduceLT, Nat.reduceLeDiff, Nat.reduceAdd, Nat.reduceSub, Nat.reduceMul, Int.reduceNeg, Int.reduceLE, Int.reduceLT, Int.reduceToNat, Int.reduceAdd, Int.reduceSub, Int.reduceMul, Int.reduceEq]
    done
  have hx8 : 248 ≤ x.toNat := Nat.not_lt.1 fun h => h1 (u8_lt.2 h)
  have hxl := x.toNat_lt
  have hxn : (n8 x : Int) = (x.toNat : Int) := rfl
  have hc' : t.length + 1 ≤ c := by simpa using hc
  by_cases h2 : (t.length : Int) + 1 < 1 + n8 x - 247
  · have hg := getT_none (bs := x :: t) (by simp only [getV, if_neg h1]; rw [if_pos (.inl (by omega))])
    simp (config := { maxSteps := 1000000 }) only [c0, o0, hA, l0, l1, h1, h2, hg, pAdd_zero, undef, push_cast, ↓Int.toNat_natCast, ↓Int.cast_ofNat_Int, Int.cast_ofNat_Int, ↓reduceIte, reduceCtorEq, Nat.reduceEqDiff, Nat.reduceLT, Nat.reduceLeDiff, Nat.reduceAdd, Nat.reduceSub, Nat.reduceMul, Int.reduceNeg, Int.reduceLE, Int.reduceLT, Int.reduceToNat, Int.reduceAdd, Int.reduceSub, Int.reduceMul, Int.reduceEq]
    all_goals omega
  have l2 : (1 : Int) < (t.length : Int) + 1 := by omega
  have c1 := F.cell 1 (by simp; omega)
  have o1 := F.ok 1 (by simp; omega)
  have hx1 : ix (x :: t) 1 = ix t 0 := rfl
  rw [hx1] at c1
  have q0 : (-9223372036854775808 : Int) ≤ 1 + n8 x ∧ 1 + n8 x ≤ 9223372036854775807 ∧ (-9223372036854775808 : Int) ≤ 1 + n8 x - 247 ∧ 1 + n8 x - 247 ≤ 9223372036854775807 := by omega
  obtain ⟨q1, q2, q3, q4⟩ := q0
  by_cases h3 : ix t 0 = 0
  · have hg := getT_none (bs := x :: t) (by simp only [getV, if_neg h1]; rw [if_pos (.inr h3)])
    simp (config := { maxSteps := 1000000 }) only [c0, o0, hA, l0, l1, l2, c1, o1, q1, q2, q3, q4, h1, h2, h3, hg, pAdd_zero, undef, push_cast, ↓Int.toNat_natCast, ↓Int.cast_ofNat_Int, Int.cast_ofNat_Int, ↓reduceIte, reduceCtorEq, Nat.reduceEqDiff, Nat.reduceLT, Nat.reduceLeDiff, Nat.reduceAdd, Nat.reduceSub, Nat.reduceMul, Int.reduceNeg, Int.reduceLE, Int.reduceLT, Int.reduceToNat, Int.reduceAdd, Int.reduceSub, Int.reduceMul, Int.reduceEq]
    all_goals omega
  have hk : 1 + n8 x - 247 = ((x.toNat - 246 : Nat) : Int) := by omega
  have e1 : (1 : Int) ≤ ((x.toNat - 246 : Nat) : Int) := by omega
  have e2 : ((x.toNat - 246 : Nat) : Int) ≤ c := by omega
  have hcut : pCut A 1 c = pAdd A 1 := if_neg (by omega)
  have h2' : ¬ ((t.length : Int) + 1 < ((x.toNat - 246 : Nat) : Int)) := by omega
  obtain ⟨k, hkx⟩ : ∃ k, k = x.toNat - 247 := ⟨_, rfl⟩
  have hk2 : x.toNat - 246 = k + 1 := by omega
  have hk8 : 1 ≤ k ∧ k ≤ 8 ∧ k ≤ t.length := by omega
  rw [hk2] at hk e1 e2 h2'
  push_cast at hk e1 e2 h2'
  simp (config := { maxSteps := 1000000 }) only [c0, o0, hA, l0, l1, l2, c1, o1, q1, q2, q3, q4, h1, h2, h2', h3, hk, e1, e2, hcut, pAdd_zero, undef, push_cast, ↓Int.toNat_natCast, ↓Int.cast_ofNat_Int, Int.cast_ofNat_Int, ↓reduceIte, reduceCtorEq, Nat.reduceEqDiff, Nat.reduceLT, Nat.reduceLeDiff, Nat.reduceAdd, Nat.reduceSub, Nat.reduceMul, Int.reduceNeg, Int.reduceLE, Int.reduceLT, Int.reduceToNat, Int.reduceAdd, Int.reduceSub, Int.reduceMul, Int.reduceEq]
  have hkk : ((k : Int) + 1).toNat - 1 = k := by omega
  have hcx : (-9223372036854775808 : Int) ≤ (k : Int) + 1 ∧ (k : Int) + 1 ≤ 9223372036854775807 := by omega
  rw [hkk]
  refine ⟨hcx, ?_⟩
  have hS : ∀ i, i < k → cellOf w (pAdd (pAdd A 1) i) = vU8 (ix t i) ∧ rawOk w No (pAdd (pAdd A 1) i) := fun i hi => by
    have hxi : ix (x :: t) (1 + i) = ix t i := by rw [Nat.add_comm]; rfl
    rw [pAdd_add, ← hxi]
    exact ⟨F.cell (1 + i) (by simp; omega), F.ok (1 + i) (by simp; omega)⟩
  refine loop_rule (ι := Nat) (fun i => ⟨[(5, .x (.a (.v (.int .i64 ((k : Int) + 1))))), (6, .x (.a (.v (vU64 (UInt64.ofNat (fbV (t.take i))))))), (40, .x (.a (.v (.slice (pAdd A 1) k (c - 1))))), (41, .x (.a (.v (.int .i64 (k : Int))))), (42, .x (.a (.v (.int .i64 (i : Int)))))], []⟩) (fun i => i ≤ k) (fun i => k - i) 0 [] (by omega) ?_ ?_
  · simp (config := { maxSteps := 1000000 }) only [List.take_zero, fbV_nil, push_cast, ↓Int.toNat_natCast, ↓Int.cast_ofNat_Int, Int.cast_ofNat_Int, ↓reduceIte, reduceCtorEq, Nat.reduceEqDiff, Nat.reduceLT, Nat.reduceLeDiff, Nat.reduceAdd, Nat.reduceSub, Nat.reduceMul, Int.reduceNeg, Int.reduceLE, Int.reduceLT, Int.reduceToNat, Int.reduceAdd, Int.reduceSub, Int.reduceMul, Int.reduceEq]
    rfl
  intro i hi
  by_cases hlt : (i : Int) < k
  · have i0 : (0 : Int) ≤ i := by omega
    obtain ⟨d0, d1⟩ := hS i (by omega)
    have hAs : (pAdd A 1).isSome = true := by rw [pAdd_isSome]; exact hA
    have hf := fbV_lt (t.take i)
    have hti : (t.take i).length = i := by rw [List.length_take]; omega
    rw [hti] at hf
    have hf7 : fbV (t.take i) < 2 ^ 56 := Nat.lt_of_lt_of_le hf (Nat.le_trans (Nat.pow_le_pow_right (by decide) (by omega : i ≤ 7)) (by decide))
    have hfv : (UInt64.ofNat (fbV (t.take i))).toNat = fbV (t.take i) := by rw [UInt64.toNat_ofNat']; omega
    have hsh := shl_or (UInt64.ofNat (fbV (t.take i))) (ix t i) (by rw [hfv]; exact hf7)
    have htk : t.take (i + 1) = t.take i ++ [ix t i] := by
      rw [List.take_add_one, ix, List.getD_eq_getElem?_getD, List.getElem?_eq_getElem (by omega)]
      rfl
    rw [hfv, ← fbV_snoc, ← htk] at hsh
    simp (config := { maxSteps := 1000000 }) only [hlt, i0, d0, d1, hAs, hsh, undef, push_cast, ↓Int.toNat_natCast, ↓Int.cast_ofNat_Int, Int.cast_ofNat_Int, ↓reduceIte, reduceCtorEq, Nat.reduceEqDiff, Nat.reduceLT, Nat.reduceLeDiff, Nat.reduceAdd, Nat.reduceSub, Nat.reduceMul, Int.reduceNeg, Int.reduceLE, Int.reduceLT, Int.reduceToNat, Int.reduceAdd, Int.reduceSub, Int.reduceMul, Int.reduceEq]
    (repeat (refine And.intro (by first | omega | decide) ?_))
    refine loopK_normal (i + 1) [] (by omega) (by omega) ?_
    simp (config := { maxSteps := 1000000 }) only [push_cast, ↓Int.toNat_natCast, ↓Int.cast_ofNat_Int, Int.cast_ofNat_Int, ↓reduceIte, reduceCtorEq, Nat.reduceEqDiff, Nat.reduceLT, Nat.reduceLeDiff, Nat.reduceAdd, Nat.reduceSub, Nat.reduceMul, Int.reduceNeg, Int.reduceLE, Int.reduceLT, Int.reduceToNat, Int.reduceAdd, Int.reduceSub, Int.reduceMul, Int.reduceEq]
    done
  · obtain rfl : i = k := by omega
    have hgg : getV (x :: t) = if fbV (t.take i) < 248 then none else some (UInt64.ofNat (fbV (t.take i)), i + 1) := by
      simp only [getV, if_neg h1]
      rw [if_neg (by rintro (h | h)
                     · omega
                     · exact h3 h), ← hkx, hk2]
    have hf := fbV_lt (t.take i)
    have hti : (t.take i).length = i := by rw [List.length_take]; omega
    rw [hti] at hf
    have hf8 : fbV (t.take i) < 2 ^ 64 := Nat.lt_of_lt_of_le hf (Nat.le_trans (Nat.pow_le_pow_right (by decide) hk8.2.1) (by decide))
    have hfv : (UInt64.ofNat (fbV (t.take i))).toNat = fbV (t.take i) := by rw [UInt64.toNat_ofNat']; omega
    by_cases h4 : fbV (t.take i) < 248
    · have g4 : UInt64.ofNat (fbV (t.take i)) < 248 := by rw [UInt64.lt_iff_toNat_lt, hfv]; exact h4
      have hg := getT_none (bs := x :: t) (by rw [hgg, if_pos h4])
      simp (config := { maxSteps := 1000000 }) only [hlt, g4, hg, undef, push_cast, ↓Int.toNat_natCast, ↓Int.cast_ofNat_Int, Int.cast_ofNat_Int, ↓reduceIte, reduceCtorEq, Nat.reduceEqDiff, Nat.reduceLT, Nat.reduceLeDiff, Nat.reduceAdd, Nat.reduceSub, Nat.reduceMul, Int.reduceNeg, Int.reduceLE, Int.reduceLT, Int.reduceToNat, Int.reduceAdd, Int.reduceSub, Int.reduceMul, Int.reduceEq]
      done
    · have g4 : ¬ UInt64.ofNat (fbV (t.take i)) < 248 := by rw [UInt64.lt_iff_toNat_lt, hfv]; exact h4
      have hg := getT_some (bs := x :: t) (by rw [hgg, if_neg h4])
      simp (config := { maxSteps := 1000000 }) only [hlt, g4, hg, undef, push_cast, ↓Int.toNat_natCast, ↓Int.cast_ofNat_Int, Int.cast_ofNat_Int, ↓reduceIte, reduceCtorEq, Nat.reduceEqDiff, Nat.reduceLT, Nat.reduceLeDiff, Nat.reduceAdd, Nat.reduceSub, Nat.reduceMul, Int.reduceNeg, Int.reduceLE, Int.reduceLT, Int.reduceToNat, Int.reduceAdd, Int.reduceSub, Int.reduceMul, Int.reduceEq]
      done
theorem getK {w0 : World} {ow : Nat → Prop} {hp : List Res} {sv : Sv} (bs : List UInt8) (h : Shows w0 ow hp sv (bs.map vU8)) : CallOK Tryd.prog w0 ow 111 [sv] hp (.t (getT bs)) hp := callOK_v fun γ w hS => by
  obtain ⟨A, c, e1, b1, r1⟩ := h γ w hS
  rw [List.length_map] at e1 b1
  show Calls _ _ #[sv.val γ] w _
  rw [e1, getT_val bs γ]
  exact get_any bs A c w b1 r1
end Go.Proofs.YtiaeollemmkclaaDoor
