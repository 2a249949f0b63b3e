import Derived.Test.YtiaeollemmkclaaDoorPk2
/- varint.Size, varint.Put onto nothing, varint.Get; pack.number (layers 11, 13). -/
namespace Go.Proofs.YtiaeollemmkclaaDoor
open Go.RowKit
set_option linter.unusedSimpArgs false
set_option linter.unusedVariables false
theorem u64_lt_no {v : UInt64} (h : ¬ v < 248) : 248 ≤ v.toNat := Nat.not_lt.1 fun hc => h (UInt64.lt_iff_toNat_lt.2 hc)
theorem putV_small {v : UInt64} (h : v < 248) : putV v = [v.toUInt8] := if_pos h
theorem putV_big {v : UInt64} (h : ¬ v < 248) : putV v = UInt8.ofNat (247 + nb8 v) :: dgV (nb8 v) v.toNat := if_neg h
theorem putV_len {v : UInt64} (h : ¬ v < 248) : (putV v).length = nb8 v + 1 := by rw [putV_big h, List.length_cons, dgV_length]
theorem bl_nb {v : UInt64} (h : ¬ v < 248) : 0 ≤ bl64 v ∧ bl64 v ≤ 64 ∧ (bl64 v + 7).tdiv 8 = (nb8 v : Int) := by
  have hn := u64_lt_no h
  have h1 := len_nb v (by omega)
  have h2 : blN v.toNat = Nat.log2 v.toNat + 1 := if_neg (by omega)
  have h3 := blN_le (n := v.toNat) (k := 64) v.toNat_lt
  unfold bl64
  refine ⟨by omega, by omega, ?_⟩
  rw [Int.tdiv_eq_ediv_of_nonneg (by omega)]
  omega
theorem ofInt8 (n : Nat) : UInt8.ofInt (n:Int) = UInt8.ofNat n := by
  apply UInt8.toNat_inj.1
  have e : ((n:Int) % 2 ^ 8).toNat = n % 2 ^ 8 := by omega
  unfold UInt8.ofInt
  rw [UInt8.toNat_ofNat', UInt8.toNat_ofNat', e, Nat.mod_mod]
theorem rd8_nil (w : World) : rd8 w none 0 = [] ∧ Rd8 w No none 0 := ⟨rfl, RdV.nil_, fun _ a h => by cases h⟩
attribute [local irreducible] Callable CallOK CallG CallM DrawG LoopG symR symM
attribute [local irreducible] putV dgV nb8 bl64
section
variable {w0 : World} {ow : Nat → Prop} {hp : List Res}
theorem len64K (v : UInt64) : CallOK Tryd.prog w0 ow 167 [.x (.a (.v (vU64 v)))] hp (.x (.a (.v (.int .i64 (bl64 v))))) hp := callOK_v fun _ w _ => len64_any v w
set_option maxRecDepth 100000 in
theorem size_any (v : UInt64) (w : World) : Calls Tryd.prog 156 #[vU64 v] w fun e w' => e = .returned (.int .i64 ((putV v).length : Int)) ∧ Below w.heap.size w w' := by
  refine calls_v (n := 10) Tryd.func156 rfl Tryd.ntmps156 [.x (.a (.v (vU64 v)))] (by simp) (.x (.a (.v (.int .i64 ((putV v).length : Int))))) (fun _ => rfl) ?_
  by_cases h : v < 248
  · have hl : (putV v).length = 1 := by rw [putV_small h]; rfl
    simp (config := { maxSteps := 1000000 }) only [h, hl, undef, push_cast, ↓Int.toNat_natCast, ↓Int.cast_ofNat_Int, Int.cast_ofNat_Int, ↓reduceIte, reduceCtorEq, Nat.reduceEqDiff, Nat.reduceLT, Nat.reduceLeDiff, Nat.reduceAdd, Nat.reduceSub, Nat.reduceMul, Int.reduceNeg, Int.reduceLE, Int.reduceLT, Int.reduceToNat, Int.reduceAdd, Int.reduceSub, Int.reduceMul, Int.reduceEq]
  · have hl := putV_len h
    obtain ⟨b1, b2, b3⟩ := bl_nb h
    have hb := nb8_le v
    simp (config := { maxSteps := 1000000 }) only [h, hl, undef, push_cast, ↓Int.toNat_natCast, ↓Int.cast_ofNat_Int, Int.cast_ofNat_Int, ↓reduceIte, reduceCtorEq, Nat.reduceEqDiff, Nat.reduceLT, Nat.reduceLeDiff, Nat.reduceAdd, Nat.reduceSub, Nat.reduceMul, Int.reduceNeg, Int.reduceLE, Int.reduceLT, Int.reduceToNat, Int.reduceAdd, Int.reduceSub, Int.reduceMul, Int.reduceEq]
    (repeat (refine And.intro (by first | omega | decide) ?_))
    refine callG_v rfl cb167 rfl (len64K v) (dOk_lt rfl) ?_
    simp (config := { maxSteps := 1000000 }) only [h, hl, b3, undef, push_cast, ↓Int.toNat_natCast, ↓Int.cast_ofNat_Int, Int.cast_ofNat_Int, ↓reduceIte, reduceCtorEq, Nat.reduceEqDiff, Nat.reduceLT, Nat.reduceLeDiff, Nat.reduceAdd, Nat.reduceSub, Nat.reduceMul, Int.reduceNeg, Int.reduceLE, Int.reduceLT, Int.reduceToNat, Int.reduceAdd, Int.reduceSub, Int.reduceMul, Int.reduceEq]
    all_goals omega
theorem sizeK (v : UInt64) : CallOK Tryd.prog w0 ow 156 [.x (.a (.v (vU64 v)))] hp (.x (.a (.v (.int .i64 ((putV v).length : Int))))) hp := callOK_v fun _ w _ => size_any v w
end
set_option maxRecDepth 100000 in
set_option maxHeartbeats 1000000 in
theorem putN_any (v : UInt64) (w : World) : Calls Tryd.prog 145 #[.slice none 0 0, vU64 v] w fun e w' => ∃ x, e = .returned x ∧ Own w' w.heap.size 5 x ((putV v).map vU8) ∧ Below w.heap.size w w' := by
  refine calls_own (n := 47) Tryd.func145 rfl Tryd.ntmps145 [.x (.a (.v (.slice none 0 0))), .x (.a (.v (vU64 v)))] (by simp) 5 (.u8 (putV v)) (fun _ => rfl) ?_
  obtain ⟨r1, r2⟩ := rd8_nil w
  simp (config := { maxSteps := 1000000 }) only [undef, push_cast, ↓Int.toNat_natCast, ↓Int.cast_ofNat_Int, Int.cast_ofNat_Int, ↓reduceIte, reduceCtorEq, Nat.reduceEqDiff, Nat.reduceLT, Nat.reduceLeDiff, Nat.reduceAdd, Nat.reduceSub, Nat.reduceMul, Int.reduceNeg, Int.reduceLE, Int.reduceLT, Int.reduceToNat, Int.reduceAdd, Int.reduceSub, Int.reduceMul, Int.reduceEq]
  (repeat (refine And.intro (by first | omega | decide) ?_))
  refine callG_v rfl cb156 rfl (sizeK v) (dOk_lt rfl) ?_
  by_cases h : v < 248
  · have hl : (putV v).length = 1 := by rw [putV_small h]; rfl
    have hp := putV_small h
    simp (config := { maxSteps := 1000000 }) only [h, hl, hp, r1, r2, List.replicate_zero, undef, push_cast, ↓Int.toNat_natCast, ↓Int.cast_ofNat_Int, Int.cast_ofNat_Int, ↓reduceIte, reduceCtorEq, Nat.reduceEqDiff, Nat.reduceLT, Nat.reduceLeDiff, Nat.reduceAdd, Nat.reduceSub, Nat.reduceMul, Int.reduceNeg, Int.reduceLE, Int.reduceLT, Int.reduceToNat, Int.reduceAdd, Int.reduceSub, Int.reduceMul, Int.reduceEq]
    all_goals decide
  · have hl := putV_len h
    have hp := putV_big h
    have hb := nb8_le v
    have hdl : ∀ j, j ≤ nb8 v → ((dgV (nb8 v) v.toNat).take j).length = j := fun j hj => by rw [List.length_take, dgV_length]; omega
    have hh : UInt8.ofInt (247 + ((nb8 v : Int) + 1) - 1) = UInt8.ofNat (247 + nb8 v) := by
      rw [show 247 + ((nb8 v : Int) + 1) - 1 = ((247 + nb8 v : Nat) : Int) by omega]
      exact ofInt8 _
    have h1 : ¬ ((nb8 v : Int) + 1 = 1) := by omega
    simp (config := { maxSteps := 1000000 }) only [h, hl, r1, r2, hh, h1, undef, push_cast, ↓Int.toNat_natCast, ↓Int.cast_ofNat_Int, Int.cast_ofNat_Int, ↓reduceIte, reduceCtorEq, Nat.reduceEqDiff, Nat.reduceLT, Nat.reduceLeDiff, Nat.reduceAdd, Nat.reduceSub, Nat.reduceMul, Int.reduceNeg, Int.reduceLE, Int.reduceLT, Int.reduceToNat, Int.reduceAdd, Int.reduceSub, Int.reduceMul, Int.reduceEq]
    (repeat (refine And.intro (by first | omega | decide) ?_))
    refine loop_rule (ι := Nat) (fun j => ⟨[(1, .x (.a (.v (vU64 v)))), (6, .x (.a (.o 0))), (7, .x (.a (.v (.int .i64 ((nb8 v : Int) - 1 - j)))))], [.own 5 (.u8 (UInt8.ofNat (247 + nb8 v) :: (dgV (nb8 v) v.toNat).take j))]⟩) (fun j => j ≤ nb8 v) (fun j => nb8 v - j) 0 [3] (by omega) ?_ ?_
    · simp (config := { maxSteps := 1000000 }) only [List.replicate_zero, List.take_zero, push_cast, ↓Int.toNat_natCast, ↓Int.cast_ofNat_Int, Int.cast_ofNat_Int, ↓reduceIte, reduceCtorEq, Nat.reduceEqDiff, Nat.reduceLT, Nat.reduceLeDiff, Nat.reduceAdd, Nat.reduceSub, Nat.reduceMul, Int.reduceNeg, Int.reduceLE, Int.reduceLT, Int.reduceToNat, Int.reduceAdd, Int.reduceSub, Int.reduceMul, Int.reduceEq]
      omega
    intro j hj
    by_cases hlt : (0 : Int) ≤ (nb8 v : Int) - 1 - j
    · have e1 : (8 * ((nb8 v : Int) - 1 - j)).toNat = 8 * (nb8 v - 1 - j) := by omega
      have e2 := shr_byte v (nb8 v - 1 - j) (by omega)
      have e3 := dgV_get (nb8 v) v.toNat j (by omega)
      have e4 : (dgV (nb8 v) v.toNat).take (j + 1) = (dgV (nb8 v) v.toNat).take j ++ [ix (dgV (nb8 v) v.toNat) j] := by
        have := dgV_length (nb8 v) v.toNat
        rw [List.take_add_one, ix, List.getD_eq_getElem?_getD, List.getElem?_eq_getElem (by omega)]
        rfl
      have e5 := hdl j hj
      simp (config := { maxSteps := 1000000 }) only [hlt, e1, e2, e5, undef, push_cast, ↓Int.toNat_natCast, ↓Int.cast_ofNat_Int, Int.cast_ofNat_Int, ↓reduceIte, reduceCtorEq, Nat.reduceEqDiff, Nat.reduceLT, Nat.reduceLeDiff, Nat.reduceAdd, Nat.reduceSub, Nat.reduceMul, Int.reduceNeg, Int.reduceLE, Int.reduceLT, Int.reduceToNat, Int.reduceAdd, Int.reduceSub, Int.reduceMul, Int.reduceEq]
      (repeat (refine And.intro (by first | omega | decide) ?_))
      refine loopK_normal (j + 1) [2] (by omega) (by omega) ?_
      simp (config := { maxSteps := 1000000 }) only [e4, e3, push_cast, ↓Int.toNat_natCast, ↓Int.cast_ofNat_Int, Int.cast_ofNat_Int, ↓reduceIte, reduceCtorEq, Nat.reduceEqDiff, Nat.reduceLT, Nat.reduceLeDiff, Nat.reduceAdd, Nat.reduceSub, Nat.reduceMul, Int.reduceNeg, Int.reduceLE, Int.reduceLT, Int.reduceToNat, Int.reduceAdd, Int.reduceSub, Int.reduceMul, Int.reduceEq]
      omega
    · have ej : j = nb8 v := by omega
      subst ej
      have e5 : (dgV (nb8 v) v.toNat).take (nb8 v) = dgV (nb8 v) v.toNat := List.take_of_length_le (by rw [dgV_length]; omega)
      simp (config := { maxSteps := 1000000 }) only [hlt, hp, e5, undef, push_cast, ↓Int.toNat_natCast, ↓Int.cast_ofNat_Int, Int.cast_ofNat_Int, ↓reduceIte, reduceCtorEq, Nat.reduceEqDiff, Nat.reduceLT, Nat.reduceLeDiff, Nat.reduceAdd, Nat.reduceSub, Nat.reduceMul, Int.reduceNeg, Int.reduceLE, Int.reduceLT, Int.reduceToNat, Int.reduceAdd, Int.reduceSub, Int.reduceMul, Int.reduceEq]
      done
theorem putNK {w0 : World} {ow : Nat → Prop} {hp : List Res} (v : UInt64) (hbr : ∀ r ∈ hp, Res.bnd hp.length r) : CallOK Tryd.prog w0 ow 145 [.x (.a (.v (.slice none 0 0))), .x (.a (.v (vU64 v)))] hp (.x (.a (.o hp.length))) (hp ++ [.own 5 (.u8 (putV v))]) :=
  callOK_own hbr trivial fun γ w hS => putN_any v w
theorem numberOf_any (v : UInt64) (w : World) : Calls Tryd.prog 110 #[vU64 v] w fun e w' => ∃ x, e = .returned x ∧ Own w' w.heap.size 5 x ((putV v).map vU8) ∧ Below w.heap.size w w' := by
  refine calls_own (n := 5) Tryd.func110 rfl Tryd.ntmps110 [.x (.a (.v (vU64 v)))] (by simp) 5 (.u8 (putV v)) (fun _ => rfl) ?_
  simp (config := { maxSteps := 1000000 }) only [undef, push_cast, ↓Int.toNat_natCast, ↓Int.cast_ofNat_Int, Int.cast_ofNat_Int, ↓reduceIte, reduceCtorEq, Nat.reduceEqDiff, Nat.reduceLT, Nat.reduceLeDiff, Nat.reduceAdd, Nat.reduceSub, Nat.reduceMul, Int.reduceNeg, Int.reduceLE, Int.reduceLT, Int.reduceToNat, Int.reduceAdd, Int.reduceSub, Int.reduceMul, Int.reduceEq]
  (repeat (refine And.intro (by first | omega | decide) ?_))
  refine callG_x rfl cb145 rfl (putNK v (by simp only [push_cast, ↓Int.toNat_natCast, ↓Int.cast_ofNat_Int, Int.cast_ofNat_Int, ↓reduceIte, reduceCtorEq, Nat.reduceEqDiff, Nat.reduceLT, Nat.reduceLeDiff, Nat.reduceAdd, Nat.reduceSub, Nat.reduceMul, Int.reduceNeg, Int.reduceLE, Int.reduceLT, Int.reduceToNat, Int.reduceAdd, Int.reduceSub, Int.reduceMul, Int.reduceEq])) (dOk_lt rfl) (by simp only [push_cast, ↓Int.toNat_natCast, ↓Int.cast_ofNat_Int, Int.cast_ofNat_Int, ↓reduceIte, reduceCtorEq, Nat.reduceEqDiff, Nat.reduceLT, Nat.reduceLeDiff, Nat.reduceAdd, Nat.reduceSub, Nat.reduceMul, Int.reduceNeg, Int.reduceLE, Int.reduceLT, Int.reduceToNat, Int.reduceAdd, Int.reduceSub, Int.reduceMul, Int.reduceEq]) ?_
  simp (config := { maxSteps := 1000000 }) only [undef, push_cast, ↓Int.toNat_natCast, ↓Int.cast_ofNat_Int, Int.cast_ofNat_Int, ↓reduceIte, reduceCtorEq, Nat.reduceEqDiff, Nat.reduceLT, Nat.reduceLeDiff, Nat.reduceAdd, Nat.reduceSub, Nat.reduceMul, Int.reduceNeg, Int.reduceLE, Int.reduceLT, Int.reduceToNat, Int.reduceAdd, Int.reduceSub, Int.reduceMul, Int.reduceEq]
theorem numberOfK {w0 : World} {ow : Nat → Prop} {hp : List Res} (v : UInt64) (hbr : ∀ r ∈ hp, Res.bnd hp.length r) : CallOK Tryd.prog w0 ow 110 [.x (.a (.v (vU64 v)))] hp (.x (.a (.o hp.length))) (hp ++ [.own 5 (.u8 (putV v))]) :=
  callOK_own hbr trivial fun γ w hS => numberOf_any v w
end Go.Proofs.YtiaeollemmkclaaDoor
