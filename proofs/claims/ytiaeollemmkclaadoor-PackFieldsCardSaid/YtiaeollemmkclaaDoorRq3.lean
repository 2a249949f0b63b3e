/- Rq3: RpD, RpE, joined. -/
import Derived.Test.YtiaeollemmkclaaDoorPkK
import Derived.Test.YtiaeollemmkclaaDoorRq2
import Derived.Test.YtiaeollemmkclaaDoorPkL
/- Writers and readers that are nil (layer 13). -/
namespace Go.Proofs.YtiaeollemmkclaaDoor
open Go.RowKit
set_option linter.unusedSimpArgs false
set_option linter.unusedVariables false
attribute [local irreducible] Callable CallOK CallG CallM DrawG LoopG symR symM
section
variable {w0 : World} {ow : Nat → Prop} {hp : List Res}
set_option maxRecDepth 100000 in
theorem putNilK (sv : Sv) : CallOK Tryd.prog w0 ow 109 [.x (.a (.v (.pointer none))), sv] hp (.t []) hp := callOK_v fun γ w _ => by
  have h : ∀ x : Value, Calls Tryd.prog 109 #[.pointer none, x] w fun e w' => e = .returned (.tuple #[]) ∧ Below w.heap.size w w' := fun x => by
    refine calls_v (n := 25) Tryd.func109 rfl Tryd.ntmps109 [.x (.a (.v (.pointer none))), .x (.a (.v x))] (by simp) (.t []) (fun _ => rfl) ?_
    simp (config := { maxSteps := 1000000 }) only [undef, push_cast, ↓Int.toNat_natCast, ↓Int.cast_ofNat_Int, Int.cast_ofNat_Int, ↓reduceIte, reduceCtorEq, Nat.reduceEqDiff, Nat.reduceLT, Nat.reduceLeDiff, Nat.reduceAdd, Nat.reduceSub, Nat.reduceMul, Int.reduceNeg, Int.reduceLE, Int.reduceLT, Int.reduceToNat, Int.reduceAdd, Int.reduceSub, Int.reduceMul, Int.reduceEq]
  exact h (sv.val γ)
set_option maxRecDepth 100000 in
theorem numNilW (v : UInt64) : CallOK Tryd.prog w0 ow 60 [.x (.a (.v (.pointer none))), .x (.a (.v (vU64 v)))] hp (.t []) hp := callOK_v fun γ w _ => by
  refine calls_v (n := 8) Tryd.func60 rfl Tryd.ntmps60 [.x (.a (.v (.pointer none))), .x (.a (.v (vU64 v)))] (by simp) (.t []) (fun _ => rfl) ?_
  simp (config := { maxSteps := 1000000 }) only [undef, push_cast, ↓Int.toNat_natCast, ↓Int.cast_ofNat_Int, Int.cast_ofNat_Int, ↓reduceIte, reduceCtorEq, Nat.reduceEqDiff, Nat.reduceLT, Nat.reduceLeDiff, Nat.reduceAdd, Nat.reduceSub, Nat.reduceMul, Int.reduceNeg, Int.reduceLE, Int.reduceLT, Int.reduceToNat, Int.reduceAdd, Int.reduceSub, Int.reduceMul, Int.reduceEq]
  (repeat (refine And.intro (by first | omega | decide) ?_))
  refine callG_x rfl cb110 rfl (numberOfK v (by simp only [push_cast, ↓Int.toNat_natCast, ↓Int.cast_ofNat_Int, Int.cast_ofNat_Int, ↓reduceIte, reduceCtorEq, Nat.reduceEqDiff, Nat.reduceLT, Nat.reduceLeDiff, Nat.reduceAdd, Nat.reduceSub, Nat.reduceMul, Int.reduceNeg, Int.reduceLE, Int.reduceLT, Int.reduceToNat, Int.reduceAdd, Int.reduceSub, Int.reduceMul, Int.reduceEq])) (dOk_lt rfl) (by simp only [push_cast, ↓Int.toNat_natCast, ↓Int.cast_ofNat_Int, Int.cast_ofNat_Int, ↓reduceIte, reduceCtorEq, Nat.reduceEqDiff, Nat.reduceLT, Nat.reduceLeDiff, Nat.reduceAdd, Nat.reduceSub, Nat.reduceMul, Int.reduceNeg, Int.reduceLE, Int.reduceLT, Int.reduceToNat, Int.reduceAdd, Int.reduceSub, Int.reduceMul, Int.reduceEq]) ?_
  simp (config := { maxSteps := 1000000 }) only [undef, push_cast, ↓Int.toNat_natCast, ↓Int.cast_ofNat_Int, Int.cast_ofNat_Int, ↓reduceIte, reduceCtorEq, Nat.reduceEqDiff, Nat.reduceLT, Nat.reduceLeDiff, Nat.reduceAdd, Nat.reduceSub, Nat.reduceMul, Int.reduceNeg, Int.reduceLE, Int.reduceLT, Int.reduceToNat, Int.reduceAdd, Int.reduceSub, Int.reduceMul, Int.reduceEq]
  (repeat (refine And.intro (by first | omega | decide) ?_))
  refine callG_v rfl cb109 rfl (putNilK _) (dOk_lt rfl) ?_
  simp (config := { maxSteps := 1000000 }) only [undef, push_cast, ↓Int.toNat_natCast, ↓Int.cast_ofNat_Int, Int.cast_ofNat_Int, ↓reduceIte, reduceCtorEq, Nat.reduceEqDiff, Nat.reduceLT, Nat.reduceLeDiff, Nat.reduceAdd, Nat.reduceSub, Nat.reduceMul, Int.reduceNeg, Int.reduceLE, Int.reduceLT, Int.reduceToNat, Int.reduceAdd, Int.reduceSub, Int.reduceMul, Int.reduceEq]
set_option maxRecDepth 100000 in
set_option maxHeartbeats 1000000 in
theorem writeNilK (f : FdR) (hf : f.s.length = 32) (k0 : f.k = 0) : CallOK Tryd.prog w0 ow 9 [.x (.a (.v (.pointer none))), .x (.g (fdA f))] hp (.t []) hp := callOK_v fun γ w _ => by
  have e : List.map (Sv.val γ) [.x (.a (.v (.pointer none))), .x (.g (fdA f))] = List.map (Sv.val []) [.x (.a (.v (.pointer none))), .x (.g (fdA f))] := by
    simp only [List.map_cons, List.map_nil, fdA_sv]
    rfl
  rw [e]
  obtain ⟨f0, f1, f2, f3, f36, f37, f38⟩ := fdA_get hf
  have fl := fdA_len hf
  have fb := fun n => fdA_bnd f n
  simp only [At.bnd] at fb
  refine calls_v (n := 34) Tryd.func9 rfl Tryd.ntmps9 [.x (.a (.v (.pointer none))), .x (.g (fdA f))] (by simp) (.t []) (fun _ => rfl) ?_
  simp (config := { maxSteps := 1000000 }) only [fb, fl, f0, f1, f2, f3, f36, f37, f38, ↓fdA_cbnd, ↓fdA_sbnd, ↓fdA_vbnd, ↓fdA_cont, ↓fdA_cren, ↓fdA_sren, ↓fdA_vren, k0, undef, push_cast, ↓Int.toNat_natCast, ↓Int.cast_ofNat_Int, Int.cast_ofNat_Int, ↓reduceIte, reduceCtorEq, Nat.reduceEqDiff, Nat.reduceLT, Nat.reduceLeDiff, Nat.reduceAdd, Nat.reduceSub, Nat.reduceMul, Int.reduceNeg, Int.reduceLE, Int.reduceLT, Int.reduceToNat, Int.reduceAdd, Int.reduceSub, Int.reduceMul, Int.reduceEq]
  (repeat (refine And.intro (by first | omega | decide) ?_))
  refine callG_v rfl cb60 rfl (numNilW _) (dOk_lt rfl) ?_
  simp (config := { maxSteps := 1000000 }) only [fb, fl, ↓fdA_cbnd, ↓fdA_sbnd, ↓fdA_vbnd, ↓fdA_cont, ↓fdA_cren, ↓fdA_sren, ↓fdA_vren, undef, push_cast, ↓Int.toNat_natCast, ↓Int.cast_ofNat_Int, Int.cast_ofNat_Int, ↓reduceIte, reduceCtorEq, Nat.reduceEqDiff, Nat.reduceLT, Nat.reduceLeDiff, Nat.reduceAdd, Nat.reduceSub, Nat.reduceMul, Int.reduceNeg, Int.reduceLE, Int.reduceLT, Int.reduceToNat, Int.reduceAdd, Int.reduceSub, Int.reduceMul, Int.reduceEq]
def fdZ : FdR := ⟨0, 0, ⟨none, 0, []⟩, ⟨none, 0, []⟩, List.replicate 32 0, ⟨none, 0, []⟩, 0, 0⟩
theorem fdA_Z : ((.v (.int .u8 0) :: .v (.int .u64 0) :: .v (.slice none 0 0) :: .v (.slice none 0 0) :: (List.map f8 (List.replicate 32 0) ++ [.v (.slice none 0 0), .v (.int .i64 0), .v (.int .u64 0)])) : List At) = fdA fdZ := rfl
set_option maxRecDepth 100000 in
theorem numberNilK (most : Value) : CallOK Tryd.prog w0 ow 65 [.x (.a (.v (.pointer none))), .x (.a (.v most))] hp (.t [.a (.v (.int .u64 0)), .a (.v (.bool false))]) hp := callOK_v fun γ w _ => by
  refine calls_v (n := 39) Tryd.func65 rfl Tryd.ntmps65 [.x (.a (.v (.pointer none))), .x (.a (.v most))] (by simp) (.t [.a (.v (.int .u64 0)), .a (.v (.bool false))]) (fun _ => rfl) ?_
  simp (config := { maxSteps := 1000000 }) only [undef, push_cast, ↓Int.toNat_natCast, ↓Int.cast_ofNat_Int, Int.cast_ofNat_Int, ↓reduceIte, reduceCtorEq, Nat.reduceEqDiff, Nat.reduceLT, Nat.reduceLeDiff, Nat.reduceAdd, Nat.reduceSub, Nat.reduceMul, Int.reduceNeg, Int.reduceLE, Int.reduceLT, Int.reduceToNat, Int.reduceAdd, Int.reduceSub, Int.reduceMul, Int.reduceEq]
set_option maxRecDepth 100000 in
theorem numNilR (most : Value) : CallOK Tryd.prog w0 ow 11 [.x (.a (.v (.pointer none))), .x (.a (.v most))] hp (.x (.a (.v (.int .u64 0)))) hp := callOK_v fun γ w _ => by
  refine calls_v (n := 14) Tryd.func11 rfl Tryd.ntmps11 [.x (.a (.v (.pointer none))), .x (.a (.v most))] (by simp) (.x (.a (.v (.int .u64 0)))) (fun _ => rfl) ?_
  simp (config := { maxSteps := 1000000 }) only [undef, push_cast, ↓Int.toNat_natCast, ↓Int.cast_ofNat_Int, Int.cast_ofNat_Int, ↓reduceIte, reduceCtorEq, Nat.reduceEqDiff, Nat.reduceLT, Nat.reduceLeDiff, Nat.reduceAdd, Nat.reduceSub, Nat.reduceMul, Int.reduceNeg, Int.reduceLE, Int.reduceLT, Int.reduceToNat, Int.reduceAdd, Int.reduceSub, Int.reduceMul, Int.reduceEq]
  (repeat (refine And.intro (by first | omega | decide) ?_))
  refine callG_v rfl cb65 rfl (numberNilK _) (dOk_lt rfl) ?_
  simp (config := { maxSteps := 1000000 }) only [undef, push_cast, ↓Int.toNat_natCast, ↓Int.cast_ofNat_Int, Int.cast_ofNat_Int, ↓reduceIte, reduceCtorEq, Nat.reduceEqDiff, Nat.reduceLT, Nat.reduceLeDiff, Nat.reduceAdd, Nat.reduceSub, Nat.reduceMul, Int.reduceNeg, Int.reduceLE, Int.reduceLT, Int.reduceToNat, Int.reduceAdd, Int.reduceSub, Int.reduceMul, Int.reduceEq]
set_option maxRecDepth 100000 in
theorem countNilK (each : Int) : CallOK Tryd.prog w0 ow 66 [.x (.a (.v (.pointer none))), .x (.a (.v (.int .i64 3))), .x (.a (.v (.int .i64 each)))] hp (.t [.a (.v (.int .i64 0)), .a (.v (.bool false))]) hp := callOK_v fun γ w _ => by
  refine calls_v (n := 34) Tryd.func66 rfl Tryd.ntmps66 [.x (.a (.v (.pointer none))), .x (.a (.v (.int .i64 3))), .x (.a (.v (.int .i64 each)))] (by simp) (.t [.a (.v (.int .i64 0)), .a (.v (.bool false))]) (fun _ => rfl) ?_
  simp (config := { maxSteps := 1000000 }) only [undef, push_cast, ↓Int.toNat_natCast, ↓Int.cast_ofNat_Int, Int.cast_ofNat_Int, ↓reduceIte, reduceCtorEq, Nat.reduceEqDiff, Nat.reduceLT, Nat.reduceLeDiff, Nat.reduceAdd, Nat.reduceSub, Nat.reduceMul, Int.reduceNeg, Int.reduceLE, Int.reduceLT, Int.reduceToNat, Int.reduceAdd, Int.reduceSub, Int.reduceMul, Int.reduceEq]
  (repeat (refine And.intro (by first | omega | decide) ?_))
  refine callG_v rfl cb65 rfl (numberNilK _) (dOk_lt rfl) ?_
  simp (config := { maxSteps := 1000000 }) only [undef, push_cast, ↓Int.toNat_natCast, ↓Int.cast_ofNat_Int, Int.cast_ofNat_Int, ↓reduceIte, reduceCtorEq, Nat.reduceEqDiff, Nat.reduceLT, Nat.reduceLeDiff, Nat.reduceAdd, Nat.reduceSub, Nat.reduceMul, Int.reduceNeg, Int.reduceLE, Int.reduceLT, Int.reduceToNat, Int.reduceAdd, Int.reduceSub, Int.reduceMul, Int.reduceEq]
set_option maxRecDepth 100000 in
theorem numsNilR (most : Value) : CallOK Tryd.prog w0 ow 12 [.x (.a (.v (.pointer none))), .x (.a (.v (.int .i64 3))), .x (.a (.v most))] hp (.x (.a (.v (.slice none 0 0)))) hp := callOK_v fun γ w _ => by
  refine calls_v (n := 39) Tryd.func12 rfl Tryd.ntmps12 [.x (.a (.v (.pointer none))), .x (.a (.v (.int .i64 3))), .x (.a (.v most))] (by simp) (.x (.a (.v (.slice none 0 0)))) (fun _ => rfl) ?_
  simp (config := { maxSteps := 1000000 }) only [undef, push_cast, ↓Int.toNat_natCast, ↓Int.cast_ofNat_Int, Int.cast_ofNat_Int, ↓reduceIte, reduceCtorEq, Nat.reduceEqDiff, Nat.reduceLT, Nat.reduceLeDiff, Nat.reduceAdd, Nat.reduceSub, Nat.reduceMul, Int.reduceNeg, Int.reduceLE, Int.reduceLT, Int.reduceToNat, Int.reduceAdd, Int.reduceSub, Int.reduceMul, Int.reduceEq]
  (repeat (refine And.intro (by first | omega | decide) ?_))
  refine callG_v rfl cb66 rfl (countNilK 1) (dOk_lt rfl) ?_
  simp (config := { maxSteps := 1000000 }) only [undef, push_cast, ↓Int.toNat_natCast, ↓Int.cast_ofNat_Int, Int.cast_ofNat_Int, ↓reduceIte, reduceCtorEq, Nat.reduceEqDiff, Nat.reduceLT, Nat.reduceLeDiff, Nat.reduceAdd, Nat.reduceSub, Nat.reduceMul, Int.reduceNeg, Int.reduceLE, Int.reduceLT, Int.reduceToNat, Int.reduceAdd, Int.reduceSub, Int.reduceMul, Int.reduceEq]
set_option maxRecDepth 100000 in
theorem bytesNilR : CallOK Tryd.prog w0 ow 13 [.x (.a (.v (.pointer none))), .x (.a (.v (.int .i64 3)))] hp (.x (.a (.v (.slice none 0 0)))) hp := callOK_v fun γ w _ => by
  refine calls_v (n := 33) Tryd.func13 rfl Tryd.ntmps13 [.x (.a (.v (.pointer none))), .x (.a (.v (.int .i64 3)))] (by simp) (.x (.a (.v (.slice none 0 0)))) (fun _ => rfl) ?_
  simp (config := { maxSteps := 1000000 }) only [undef, push_cast, ↓Int.toNat_natCast, ↓Int.cast_ofNat_Int, Int.cast_ofNat_Int, ↓reduceIte, reduceCtorEq, Nat.reduceEqDiff, Nat.reduceLT, Nat.reduceLeDiff, Nat.reduceAdd, Nat.reduceSub, Nat.reduceMul, Int.reduceNeg, Int.reduceLE, Int.reduceLT, Int.reduceToNat, Int.reduceAdd, Int.reduceSub, Int.reduceMul, Int.reduceEq]
  (repeat (refine And.intro (by first | omega | decide) ?_))
  refine callG_v rfl cb66 rfl (countNilK 1) (dOk_lt rfl) ?_
  simp (config := { maxSteps := 1000000 }) only [undef, push_cast, ↓Int.toNat_natCast, ↓Int.cast_ofNat_Int, Int.cast_ofNat_Int, ↓reduceIte, reduceCtorEq, Nat.reduceEqDiff, Nat.reduceLT, Nat.reduceLeDiff, Nat.reduceAdd, Nat.reduceSub, Nat.reduceMul, Int.reduceNeg, Int.reduceLE, Int.reduceLT, Int.reduceToNat, Int.reduceAdd, Int.reduceSub, Int.reduceMul, Int.reduceEq]
set_option maxRecDepth 100000 in
theorem rowNilR : CallOK Tryd.prog w0 ow 14 [.x (.a (.v (.pointer none))), .x (.a (.v (.int .i64 3)))] hp (.x (.a (.v (.slice none 0 0)))) hp := callOK_v fun γ w _ => by
  refine calls_v (n := 43) Tryd.func14 rfl Tryd.ntmps14 [.x (.a (.v (.pointer none))), .x (.a (.v (.int .i64 3)))] (by simp) (.x (.a (.v (.slice none 0 0)))) (fun _ => rfl) ?_
  simp (config := { maxSteps := 1000000 }) only [undef, push_cast, ↓Int.toNat_natCast, ↓Int.cast_ofNat_Int, Int.cast_ofNat_Int, ↓reduceIte, reduceCtorEq, Nat.reduceEqDiff, Nat.reduceLT, Nat.reduceLeDiff, Nat.reduceAdd, Nat.reduceSub, Nat.reduceMul, Int.reduceNeg, Int.reduceLE, Int.reduceLT, Int.reduceToNat, Int.reduceAdd, Int.reduceSub, Int.reduceMul, Int.reduceEq]
  (repeat (refine And.intro (by first | omega | decide) ?_))
  refine callG_v rfl cb66 rfl (countNilK 4) (dOk_lt rfl) ?_
  simp (config := { maxSteps := 1000000 }) only [undef, push_cast, ↓Int.toNat_natCast, ↓Int.cast_ofNat_Int, Int.cast_ofNat_Int, ↓reduceIte, reduceCtorEq, Nat.reduceEqDiff, Nat.reduceLT, Nat.reduceLeDiff, Nat.reduceAdd, Nat.reduceSub, Nat.reduceMul, Int.reduceNeg, Int.reduceLE, Int.reduceLT, Int.reduceToNat, Int.reduceAdd, Int.reduceSub, Int.reduceMul, Int.reduceEq]
set_option maxRecDepth 100000 in
theorem sumNilR : CallOK Tryd.prog w0 ow 15 [.x (.a (.v (.pointer none)))] hp (.x (.a8 (List.replicate 32 0))) hp := callOK_v fun γ w _ => by
  refine calls_v (n := 33) Tryd.func15 rfl Tryd.ntmps15 [.x (.a (.v (.pointer none)))] (by simp) (.x (.a8 (List.replicate 32 0))) (fun _ => rfl) ?_
  simp (config := { maxSteps := 1000000 }) only [undef, push_cast, ↓Int.toNat_natCast, ↓Int.cast_ofNat_Int, Int.cast_ofNat_Int, ↓reduceIte, reduceCtorEq, Nat.reduceEqDiff, Nat.reduceLT, Nat.reduceLeDiff, Nat.reduceAdd, Nat.reduceSub, Nat.reduceMul, Int.reduceNeg, Int.reduceLE, Int.reduceLT, Int.reduceToNat, Int.reduceAdd, Int.reduceSub, Int.reduceMul, Int.reduceEq]
set_option maxRecDepth 100000 in
theorem doneNilR : CallOK Tryd.prog w0 ow 17 [.x (.a (.v (.pointer none)))] hp (.x (.a (.v (.iface 137 (.int .i64 3))))) hp := callOK_v fun γ w _ => by
  refine calls_v (n := 20) Tryd.func17 rfl Tryd.ntmps17 [.x (.a (.v (.pointer none)))] (by simp) (.x (.a (.v (.iface 137 (.int .i64 3))))) (fun _ => rfl) ?_
  simp (config := { maxSteps := 1000000 }) only [undef, push_cast, ↓Int.toNat_natCast, ↓Int.cast_ofNat_Int, Int.cast_ofNat_Int, ↓reduceIte, reduceCtorEq, Nat.reduceEqDiff, Nat.reduceLT, Nat.reduceLeDiff, Nat.reduceAdd, Nat.reduceSub, Nat.reduceMul, Int.reduceNeg, Int.reduceLE, Int.reduceLT, Int.reduceToNat, Int.reduceAdd, Int.reduceSub, Int.reduceMul, Int.reduceEq]
end
end Go.Proofs.YtiaeollemmkclaaDoor
/- law 13's PackFields. -/
namespace Go.Proofs.YtiaeollemmkclaaDoor
open Go.RowKit
set_option linter.unusedSimpArgs false
set_option linter.unusedVariables false
theorem sameF_refl (f : Fd) : sameF f f = true := decide_eq_true ⟨rfl, rfl, rfl, rfl, rfl⟩
theorem takeF_len {f : Fd} {b : List UInt8} {p : Plc} (hp : pOk b p) (hb : b.length ≤ 100000) : (takeF f (pS b p)).1.l.length ≤ 100000 ∧ (takeF f (pS b p)).1.x.length ≤ 100000 := by
  have hP := cntR_P b f.many
  have hq := numP_ok b (manyU f.many) hp
  have four : ∀ (n : Nat) (l : List UInt8), l.length ≤ n → (fours l).length ≤ l.length := fun n => by
    induction n using Nat.strongRecOn with
    | ind n ih =>
      intro l hl
      rcases l with _ | ⟨a, _ | ⟨b, _ | ⟨c, _ | ⟨d, r⟩⟩⟩⟩
      · exact Nat.le_refl _
      · exact Nat.zero_le _
      · exact Nat.zero_le _
      · exact Nat.zero_le _
      · have := ih (n - 4) (by simp at hl; omega) r (by simp at hl; omega)
        simp only [fours, List.length_cons]
        omega
  have long : ∀ (k : Nat) (acc : List UInt64) (m : Nat), m ≤ b.length → (numsP b f.most k acc (some m)).1.length ≤ acc.length + (b.length - m) := fun k => by
    induction k with
    | zero => intro acc m _; rw [numsP]; exact Nat.le_add_right _ _
    | succ k ih =>
      intro acc m hm
      rw [numsP]
      cases hq : (numP b f.most (some m)).2 with
      | none => simp
      | some q =>
        have := numP_len hm hq
        simp only [Option.isSome_some, if_true]
        have h := ih (acc ++ [(numP b f.most (some m)).1]) q this.2
        rw [List.length_append, List.length_singleton] at h
        omega
  unfold takeF
  split
  · exact ⟨Nat.zero_le _, Nat.zero_le _⟩
  · split
    · refine ⟨?_, Nat.zero_le _⟩
      show (numsOf f.many f.most (pS b p)).1.length ≤ 100000
      unfold numsOf
      rw [cntR_P]
      cases hm2 : (numP b (manyU f.many) p).2 with
      | none => exact Nat.zero_le _
      | some m =>
        rw [hm2] at hq
        simp only [Nat.div_one]
        split
        · simp only [if_true]
          rw [show ((b.drop m, false) : Rs) = pS b (some m) from rfl, numsP_R]
          have := long (numP b (manyU f.many) p).1.toNat [] m hq
          simp only [List.length_nil] at this
          simp only
          omega
        · exact Nat.zero_le _
    · split
      · exact ⟨Nat.zero_le _, Nat.zero_le _⟩
      · split
        · exact ⟨Nat.zero_le _, Nat.zero_le _⟩
        · refine ⟨Nat.zero_le _, ?_⟩
          show (rowOf f.many (pS b p)).1.length ≤ 100000
          unfold rowOf
          rw [cntR_P]
          cases hm2 : (numP b (manyU f.many) p).2 with
          | none => exact Nat.zero_le _
          | some m =>
            simp only
            split
            · simp only [if_true]
              have := four _ ((b.drop m).take (4 * (numP b (manyU f.many) p).1.toNat)) (Nat.le_refl _)
              rw [List.length_take, List.length_drop] at this
              omega
            · exact Nat.zero_le _
attribute [local irreducible] Callable CallOK CallG CallM DrawG LoopG symR symM
attribute [local irreducible] fdA putF wrL totB rdA rdC rdT rdN tkA tkC takeQ allB
set_option maxRecDepth 100000 in
set_option maxHeartbeats 4000000 in
theorem packFields_any (l : List FdR) (A : Option Addr) (c : Nat) (b : List UInt8) (Ab : Option Addr) (c0 : Nat) (w : World) (hR : RdV w w.heap.size A (l.flatMap fdW)) (hs : ∀ f ∈ l, f.s.length = 32) (hok : ∀ f ∈ l, f.Ok w) (hb : RdV w w.heap.size Ab (b.map vU8)) (hbc : b.length ≤ c0) (hg : Handle w) :
    Calls Tryd.prog 3 #[.slice A l.length c, .slice Ab b.length c0] w fun e w' => e = .returned (.bool true) ∧ Below w.heap.size w w' := by
  have F := FL.of hR hs
  refine calls_v (n := 134) Tryd.func3 rfl Tryd.ntmps3 [.x (.a (.v (.slice A l.length c))), .x (.a (.v (.slice Ab b.length c0)))] (by simp) (.x (.a (.v (.bool true)))) (fun _ => rfl) ?_
  simp (config := { maxSteps := 1000000 }) only [zokFd, zeroArr, undef, push_cast, ↓Int.toNat_natCast, ↓Int.cast_ofNat_Int, Int.cast_ofNat_Int, ↓reduceIte, reduceCtorEq, Nat.reduceEqDiff, Nat.reduceLT, Nat.reduceLeDiff, Nat.reduceAdd, Nat.reduceSub, Nat.reduceMul, Int.reduceNeg, Int.reduceLE, Int.reduceLT, Int.reduceToNat, Int.reduceAdd, Int.reduceSub, Int.reduceMul, Int.reduceEq]
  (repeat (refine And.intro (by first | omega | decide) ?_))
  rw [fdA_Z]
  refine callG_v rfl cb9 rfl (writeNilK fdZ rfl rfl) (dOk_lt rfl) ?_
  simp (config := { maxSteps := 1000000 }) only [undef, push_cast, ↓Int.toNat_natCast, ↓Int.cast_ofNat_Int, Int.cast_ofNat_Int, ↓reduceIte, reduceCtorEq, Nat.reduceEqDiff, Nat.reduceLT, Nat.reduceLeDiff, Nat.reduceAdd, Nat.reduceSub, Nat.reduceMul, Int.reduceNeg, Int.reduceLE, Int.reduceLT, Int.reduceToNat, Int.reduceAdd, Int.reduceSub, Int.reduceMul, Int.reduceEq]
  (repeat (refine And.intro (by first | omega | decide) ?_))
  refine callG_v rfl cb10 rfl allNilK (dOk_lt rfl) ?_
  simp (config := { maxSteps := 1000000 }) only [undef, push_cast, ↓Int.toNat_natCast, ↓Int.cast_ofNat_Int, Int.cast_ofNat_Int, ↓reduceIte, reduceCtorEq, Nat.reduceEqDiff, Nat.reduceLT, Nat.reduceLeDiff, Nat.reduceAdd, Nat.reduceSub, Nat.reduceMul, Int.reduceNeg, Int.reduceLE, Int.reduceLT, Int.reduceToNat, Int.reduceAdd, Int.reduceSub, Int.reduceMul, Int.reduceEq]
  (repeat (refine And.intro (by first | omega | decide) ?_))
  refine call_keep (0 :: 1 :: 6 :: 22 :: 23 :: 24 :: 25 :: 28 :: 29 :: 30 :: 31 :: 34 :: 35 :: 36 :: 37 :: 40 :: 41 :: 42 :: 43 :: 46 :: 47 :: 48 :: 49 :: 52 :: 53 :: 54 :: 55 :: 60 :: 61 :: 62 :: 108 :: 109 :: 110 :: 111 :: 112 :: 113 :: 125 :: 126 :: 127 :: 128 :: 129 :: 130 :: 131 :: []) ?_
  simp (config := { maxSteps := 1000000 }) only [push_cast, ↓Int.toNat_natCast, ↓Int.cast_ofNat_Int, Int.cast_ofNat_Int, ↓reduceIte, reduceCtorEq, Nat.reduceEqDiff, Nat.reduceLT, Nat.reduceLeDiff, Nat.reduceAdd, Nat.reduceSub, Nat.reduceMul, Int.reduceNeg, Int.reduceLE, Int.reduceLT, Int.reduceToNat, Int.reduceAdd, Int.reduceSub, Int.reduceMul, Int.reduceEq]
  refine callG_v rfl cb11 rfl (numNilR _) (dOk_lt rfl) ?_
  simp (config := { maxSteps := 1000000 }) only [undef, push_cast, ↓Int.toNat_natCast, ↓Int.cast_ofNat_Int, Int.cast_ofNat_Int, ↓reduceIte, reduceCtorEq, Nat.reduceEqDiff, Nat.reduceLT, Nat.reduceLeDiff, Nat.reduceAdd, Nat.reduceSub, Nat.reduceMul, Int.reduceNeg, Int.reduceLE, Int.reduceLT, Int.reduceToNat, Int.reduceAdd, Int.reduceSub, Int.reduceMul, Int.reduceEq]
  (repeat (refine And.intro (by first | omega | decide) ?_))
  refine callG_v rfl cb12 rfl (numsNilR _) (dOk_lt rfl) ?_
  simp (config := { maxSteps := 1000000 }) only [undef, push_cast, ↓Int.toNat_natCast, ↓Int.cast_ofNat_Int, Int.cast_ofNat_Int, ↓reduceIte, reduceCtorEq, Nat.reduceEqDiff, Nat.reduceLT, Nat.reduceLeDiff, Nat.reduceAdd, Nat.reduceSub, Nat.reduceMul, Int.reduceNeg, Int.reduceLE, Int.reduceLT, Int.reduceToNat, Int.reduceAdd, Int.reduceSub, Int.reduceMul, Int.reduceEq]
  (repeat (refine And.intro (by first | omega | decide) ?_))
  refine callG_v rfl cb13 rfl bytesNilR (dOk_lt rfl) ?_
  simp (config := { maxSteps := 1000000 }) only [undef, push_cast, ↓Int.toNat_natCast, ↓Int.cast_ofNat_Int, Int.cast_ofNat_Int, ↓reduceIte, reduceCtorEq, Nat.reduceEqDiff, Nat.reduceLT, Nat.reduceLeDiff, Nat.reduceAdd, Nat.reduceSub, Nat.reduceMul, Int.reduceNeg, Int.reduceLE, Int.reduceLT, Int.reduceToNat, Int.reduceAdd, Int.reduceSub, Int.reduceMul, Int.reduceEq]
  (repeat (refine And.intro (by first | omega | decide) ?_))
  refine callG_v rfl cb14 rfl rowNilR (dOk_lt rfl) ?_
  simp (config := { maxSteps := 1000000 }) only [undef, push_cast, ↓Int.toNat_natCast, ↓Int.cast_ofNat_Int, Int.cast_ofNat_Int, ↓reduceIte, reduceCtorEq, Nat.reduceEqDiff, Nat.reduceLT, Nat.reduceLeDiff, Nat.reduceAdd, Nat.reduceSub, Nat.reduceMul, Int.reduceNeg, Int.reduceLE, Int.reduceLT, Int.reduceToNat, Int.reduceAdd, Int.reduceSub, Int.reduceMul, Int.reduceEq]
  (repeat (refine And.intro (by first | omega | decide) ?_))
  refine callG_v rfl cb15 rfl sumNilR (dOk_lt rfl) ?_
  simp (config := { maxSteps := 1000000 }) only [undef, push_cast, ↓Int.toNat_natCast, ↓Int.cast_ofNat_Int, Int.cast_ofNat_Int, ↓reduceIte, reduceCtorEq, Nat.reduceEqDiff, Nat.reduceLT, Nat.reduceLeDiff, Nat.reduceAdd, Nat.reduceSub, Nat.reduceMul, Int.reduceNeg, Int.reduceLE, Int.reduceLT, Int.reduceToNat, Int.reduceAdd, Int.reduceSub, Int.reduceMul, Int.reduceEq]
  (repeat (refine And.intro (by first | omega | decide) ?_))
  refine callG_v rfl cb17 rfl doneNilR (dOk_lt rfl) ?_
  simp (config := { maxSteps := 1000000 }) only [undef, push_cast, ↓Int.toNat_natCast, ↓Int.cast_ofNat_Int, Int.cast_ofNat_Int, ↓reduceIte, reduceCtorEq, Nat.reduceEqDiff, Nat.reduceLT, Nat.reduceLeDiff, Nat.reduceAdd, Nat.reduceSub, Nat.reduceMul, Int.reduceNeg, Int.reduceLE, Int.reduceLT, Int.reduceToNat, Int.reduceAdd, Int.reduceSub, Int.reduceMul, Int.reduceEq]
  (repeat (refine And.intro (by first | omega | decide) ?_))
  refine callG_v rfl cb16 rfl (nmOK13 3 hg) (dOk_lt rfl) ?_
  simp (config := { maxSteps := 1000000 }) only [undef, push_cast, ↓Int.toNat_natCast, ↓Int.cast_ofNat_Int, Int.cast_ofNat_Int, ↓reduceIte, reduceCtorEq, Nat.reduceEqDiff, Nat.reduceLT, Nat.reduceLeDiff, Nat.reduceAdd, Nat.reduceSub, Nat.reduceMul, Int.reduceNeg, Int.reduceLE, Int.reduceLT, Int.reduceToNat, Int.reduceAdd, Int.reduceSub, Int.reduceMul, Int.reduceEq]
  (repeat (refine And.intro (by first | omega | decide) ?_))
  refine callG_v rfl cb18 rfl (great13K hR hs) (dOk_lt rfl) ?_
  cases hgr : greatF (l.map FdR.fd) with
  | true =>
    simp (config := { maxSteps := 1000000 }) only [hgr, undef, push_cast, ↓Int.toNat_natCast, ↓Int.cast_ofNat_Int, Int.cast_ofNat_Int, ↓reduceIte, reduceCtorEq, Nat.reduceEqDiff, Nat.reduceLT, Nat.reduceLeDiff, Nat.reduceAdd, Nat.reduceSub, Nat.reduceMul, Int.reduceNeg, Int.reduceLE, Int.reduceLT, Int.reduceToNat, Int.reduceAdd, Int.reduceSub, Int.reduceMul, Int.reduceEq]
    (repeat (refine And.intro (by first | omega | decide) ?_))
    refine callG_v rfl cb19 rfl (sure13K hg) (dOk_lt rfl) ?_
    simp (config := { maxSteps := 1000000 }) only [undef, push_cast, ↓Int.toNat_natCast, ↓Int.cast_ofNat_Int, Int.cast_ofNat_Int, ↓reduceIte, reduceCtorEq, Nat.reduceEqDiff, Nat.reduceLT, Nat.reduceLeDiff, Nat.reduceAdd, Nat.reduceSub, Nat.reduceMul, Int.reduceNeg, Int.reduceLE, Int.reduceLT, Int.reduceToNat, Int.reduceAdd, Int.reduceSub, Int.reduceMul, Int.reduceEq]
    done
  | false =>
    by_cases h900 : (900 : Int) < b.length
    · simp (config := { maxSteps := 1000000 }) only [hgr, h900, undef, push_cast, ↓Int.toNat_natCast, ↓Int.cast_ofNat_Int, Int.cast_ofNat_Int, ↓reduceIte, reduceCtorEq, Nat.reduceEqDiff, Nat.reduceLT, Nat.reduceLeDiff, Nat.reduceAdd, Nat.reduceSub, Nat.reduceMul, Int.reduceNeg, Int.reduceLE, Int.reduceLT, Int.reduceToNat, Int.reduceAdd, Int.reduceSub, Int.reduceMul, Int.reduceEq]
      (repeat (refine And.intro (by first | omega | decide) ?_))
      refine callG_v rfl cb19 rfl (sure13K hg) (dOk_lt rfl) ?_
      simp (config := { maxSteps := 1000000 }) only [undef, push_cast, ↓Int.toNat_natCast, ↓Int.cast_ofNat_Int, Int.cast_ofNat_Int, ↓reduceIte, reduceCtorEq, Nat.reduceEqDiff, Nat.reduceLT, Nat.reduceLeDiff, Nat.reduceAdd, Nat.reduceSub, Nat.reduceMul, Int.reduceNeg, Int.reduceLE, Int.reduceLT, Int.reduceToNat, Int.reduceAdd, Int.reduceSub, Int.reduceMul, Int.reduceEq]
      done
    obtain ⟨h20, hsm⟩ := greatF_no hgr
    rw [List.length_map] at h20
    have hsm2 : ∀ f ∈ l, f.l.l.length ≤ 60 ∧ f.b.l.length ≤ 300 ∧ f.x.l.length ≤ 60 := fun f hf => bigF_no (hsm _ (List.mem_map_of_mem hf))
    have hpm : ∀ f ∈ l, (putF f.fd).length ≤ 700 := fun f hf => putF_max (hsm2 f hf) (hs f hf)
    simp (config := { maxSteps := 1000000 }) only [hgr, h900, undef, push_cast, ↓Int.toNat_natCast, ↓Int.cast_ofNat_Int, Int.cast_ofNat_Int, ↓reduceIte, reduceCtorEq, Nat.reduceEqDiff, Nat.reduceLT, Nat.reduceLeDiff, Nat.reduceAdd, Nat.reduceSub, Nat.reduceMul, Int.reduceNeg, Int.reduceLE, Int.reduceLT, Int.reduceToNat, Int.reduceAdd, Int.reduceSub, Int.reduceMul, Int.reduceEq]
    (repeat (refine And.intro (by first | omega | decide) ?_))
    refine callG_rule rfl cb20 rfl (readNewK b (by omega) (by simp only [push_cast, ↓Int.toNat_natCast, ↓Int.cast_ofNat_Int, Int.cast_ofNat_Int, ↓reduceIte, reduceCtorEq, Nat.reduceEqDiff, Nat.reduceLT, Nat.reduceLeDiff, Nat.reduceAdd, Nat.reduceSub, Nat.reduceMul, Int.reduceNeg, Int.reduceLE, Int.reduceLT, Int.reduceToNat, Int.reduceAdd, Int.reduceSub, Int.reduceMul, Int.reduceEq]) (shows_raw hb _ _ (by simp) hbc)) (dOk_lt rfl) (fun _ => by simp only [push_cast, ↓Int.toNat_natCast, ↓Int.cast_ofNat_Int, Int.cast_ofNat_Int, ↓reduceIte, reduceCtorEq, Nat.reduceEqDiff, Nat.reduceLT, Nat.reduceLeDiff, Nat.reduceAdd, Nat.reduceSub, Nat.reduceMul, Int.reduceNeg, Int.reduceLE, Int.reduceLT, Int.reduceToNat, Int.reduceAdd, Int.reduceSub, Int.reduceMul, Int.reduceEq]) ?_
    simp (config := { maxSteps := 1000000 }) only [undef, push_cast, ↓Int.toNat_natCast, ↓Int.cast_ofNat_Int, Int.cast_ofNat_Int, ↓reduceIte, reduceCtorEq, Nat.reduceEqDiff, Nat.reduceLT, Nat.reduceLeDiff, Nat.reduceAdd, Nat.reduceSub, Nat.reduceMul, Int.reduceNeg, Int.reduceLE, Int.reduceLT, Int.reduceToNat, Int.reduceAdd, Int.reduceSub, Int.reduceMul, Int.reduceEq]
    (repeat (refine And.intro (by first | omega | decide) ?_))
    refine loopG_leads (leads_abs 0 0 47 _ (.pointer none) (ChR 125 []) rfl rfl (fun w => rfl) (by simp only [push_cast, ↓Int.toNat_natCast, ↓Int.cast_ofNat_Int, Int.cast_ofNat_Int, ↓reduceIte, reduceCtorEq, Nat.reduceEqDiff, Nat.reduceLT, Nat.reduceLeDiff, Nat.reduceAdd, Nat.reduceSub, Nat.reduceMul, Int.reduceNeg, Int.reduceLE, Int.reduceLT, Int.reduceToNat, Int.reduceAdd, Int.reduceSub, Int.reduceMul, Int.reduceEq])) ?_
    refine loop_fct (by simp only [push_cast, ↓Int.toNat_natCast, ↓Int.cast_ofNat_Int, Int.cast_ofNat_Int, ↓reduceIte, reduceCtorEq, Nat.reduceEqDiff, Nat.reduceLT, Nat.reduceLeDiff, Nat.reduceAdd, Nat.reduceSub, Nat.reduceMul, Int.reduceNeg, Int.reduceLE, Int.reduceLT, Int.reduceToNat, Int.reduceAdd, Int.reduceSub, Int.reduceMul, Int.reduceEq]) ?_
    refine loop_absorb 2 4 (vs := b.map vU8) rfl (fun _ => rfl) rfl (by decide) fun A1 c1 hc1 hm1 => ?_
    rw [List.length_map] at hc1
    refine loop_ghost 9 5 (.u8 []) rfl rfl trivial (by simp (config := { maxSteps := 1000000 }) only [undef, push_cast, ↓Int.toNat_natCast, ↓Int.cast_ofNat_Int, Int.cast_ofNat_Int, ↓reduceIte, reduceCtorEq, Nat.reduceEqDiff, Nat.reduceLT, Nat.reduceLeDiff, Nat.reduceAdd, Nat.reduceSub, Nat.reduceMul, Int.reduceNeg, Int.reduceLE, Int.reduceLT, Int.reduceToNat, Int.reduceAdd, Int.reduceSub, Int.reduceMul, Int.reduceEq]) ?_
    simp (config := { maxSteps := 1000000 }) only [undef, push_cast, ↓Int.toNat_natCast, ↓Int.cast_ofNat_Int, Int.cast_ofNat_Int, ↓reduceIte, reduceCtorEq, Nat.reduceEqDiff, Nat.reduceLT, Nat.reduceLeDiff, Nat.reduceAdd, Nat.reduceSub, Nat.reduceMul, Int.reduceNeg, Int.reduceLE, Int.reduceLT, Int.reduceToNat, Int.reduceAdd, Int.reduceSub, Int.reduceMul, Int.reduceEq]
    obtain ⟨Fs, hFs⟩ : ∃ Fs : List Fct, Fs = [⟨.slice A1 b.length c1, b.length, b.map vU8⟩] := ⟨_, rfl⟩
    have m1 : (⟨.slice A1 b.length c1, b.length, b.map vU8⟩ : Fct) ∈ Fs := by rw [hFs]; exact List.mem_cons_self ..
    rw [← hFs]
    clear hFs
    refine loop_rule (ι := Nat × RS × Plc) (fun x => ⟨[(0, .x (.a (.v (.slice A l.length c)))), (1, .x (.a (.v (.slice Ab b.length c0)))), (7, .x (.a (.p 0 0))), (8, .x (.a (.p 2 0))), (9, .x (.a (.o 4))), (10, .x (.a (.v (.int .i64 (pI x.2.2))))), (11, .x (.a (.v (.int .i64 (x.1 : Nat)))))],
      [.blk 47 (.c [.o 1, .v (.int .i64 ((totB (wrL l x.1) : Nat) : Int))]), .abs (ChR 125 (wrL l x.1)), .blk 132 (.c [.v (.slice x.2.1.A x.2.1.l.length x.2.1.c), .v (.bool x.2.1.bad)]), .abs (fctRep Fs), .own 5 (.u8 (allB (wrL l x.1)))]⟩)
      (fun x => x.1 ≤ l.length ∧ x.2.1.From A1 (b.map vU8) ∧ pOk b x.2.2 ∧ x.2.1.rs = pS b x.2.2) (fun x => l.length - x.1) (0, ⟨A1, c1, b, false⟩, some 0) [0, 3, 1, 4, 5] ⟨Nat.zero_le _, RS.From.start hc1 (by omega), Nat.zero_le _, rfl⟩ ?_ ?_
    · have e0 : wrL l 0 = [] := by unfold wrL; rfl
      have e1 : totB [] = 0 := by unfold totB; rfl
      have e2 : allB [] = [] := by unfold allB; rfl
      have e3 : pI (some 0) = 0 := rfl
      simp (config := { maxSteps := 1000000 }) only [e0, e1, e2, e3, push_cast, ↓Int.toNat_natCast, ↓Int.cast_ofNat_Int, Int.cast_ofNat_Int, ↓reduceIte, reduceCtorEq, Nat.reduceEqDiff, Nat.reduceLT, Nat.reduceLeDiff, Nat.reduceAdd, Nat.reduceSub, Nat.reduceMul, Int.reduceNeg, Int.reduceLE, Int.reduceLT, Int.reduceToNat, Int.reduceAdd, Int.reduceSub, Int.reduceMul, Int.reduceEq]
      done
    rintro ⟨i, r, p⟩ ⟨hi, Fr, hp, er⟩
    dsimp only at hi Fr hp er
    by_cases hlt : (i : Int) < l.length
    · have hil : i < l.length := by omega
      have i0 : (0 : Int) ≤ i := by omega
      obtain ⟨w1, w2⟩ := F.whole i hil
      have hA := F.some_ (by omega)
      have fm := ix_mem hil
      have e1 := wrL_succ hil
      have e2 := totB_cons (putF (ix l i).fd) (wrL l i)
      have e3 := allB_cons (putF (ix l i).fd) (wrL l i)
      have ht := wrL_tot hpm i (by omega)
      have ha := allB_length (wrL l i)
      have hp7 := hpm _ fm
      have hsm3 := hsm2 _ fm
      obtain ⟨s1, s2, s3⟩ := hsm2 _ fm
      have fok := hok _ fm
      have fl := fdA_len fok.s
      have fb := fun n => fdA_bnd (ix l i) n
      simp only [At.bnd] at fb
      generalize ix l i = f at *
      have rb := fun (t : RS) (j m : Nat) (h : j < m) => rdA_bnd f t h
      simp only [At.bnd] at rb
      have cb := fun (t : RS) (m : Nat) => rdC_bnd f t m
      simp only [Cont.bnd, At.bnd] at cb
      have tb := fun (j m : Nat) (h : j < m) => tkA_bnd b Ab c0 f p h
      simp only [At.bnd] at tb
      have ub := fun (m : Nat) => tkC_bnd b f p m
      simp only [Cont.bnd, At.bnd] at ub
      have hq := takeQ_ok b f.fd p hp
      have er2 : (rdN f r).rs = pS b (takeQ b f.fd p) := by rw [rdN_rs, er, takeQ_R b f.fd p hp]
      simp (config := { maxSteps := 1000000 }) only [pAdd_add, pAdd_isSome, hlt, i0, w1, w2, fb, fl, hA, ↓fdA_cbnd, ↓fdA_sbnd, ↓fdA_vbnd, ↓fdA_cont, ↓fdA_cren, ↓fdA_sren, ↓fdA_vren, undef, push_cast, ↓Int.toNat_natCast, ↓Int.cast_ofNat_Int, Int.cast_ofNat_Int, ↓reduceIte, reduceCtorEq, Nat.reduceEqDiff, Nat.reduceLT, Nat.reduceLeDiff, Nat.reduceAdd, Nat.reduceSub, Nat.reduceMul, Int.reduceNeg, Int.reduceLE, Int.reduceLT, Int.reduceToNat, Int.reduceAdd, Int.reduceSub, Int.reduceMul, Int.reduceEq]
      (repeat (refine And.intro (by first | omega | decide) ?_))
      refine callG_rule rfl cb9 rfl (write13K (k0 := 0) (k1 := 1) (n := totB (wrL l i)) (r := wrL l i) (f := f) (by omega) (by decide) (by simp only [push_cast, ↓Int.toNat_natCast, ↓Int.cast_ofNat_Int, Int.cast_ofNat_Int, ↓reduceIte, reduceCtorEq, Nat.reduceEqDiff, Nat.reduceLT, Nat.reduceLeDiff, Nat.reduceAdd, Nat.reduceSub, Nat.reduceMul, Int.reduceNeg, Int.reduceLE, Int.reduceLT, Int.reduceToNat, Int.reduceAdd, Int.reduceSub, Int.reduceMul, Int.reduceEq]) rfl rfl fok (by omega) (by omega) (by omega)) (dOk_lt rfl) (fun _ => by simp only [fb, ↓fdA_cbnd, ↓fdA_sbnd, ↓fdA_vbnd, ↓fdA_cont, ↓fdA_cren, ↓fdA_sren, ↓fdA_vren, push_cast, ↓Int.toNat_natCast, ↓Int.cast_ofNat_Int, Int.cast_ofNat_Int, ↓reduceIte, reduceCtorEq, Nat.reduceEqDiff, Nat.reduceLT, Nat.reduceLeDiff, Nat.reduceAdd, Nat.reduceSub, Nat.reduceMul, Int.reduceNeg, Int.reduceLE, Int.reduceLT, Int.reduceToNat, Int.reduceAdd, Int.reduceSub, Int.reduceMul, Int.reduceEq]) ?_
      simp (config := { maxSteps := 1000000 }) only [pAdd_add, pAdd_isSome, hlt, i0, w1, w2, fb, fl, hA, ↓fdA_cbnd, ↓fdA_sbnd, ↓fdA_vbnd, ↓fdA_cont, ↓fdA_cren, ↓fdA_sren, ↓fdA_vren, undef, push_cast, ↓Int.toNat_natCast, ↓Int.cast_ofNat_Int, Int.cast_ofNat_Int, ↓reduceIte, reduceCtorEq, Nat.reduceEqDiff, Nat.reduceLT, Nat.reduceLeDiff, Nat.reduceAdd, Nat.reduceSub, Nat.reduceMul, Int.reduceNeg, Int.reduceLE, Int.reduceLT, Int.reduceToNat, Int.reduceAdd, Int.reduceSub, Int.reduceMul, Int.reduceEq]
      (repeat (refine And.intro (by first | omega | decide) ?_))
      refine callG_rule rfl cb21 rfl (refPut13K (f := f) rfl (by omega) (by simp only [push_cast, ↓Int.toNat_natCast, ↓Int.cast_ofNat_Int, Int.cast_ofNat_Int, ↓reduceIte, reduceCtorEq, Nat.reduceEqDiff, Nat.reduceLT, Nat.reduceLeDiff, Nat.reduceAdd, Nat.reduceSub, Nat.reduceMul, Int.reduceNeg, Int.reduceLE, Int.reduceLT, Int.reduceToNat, Int.reduceAdd, Int.reduceSub, Int.reduceMul, Int.reduceEq]) fok hsm3) (dOk_lt rfl) (fun _ => by simp only [fb, ↓fdA_cbnd, ↓fdA_sbnd, ↓fdA_vbnd, ↓fdA_cont, ↓fdA_cren, ↓fdA_sren, ↓fdA_vren, push_cast, ↓Int.toNat_natCast, ↓Int.cast_ofNat_Int, Int.cast_ofNat_Int, ↓reduceIte, reduceCtorEq, Nat.reduceEqDiff, Nat.reduceLT, Nat.reduceLeDiff, Nat.reduceAdd, Nat.reduceSub, Nat.reduceMul, Int.reduceNeg, Int.reduceLE, Int.reduceLT, Int.reduceToNat, Int.reduceAdd, Int.reduceSub, Int.reduceMul, Int.reduceEq]) ?_
      simp (config := { maxSteps := 1000000 }) only [pAdd_add, pAdd_isSome, hlt, i0, w1, w2, fb, fl, hA, ↓fdA_cbnd, ↓fdA_sbnd, ↓fdA_vbnd, ↓fdA_cont, ↓fdA_cren, ↓fdA_sren, ↓fdA_vren, undef, push_cast, ↓Int.toNat_natCast, ↓Int.cast_ofNat_Int, Int.cast_ofNat_Int, ↓reduceIte, reduceCtorEq, Nat.reduceEqDiff, Nat.reduceLT, Nat.reduceLeDiff, Nat.reduceAdd, Nat.reduceSub, Nat.reduceMul, Int.reduceNeg, Int.reduceLE, Int.reduceLT, Int.reduceToNat, Int.reduceAdd, Int.reduceSub, Int.reduceMul, Int.reduceEq]
      (repeat (refine And.intro (by first | omega | decide) ?_))
      refine callG_rule rfl cb22 rfl (takeK b Ab c0 p f (by simp only [push_cast, ↓Int.toNat_natCast, ↓Int.cast_ofNat_Int, Int.cast_ofNat_Int, ↓reduceIte, reduceCtorEq, Nat.reduceEqDiff, Nat.reduceLT, Nat.reduceLeDiff, Nat.reduceAdd, Nat.reduceSub, Nat.reduceMul, Int.reduceNeg, Int.reduceLE, Int.reduceLT, Int.reduceToNat, Int.reduceAdd, Int.reduceSub, Int.reduceMul, Int.reduceEq]) hp (by omega) hbc hb fok) (dOk_lt rfl) (fun _ => by simp only [fb, ↓fdA_cbnd, ↓fdA_sbnd, ↓fdA_vbnd, ↓fdA_cont, ↓fdA_cren, ↓fdA_sren, ↓fdA_vren, push_cast, ↓Int.toNat_natCast, ↓Int.cast_ofNat_Int, Int.cast_ofNat_Int, ↓reduceIte, reduceCtorEq, Nat.reduceEqDiff, Nat.reduceLT, Nat.reduceLeDiff, Nat.reduceAdd, Nat.reduceSub, Nat.reduceMul, Int.reduceNeg, Int.reduceLE, Int.reduceLT, Int.reduceToNat, Int.reduceAdd, Int.reduceSub, Int.reduceMul, Int.reduceEq]) ?_
      have tl := tkA_len b Ab c0 f p
      simp (config := { maxSteps := 1000000 }) only [pAdd_add, pAdd_isSome, hlt, i0, w1, w2, fb, fl, rb, cb, tb, ub, hA, ↓rdC_ren, ↓rdC_bnd, ↓rdA_vren, ↓rdA_sren, ↓tkC_ren, ↓tkC_bnd, ↓tkA_vren, ↓tkA_sren, tkA_ren, rdA_ren, ↓fdA_cbnd, ↓fdA_sbnd, ↓fdA_vbnd, ↓fdA_cont, ↓fdA_cren, ↓fdA_sren, ↓fdA_vren, tl, zeroArr, zokFd, undef, push_cast, ↓Int.toNat_natCast, ↓Int.cast_ofNat_Int, Int.cast_ofNat_Int, ↓reduceIte, reduceCtorEq, Nat.reduceEqDiff, Nat.reduceLT, Nat.reduceLeDiff, Nat.reduceAdd, Nat.reduceSub, Nat.reduceMul, Int.reduceNeg, Int.reduceLE, Int.reduceLT, Int.reduceToNat, Int.reduceAdd, Int.reduceSub, Int.reduceMul, Int.reduceEq]
      (repeat (refine And.intro (by first | omega | decide) ?_))
      refine ⟨tkA_v b Ab c0 f p 8 (fun v hv => hv) rfl, ?_⟩
      refine draw_keep [0, 1, 7, 8, 9, 10, 11, 12, 108, 109, 110, 111, 112, 113, 125, 126, 127, 128, 129, 130, 131] ?_
      simp (config := { maxSteps := 1000000 }) only [push_cast, ↓Int.toNat_natCast, ↓Int.cast_ofNat_Int, Int.cast_ofNat_Int, ↓reduceIte, reduceCtorEq, Nat.reduceEqDiff, Nat.reduceLT, Nat.reduceLeDiff, Nat.reduceAdd, Nat.reduceSub, Nat.reduceMul, Int.reduceNeg, Int.reduceLE, Int.reduceLT, Int.reduceToNat, Int.reduceAdd, Int.reduceSub, Int.reduceMul, Int.reduceEq]
      refine drawK_rule [2] [(0, true), (1, true), (2, true), (3, true), (4, true), (6, true), (5, false), (7, false), (8, true), (9, true), (10, true), (13, true), (14, true), (11, false), (12, true), (15, true), (16, true)] (by kernel_rfl) (by kernel_rfl) rfl (by kernel_rfl) ?_
      simp (config := { maxSteps := 1000000 }) only [pAdd_add, pAdd_isSome, hlt, i0, w1, w2, fb, fl, rb, cb, tb, ub, hA, ↓rdC_ren, ↓rdC_bnd, ↓rdA_vren, ↓rdA_sren, ↓tkC_ren, ↓tkC_bnd, ↓tkA_vren, ↓tkA_sren, tkA_ren, rdA_ren, ↓fdA_cbnd, ↓fdA_sbnd, ↓fdA_vbnd, ↓fdA_cont, ↓fdA_cren, ↓fdA_sren, ↓fdA_vren, tl, undef, push_cast, ↓Int.toNat_natCast, ↓Int.cast_ofNat_Int, Int.cast_ofNat_Int, ↓reduceIte, reduceCtorEq, Nat.reduceEqDiff, Nat.reduceLT, Nat.reduceLeDiff, Nat.reduceAdd, Nat.reduceSub, Nat.reduceMul, Int.reduceNeg, Int.reduceLE, Int.reduceLT, Int.reduceToNat, Int.reduceAdd, Int.reduceSub, Int.reduceMul, Int.reduceEq]
      (repeat (refine And.intro (by first | omega | decide) ?_))
      refine callK_rule rfl cb24 rfl (read13K (k0 := 2) (s := r) (f := f) (by simp (config := { maxSteps := 1000000 }) only [pAdd_add, pAdd_isSome, hlt, i0, w1, w2, fb, fl, rb, cb, tb, ub, hA, ↓rdC_ren, ↓rdC_bnd, ↓rdA_vren, ↓rdA_sren, ↓tkC_ren, ↓tkC_bnd, ↓tkA_vren, ↓tkA_sren, tkA_ren, rdA_ren, ↓fdA_cbnd, ↓fdA_sbnd, ↓fdA_vbnd, ↓fdA_cont, ↓fdA_cren, ↓fdA_sren, ↓fdA_vren, push_cast, ↓Int.toNat_natCast, ↓Int.cast_ofNat_Int, Int.cast_ofNat_Int, ↓reduceIte, reduceCtorEq, Nat.reduceEqDiff, Nat.reduceLT, Nat.reduceLeDiff, Nat.reduceAdd, Nat.reduceSub, Nat.reduceMul, Int.reduceNeg, Int.reduceLE, Int.reduceLT, Int.reduceToNat, Int.reduceAdd, Int.reduceSub, Int.reduceMul, Int.reduceEq]) rfl fok (Fr.far (k := 3) rfl m1 (by decide))) (dOk_lt rfl) (fun _ => by simp (config := { maxSteps := 1000000 }) only [pAdd_add, pAdd_isSome, hlt, i0, w1, w2, fb, fl, rb, cb, tb, ub, hA, ↓rdC_ren, ↓rdC_bnd, ↓rdA_vren, ↓rdA_sren, ↓tkC_ren, ↓tkC_bnd, ↓tkA_vren, ↓tkA_sren, tkA_ren, rdA_ren, ↓fdA_cbnd, ↓fdA_sbnd, ↓fdA_vbnd, ↓fdA_cont, ↓fdA_cren, ↓fdA_sren, ↓fdA_vren, push_cast, ↓Int.toNat_natCast, ↓Int.cast_ofNat_Int, Int.cast_ofNat_Int, ↓reduceIte, reduceCtorEq, Nat.reduceEqDiff, Nat.reduceLT, Nat.reduceLeDiff, Nat.reduceAdd, Nat.reduceSub, Nat.reduceMul, Int.reduceNeg, Int.reduceLE, Int.reduceLT, Int.reduceToNat, Int.reduceAdd, Int.reduceSub, Int.reduceMul, Int.reduceEq]) (by simp (config := { maxSteps := 1000000 }) only [pAdd_add, pAdd_isSome, hlt, i0, w1, w2, fb, fl, rb, cb, tb, ub, hA, ↓rdC_ren, ↓rdC_bnd, ↓rdA_vren, ↓rdA_sren, ↓tkC_ren, ↓tkC_bnd, ↓tkA_vren, ↓tkA_sren, tkA_ren, rdA_ren, ↓fdA_cbnd, ↓fdA_sbnd, ↓fdA_vbnd, ↓fdA_cont, ↓fdA_cren, ↓fdA_sren, ↓fdA_vren, push_cast, ↓Int.toNat_natCast, ↓Int.cast_ofNat_Int, Int.cast_ofNat_Int, ↓reduceIte, reduceCtorEq, Nat.reduceEqDiff, Nat.reduceLT, Nat.reduceLeDiff, Nat.reduceAdd, Nat.reduceSub, Nat.reduceMul, Int.reduceNeg, Int.reduceLE, Int.reduceLT, Int.reduceToNat, Int.reduceAdd, Int.reduceSub, Int.reduceMul, Int.reduceEq]) ?_
      simp (config := { maxSteps := 1000000 }) only [pAdd_add, pAdd_isSome, hlt, i0, w1, w2, fb, fl, rb, cb, tb, ub, hA, ↓rdC_ren, ↓rdC_bnd, ↓rdA_vren, ↓rdA_sren, ↓tkC_ren, ↓tkC_bnd, ↓tkA_vren, ↓tkA_sren, tkA_ren, rdA_ren, ↓fdA_cbnd, ↓fdA_sbnd, ↓fdA_vbnd, ↓fdA_cont, ↓fdA_cren, ↓fdA_sren, ↓fdA_vren, tl, undef, push_cast, ↓Int.toNat_natCast, ↓Int.cast_ofNat_Int, Int.cast_ofNat_Int, ↓reduceIte, reduceCtorEq, Nat.reduceEqDiff, Nat.reduceLT, Nat.reduceLeDiff, Nat.reduceAdd, Nat.reduceSub, Nat.reduceMul, Int.reduceNeg, Int.reduceLE, Int.reduceLT, Int.reduceToNat, Int.reduceAdd, Int.reduceSub, Int.reduceMul, Int.reduceEq]
      (repeat (refine And.intro (by first | omega | decide) ?_))
      have tlen := takeF_len (f := f.fd) hp (by omega)
      have sameK : ∀ hp', hp'[11]? = some (.own (rdT f) (rdC f r)) → hp'[8]? = some (.own (rdT f) (tkC b f p)) → CallOK Tryd.prog w No 23 [.x (.g (rdA f r 11)), .x (.g (tkA b Ab c0 f p 8))] hp' (.x (.a (.v (.bool true)))) hp' := fun hp' h1 h2 => by
        have t1 := showsFd_read (w0 := w) h1
        have t2 := showsFd_take (A := Ab) (c := c0) hp hbc hb h2
        rw [er] at t1
        have := same13K t1 t2 tlen.1 tlen.2
        rwa [sameF_refl] at this
      refine callK_v rfl cb23 rfl (sameK _ rfl rfl) (dOk_lt rfl) ?_
      simp (config := { maxSteps := 1000000 }) only [pAdd_add, pAdd_isSome, hlt, i0, w1, w2, fb, fl, rb, cb, tb, ub, hA, ↓rdC_ren, ↓rdC_bnd, ↓rdA_vren, ↓rdA_sren, ↓tkC_ren, ↓tkC_bnd, ↓tkA_vren, ↓tkA_sren, tkA_ren, rdA_ren, ↓fdA_cbnd, ↓fdA_sbnd, ↓fdA_vbnd, ↓fdA_cont, ↓fdA_cren, ↓fdA_sren, ↓fdA_vren, tl, undef, push_cast, ↓Int.toNat_natCast, ↓Int.cast_ofNat_Int, Int.cast_ofNat_Int, ↓reduceIte, reduceCtorEq, Nat.reduceEqDiff, Nat.reduceLT, Nat.reduceLeDiff, Nat.reduceAdd, Nat.reduceSub, Nat.reduceMul, Int.reduceNeg, Int.reduceLE, Int.reduceLT, Int.reduceToNat, Int.reduceAdd, Int.reduceSub, Int.reduceMul, Int.reduceEq]
      (repeat (refine And.intro (by first | omega | decide) ?_))
      have e4 : ((totB (putF f.fd :: wrL l i) : Nat) : Int) = (totB (wrL l i) : Int) + ((putF f.fd).length : Int) := by rw [e2]; omega
      have allKK : ∀ hp' : List Res, hp'[0]? = some (.blk 47 (.c [.o 6, .v (.int .i64 ((totB (wrL l i) : Int) + ((putF f.fd).length : Int)))])) → hp'[6]? = some (.abs (ChR 125 (putF f.fd :: wrL l i))) → (∀ r ∈ hp', Res.bnd hp'.length r) → CallOK Tryd.prog w No 10 [.x (.a (.p 0 0))] hp' (.x (.a (.o hp'.length))) (hp' ++ [.own 5 (.u8 (allB (wrL l i) ++ putF f.fd))]) := fun hp' h1 h2 hbr => by
        have := allK (w0 := w) (ow := No) (hp := hp') (k0 := 0) (k1 := 6) (r := putF f.fd :: wrL l i) (by rw [e2]; omega) hbr (by rw [h1, e4]; rfl) h2
        rwa [e3] at this
      refine callK_rule rfl cb10 rfl (allKK _ rfl rfl (by simp (config := { maxSteps := 1000000 }) only [pAdd_add, pAdd_isSome, hlt, i0, w1, w2, fb, fl, rb, cb, tb, ub, hA, ↓rdC_ren, ↓rdC_bnd, ↓rdA_vren, ↓rdA_sren, ↓tkC_ren, ↓tkC_bnd, ↓tkA_vren, ↓tkA_sren, tkA_ren, rdA_ren, ↓fdA_cbnd, ↓fdA_sbnd, ↓fdA_vbnd, ↓fdA_cont, ↓fdA_cren, ↓fdA_sren, ↓fdA_vren, tl, push_cast, ↓Int.toNat_natCast, ↓Int.cast_ofNat_Int, Int.cast_ofNat_Int, ↓reduceIte, reduceCtorEq, Nat.reduceEqDiff, Nat.reduceLT, Nat.reduceLeDiff, Nat.reduceAdd, Nat.reduceSub, Nat.reduceMul, Int.reduceNeg, Int.reduceLE, Int.reduceLT, Int.reduceToNat, Int.reduceAdd, Int.reduceSub, Int.reduceMul, Int.reduceEq])) (dOk_lt rfl) (fun _ => by simp (config := { maxSteps := 1000000 }) only [pAdd_add, pAdd_isSome, hlt, i0, w1, w2, fb, fl, rb, cb, tb, ub, hA, ↓rdC_ren, ↓rdC_bnd, ↓rdA_vren, ↓rdA_sren, ↓tkC_ren, ↓tkC_bnd, ↓tkA_vren, ↓tkA_sren, tkA_ren, rdA_ren, ↓fdA_cbnd, ↓fdA_sbnd, ↓fdA_vbnd, ↓fdA_cont, ↓fdA_cren, ↓fdA_sren, ↓fdA_vren, tl, push_cast, ↓Int.toNat_natCast, ↓Int.cast_ofNat_Int, Int.cast_ofNat_Int, ↓reduceIte, reduceCtorEq, Nat.reduceEqDiff, Nat.reduceLT, Nat.reduceLeDiff, Nat.reduceAdd, Nat.reduceSub, Nat.reduceMul, Int.reduceNeg, Int.reduceLE, Int.reduceLT, Int.reduceToNat, Int.reduceAdd, Int.reduceSub, Int.reduceMul, Int.reduceEq]) (by simp (config := { maxSteps := 1000000 }) only [pAdd_add, pAdd_isSome, hlt, i0, w1, w2, fb, fl, rb, cb, tb, ub, hA, ↓rdC_ren, ↓rdC_bnd, ↓rdA_vren, ↓rdA_sren, ↓tkC_ren, ↓tkC_bnd, ↓tkA_vren, ↓tkA_sren, tkA_ren, rdA_ren, ↓fdA_cbnd, ↓fdA_sbnd, ↓fdA_vbnd, ↓fdA_cont, ↓fdA_cren, ↓fdA_sren, ↓fdA_vren, push_cast, ↓Int.toNat_natCast, ↓Int.cast_ofNat_Int, Int.cast_ofNat_Int, ↓reduceIte, reduceCtorEq, Nat.reduceEqDiff, Nat.reduceLT, Nat.reduceLeDiff, Nat.reduceAdd, Nat.reduceSub, Nat.reduceMul, Int.reduceNeg, Int.reduceLE, Int.reduceLT, Int.reduceToNat, Int.reduceAdd, Int.reduceSub, Int.reduceMul, Int.reduceEq]) ?_
      simp (config := { maxSteps := 1000000 }) only [pAdd_add, pAdd_isSome, hlt, i0, w1, w2, fb, fl, rb, cb, tb, ub, hA, ↓rdC_ren, ↓rdC_bnd, ↓rdA_vren, ↓rdA_sren, ↓tkC_ren, ↓tkC_bnd, ↓tkA_vren, ↓tkA_sren, tkA_ren, rdA_ren, ↓fdA_cbnd, ↓fdA_sbnd, ↓fdA_vbnd, ↓fdA_cont, ↓fdA_cren, ↓fdA_sren, ↓fdA_vren, tl, undef, push_cast, ↓Int.toNat_natCast, ↓Int.cast_ofNat_Int, Int.cast_ofNat_Int, ↓reduceIte, reduceCtorEq, Nat.reduceEqDiff, Nat.reduceLT, Nat.reduceLeDiff, Nat.reduceAdd, Nat.reduceSub, Nat.reduceMul, Int.reduceNeg, Int.reduceLE, Int.reduceLT, Int.reduceToNat, Int.reduceAdd, Int.reduceSub, Int.reduceMul, Int.reduceEq]
      (repeat (refine And.intro (by first | omega | decide) ?_))
      refine call_keep [0, 1, 7, 8, 9, 10, 11, 108, 109, 110, 111, 112, 113, 115, 125, 126, 127, 128, 129, 130, 131] ?_
      simp (config := { maxSteps := 1000000 }) only [push_cast, ↓Int.toNat_natCast, ↓Int.cast_ofNat_Int, Int.cast_ofNat_Int, ↓reduceIte, reduceCtorEq, Nat.reduceEqDiff, Nat.reduceLT, Nat.reduceLeDiff, Nat.reduceAdd, Nat.reduceSub, Nat.reduceMul, Int.reduceNeg, Int.reduceLE, Int.reduceLT, Int.reduceToNat, Int.reduceAdd, Int.reduceSub, Int.reduceMul, Int.reduceEq]
      have Fr2 := Fr.read f
      generalize rdN f r = r2 at *
      generalize takeQ b f.fd p = q at *
      have l2 : r2.l = (pS b q).1 := congrArg Prod.fst er2
      have b2 : r2.bad = (pS b q).2 := congrArg Prod.snd er2
      have ll : r2.l.length ≤ 10000000 := by
        rw [l2]
        cases q with
        | none => exact Nat.zero_le _
        | some n => show (b.drop n).length ≤ _; rw [List.length_drop]; omega
      have nxt : (⟨i + 1, r2, q⟩ : Nat × RS × Plc).1 ≤ l.length ∧ r2.From A1 (b.map vU8) ∧ pOk b q ∧ r2.rs = pS b q := ⟨by show i + 1 ≤ l.length; omega, Fr2, hq, er2⟩
      have DK : ∀ (hp : List Res), bview hp[2]? = some (132, (.c [.v (.slice r2.A r2.l.length r2.c), .v (.bool r2.bad)])) → CallOK Tryd.prog w No 17 [.x (.a (.p 2 0))] hp (.x (.a (.v (if r2.bad = false ∧ r2.l = [] then .nilIface else .iface 137 (.int .i64 3))))) hp := fun hp h => doneK (w0 := w) (ow := No) (hp := hp) (k0 := 2) (s := r2) ll h
      by_cases hq0 : q = some b.length
      · have hd : r2.bad = false ∧ r2.l = [] := by rw [b2, l2, hq0]; exact ⟨rfl, by show b.drop b.length = []; exact List.drop_length⟩
        rw [if_pos hd] at DK
        have e9 : pI q = (b.length : Int) := by rw [hq0]; rfl
        refine callG_v rfl cb17 rfl (DK _ rfl) (dOk_lt rfl) ?_
        simp (config := { maxSteps := 1000000 }) only [e9, undef, push_cast, ↓Int.toNat_natCast, ↓Int.cast_ofNat_Int, Int.cast_ofNat_Int, ↓reduceIte, reduceCtorEq, Nat.reduceEqDiff, Nat.reduceLT, Nat.reduceLeDiff, Nat.reduceAdd, Nat.reduceSub, Nat.reduceMul, Int.reduceNeg, Int.reduceLE, Int.reduceLT, Int.reduceToNat, Int.reduceAdd, Int.reduceSub, Int.reduceMul, Int.reduceEq]
        (repeat (refine And.intro (by first | omega | decide) ?_))
        refine loopK_normal (i + 1, r2, q) [0, 6, 2, 3, 7] nxt (by show l.length - (i + 1) < l.length - i; omega) ?_
        simp (config := { maxSteps := 1000000 }) only [e1, e2, e3, e9, Int.add_comm, push_cast, ↓Int.toNat_natCast, ↓Int.cast_ofNat_Int, Int.cast_ofNat_Int, ↓reduceIte, reduceCtorEq, Nat.reduceEqDiff, Nat.reduceLT, Nat.reduceLeDiff, Nat.reduceAdd, Nat.reduceSub, Nat.reduceMul, Int.reduceNeg, Int.reduceLE, Int.reduceLT, Int.reduceToNat, Int.reduceAdd, Int.reduceSub, Int.reduceMul, Int.reduceEq]
        done
      · have hd : ¬ (r2.bad = false ∧ r2.l = []) := by
          rw [b2, l2]
          rintro ⟨h1, h2⟩
          cases q with
          | none => cases h1
          | some n =>
            have h2 : b.drop n = [] := h2
            have h3 : n ≤ b.length := hq
            have := congrArg List.length h2
            rw [List.length_drop, List.length_nil] at this
            exact hq0 (congrArg some (by omega))
        rw [if_neg hd] at DK
        have e9 : (pI q = (b.length : Int)) = False := eq_false fun h => by
          cases q with
          | none => have h : (-1 : Int) = b.length := h; omega
          | some n => exact hq0 (congrArg some (Int.ofNat_inj.1 h))
        refine callG_v rfl cb17 rfl (DK _ rfl) (dOk_lt rfl) ?_
        simp (config := { maxSteps := 1000000 }) only [e9, undef, push_cast, ↓Int.toNat_natCast, ↓Int.cast_ofNat_Int, Int.cast_ofNat_Int, ↓reduceIte, reduceCtorEq, Nat.reduceEqDiff, Nat.reduceLT, Nat.reduceLeDiff, Nat.reduceAdd, Nat.reduceSub, Nat.reduceMul, Int.reduceNeg, Int.reduceLE, Int.reduceLT, Int.reduceToNat, Int.reduceAdd, Int.reduceSub, Int.reduceMul, Int.reduceEq]
        (repeat (refine And.intro (by first | omega | decide) ?_))
        refine callG_v rfl cb16 rfl (nmOK13 3 hg) (dOk_lt rfl) ?_
        simp (config := { maxSteps := 1000000 }) only [e9, undef, push_cast, ↓Int.toNat_natCast, ↓Int.cast_ofNat_Int, Int.cast_ofNat_Int, ↓reduceIte, reduceCtorEq, Nat.reduceEqDiff, Nat.reduceLT, Nat.reduceLeDiff, Nat.reduceAdd, Nat.reduceSub, Nat.reduceMul, Int.reduceNeg, Int.reduceLE, Int.reduceLT, Int.reduceToNat, Int.reduceAdd, Int.reduceSub, Int.reduceMul, Int.reduceEq]
        (repeat (refine And.intro (by first | omega | decide) ?_))
        refine loopK_normal (i + 1, r2, q) [0, 6, 2, 3, 7] nxt (by show l.length - (i + 1) < l.length - i; omega) ?_
        simp (config := { maxSteps := 1000000 }) only [e1, e2, e3, Int.add_comm, push_cast, ↓Int.toNat_natCast, ↓Int.cast_ofNat_Int, Int.cast_ofNat_Int, ↓reduceIte, reduceCtorEq, Nat.reduceEqDiff, Nat.reduceLT, Nat.reduceLeDiff, Nat.reduceAdd, Nat.reduceSub, Nat.reduceMul, Int.reduceNeg, Int.reduceLE, Int.reduceLT, Int.reduceToNat, Int.reduceAdd, Int.reduceSub, Int.reduceMul, Int.reduceEq]
        done
    · have hil : i = l.length := by omega
      simp (config := { maxSteps := 1000000 }) only [hlt, undef, push_cast, ↓Int.toNat_natCast, ↓Int.cast_ofNat_Int, Int.cast_ofNat_Int, ↓reduceIte, reduceCtorEq, Nat.reduceEqDiff, Nat.reduceLT, Nat.reduceLeDiff, Nat.reduceAdd, Nat.reduceSub, Nat.reduceMul, Int.reduceNeg, Int.reduceLE, Int.reduceLT, Int.reduceToNat, Int.reduceAdd, Int.reduceSub, Int.reduceMul, Int.reduceEq]
      (repeat (refine And.intro (by first | omega | decide) ?_))
      refine callG_v rfl cb19 rfl (sure13K hg) (dOk_lt rfl) ?_
      simp (config := { maxSteps := 1000000 }) only [undef, push_cast, ↓Int.toNat_natCast, ↓Int.cast_ofNat_Int, Int.cast_ofNat_Int, ↓reduceIte, reduceCtorEq, Nat.reduceEqDiff, Nat.reduceLT, Nat.reduceLeDiff, Nat.reduceAdd, Nat.reduceSub, Nat.reduceMul, Int.reduceNeg, Int.reduceLE, Int.reduceLT, Int.reduceToNat, Int.reduceAdd, Int.reduceSub, Int.reduceMul, Int.reduceEq]
      done
end Go.Proofs.YtiaeollemmkclaaDoor
