/- Curves through points, as the program goes through them (poly: check, places, Weights, Through, Line; fp.Inv, Div). -/
import Derived.Test.YteiifdpikcnbgaaDoorSm0
import Derived.Test.YteiifdpikcnbgaaDoorFlt
import Derived.Test.YteiifdpikcnbgaaDoorRd
namespace Go.Proofs.YteiifdpikcnbgaaDoor
open Go.RowKit
set_option linter.unusedSimpArgs false
set_option linter.unusedVariables false
/-! ### Shares as rows of two cells -/
def shv (p : Sh) : List Value := [vU64 p.1, vU64 p.2]
theorem shv_len (p : Sh) : (shv p).length = 2 := rfl
def shs (l : List Sh) : List Value := l.flatMap shv
theorem shs_len (l : List Sh) : (shs l).length = l.length * 2 := flat_len shv_len l
structure FS2 (w0 : World) (A : Option Addr) (l : List Sh) : Prop where
  some_ : 0 < l.length → A.isSome = true
  c0 : ∀ i, i < l.length → cellOf w0 (pAdd A (i * 2)) = vU64 (ix l i).1
  c1 : ∀ i, i < l.length → cellOf w0 (pAdd A (i * 2 + 1)) = vU64 (ix l i).2
  ok0 : ∀ i, i < l.length → rawOk w0 No (pAdd A (i * 2))
  ok1 : ∀ i, i < l.length → rawOk w0 No (pAdd A (i * 2 + 1))
theorem FS2.of {w0 : World} {A : Option Addr} {l : List Sh} (hR : RdV w0 w0.heap.size A (shs l)) : FS2 w0 A l := by
  have h := FV.no hR
  have g0 : ∀ i, i < l.length → (shs l)[i * 2]? = some (vU64 (ix l i).1) := fun i hi => flat_get shv_len l i 0 hi (by omega)
  have g1 : ∀ i, i < l.length → (shs l)[i * 2 + 1]? = some (vU64 (ix l i).2) := fun i hi => flat_get shv_len l i 1 hi (by omega)
  exact ⟨fun hp => h.some_ (by rw [shs_len]; omega), fun i hi => (h.cell (g0 i hi)).1, fun i hi => (h.cell (g1 i hi)).1, fun i hi => (h.cell (g0 i hi)).2, fun i hi => (h.cell (g1 i hi)).2⟩
def shc (l : List Sh) : List At := l.flatMap fun p => [.v (vU64 p.1), .v (vU64 p.2)]
theorem shc_vals (γ : List Nm) (l : List Sh) : (shc l).map (At.val γ) = shs l := by
  unfold shc shs
  induction l with
  | nil => rfl
  | cons p l ih => rw [List.flatMap_cons, List.flatMap_cons, List.map_append, ih]; rfl
def arg1 : Value := .iface 121 (.int .i64 1)
def errN (n : Int) : Value := .iface 121 (.int .i64 n)
attribute [local irreducible] Callable CallOK CallG CallM DrawG LoopG symR symM
/-! ### Inverses, quotients -/
section
variable {w0 : World} {hp : List Res}
def invE (a : UInt64) : Value := if a % fpP = 0 then errN 1 else .nilIface
def invU (a : UInt64) : UInt64 := if a % fpP = 0 then 0 else powU a 2305843009213693949
set_option maxRecDepth 100000 in
theorem fpInv_any (a : UInt64) (w : World) : Calls Tryd.prog 147 #[vU64 a] w fun e w' => e = .returned (.tuple #[vU64 (invU a), invE a]) ∧ Below w.heap.size w w' := by
  refine calls_v Tryd.func147 rfl Tryd.ntmps147 [.x (.a (.v (vU64 a)))] (by simp) (.t [.a (.v (vU64 (invU a))), .a (.v (invE a))]) (fun _ => rfl) ?_
  simp (config := { maxSteps := 1000000 }) only [undef, push_cast, ↓Int.toNat_natCast, ↓Int.cast_ofNat_Int, Int.cast_ofNat_Int, ↓reduceIte, reduceCtorEq, Nat.reduceEqDiff, Nat.reduceLT, Nat.reduceLeDiff, Nat.reduceAdd, Nat.reduceSub, Nat.reduceMul, Int.reduceNeg, Int.reduceLE, Int.reduceLT, Int.reduceToNat, Int.reduceAdd, Int.reduceSub, Int.reduceMul, Int.reduceEq]
  refine callG_v rfl cb101 rfl (fpOfK a) (dOk_lt rfl) ?_
  by_cases h : a % fpP = 0
  · have e1 : vU64 (invU a) = .int .u64 0 := by unfold invU; rw [if_pos h]; rfl
    have e2 : invE a = errN 1 := if_pos h
    simp (config := { maxSteps := 1000000 }) only [h, e1, e2, errN, undef, push_cast, ↓Int.toNat_natCast, ↓Int.cast_ofNat_Int, Int.cast_ofNat_Int, ↓reduceIte, reduceCtorEq, Nat.reduceEqDiff, Nat.reduceLT, Nat.reduceLeDiff, Nat.reduceAdd, Nat.reduceSub, Nat.reduceMul, Int.reduceNeg, Int.reduceLE, Int.reduceLT, Int.reduceToNat, Int.reduceAdd, Int.reduceSub, Int.reduceMul, Int.reduceEq]
  · have e1 : invU a = powU a 2305843009213693949 := if_neg h
    have e2 : invE a = .nilIface := if_neg h
    simp (config := { maxSteps := 1000000 }) only [h, e1, e2, undef, push_cast, ↓Int.toNat_natCast, ↓Int.cast_ofNat_Int, Int.cast_ofNat_Int, ↓reduceIte, reduceCtorEq, Nat.reduceEqDiff, Nat.reduceLT, Nat.reduceLeDiff, Nat.reduceAdd, Nat.reduceSub, Nat.reduceMul, Int.reduceNeg, Int.reduceLE, Int.reduceLT, Int.reduceToNat, Int.reduceAdd, Int.reduceSub, Int.reduceMul, Int.reduceEq]
    refine callG_v rfl cb64 rfl (fpPowK a 2305843009213693949) (dOk_lt rfl) ?_
    simp (config := { maxSteps := 1000000 }) only [undef, push_cast, ↓Int.toNat_natCast, ↓Int.cast_ofNat_Int, Int.cast_ofNat_Int, ↓reduceIte, reduceCtorEq, Nat.reduceEqDiff, Nat.reduceLT, Nat.reduceLeDiff, Nat.reduceAdd, Nat.reduceSub, Nat.reduceMul, Int.reduceNeg, Int.reduceLE, Int.reduceLT, Int.reduceToNat, Int.reduceAdd, Int.reduceSub, Int.reduceMul, Int.reduceEq]
theorem fpInvK (a : UInt64) : CallOK Tryd.prog w0 No 147 [.x (.a (.v (vU64 a)))] hp (.t [.a (.v (vU64 (invU a))), .a (.v (invE a))]) hp := callOK_v fun _ w _ => fpInv_any a w
set_option maxRecDepth 100000 in
theorem fpDiv_any (a b : UInt64) (hb : ¬ b % fpP = 0) (w : World) : Calls Tryd.prog 133 #[vU64 a, vU64 b] w fun e w' => e = .returned (.tuple #[vU64 (fpMul a (powU b 2305843009213693949)), .nilIface]) ∧ Below w.heap.size w w' := by
  refine calls_v Tryd.func133 rfl Tryd.ntmps133 [.x (.a (.v (vU64 a))), .x (.a (.v (vU64 b)))] (by simp) (.t [.a (.v (vU64 (fpMul a (powU b 2305843009213693949)))), .a (.v .nilIface)]) (fun _ => rfl) ?_
  simp (config := { maxSteps := 1000000 }) only [undef, push_cast, ↓Int.toNat_natCast, ↓Int.cast_ofNat_Int, Int.cast_ofNat_Int, ↓reduceIte, reduceCtorEq, Nat.reduceEqDiff, Nat.reduceLT, Nat.reduceLeDiff, Nat.reduceAdd, Nat.reduceSub, Nat.reduceMul, Int.reduceNeg, Int.reduceLE, Int.reduceLT, Int.reduceToNat, Int.reduceAdd, Int.reduceSub, Int.reduceMul, Int.reduceEq]
  refine callG_v rfl cb147 rfl (fpInvK b) (dOk_lt rfl) ?_
  have e1 : invU b = powU b 2305843009213693949 := if_neg hb
  have e2 : invE b = .nilIface := if_neg hb
  simp (config := { maxSteps := 1000000 }) only [e1, e2, undef, push_cast, ↓Int.toNat_natCast, ↓Int.cast_ofNat_Int, Int.cast_ofNat_Int, ↓reduceIte, reduceCtorEq, Nat.reduceEqDiff, Nat.reduceLT, Nat.reduceLeDiff, Nat.reduceAdd, Nat.reduceSub, Nat.reduceMul, Int.reduceNeg, Int.reduceLE, Int.reduceLT, Int.reduceToNat, Int.reduceAdd, Int.reduceSub, Int.reduceMul, Int.reduceEq]
  refine callG_v rfl cb97 rfl (fpMulK a (powU b 2305843009213693949)) (dOk_lt rfl) ?_
  simp (config := { maxSteps := 1000000 }) only [undef, push_cast, ↓Int.toNat_natCast, ↓Int.cast_ofNat_Int, Int.cast_ofNat_Int, ↓reduceIte, reduceCtorEq, Nat.reduceEqDiff, Nat.reduceLT, Nat.reduceLeDiff, Nat.reduceAdd, Nat.reduceSub, Nat.reduceMul, Int.reduceNeg, Int.reduceLE, Int.reduceLT, Int.reduceToNat, Int.reduceAdd, Int.reduceSub, Int.reduceMul, Int.reduceEq]
theorem fpDivK (a b : UInt64) (hb : ¬ b % fpP = 0) : CallOK Tryd.prog w0 No 133 [.x (.a (.v (vU64 a))), .x (.a (.v (vU64 b)))] hp (.t [.a (.v (vU64 (fpMul a (powU b 2305843009213693949)))), .a (.v .nilIface)]) hp := callOK_v fun _ w _ => fpDiv_any a b hb w
end
/-! ### May these be places? -/
def pcOk (xs : List UInt64) : Bool := decide (xs.length ≤ 64) && apartU xs
def pcErr (xs : List UInt64) : Value := if xs.length ≤ 64 then (if apartU xs = true then .nilIface else errN 8) else errN 1
theorem pcErr_yes {xs : List UInt64} (h : pcOk xs = true) : pcErr xs = .nilIface := by
  unfold pcOk at h
  rw [Bool.and_eq_true, decide_eq_true_eq] at h
  unfold pcErr
  rw [if_pos h.1, if_pos h.2]
attribute [local irreducible] seenU metU apartU prU wtU wtsU thU powU
set_option maxRecDepth 100000 in
set_option maxHeartbeats 1000000 in
theorem pcheck_any (xs : List UInt64) (A : Option Addr) (c : Nat) (w : World) (hl : xs.length ≤ 1000000) (hR : RdV w w.heap.size A (xs.map vU64)) : Calls Tryd.prog 108 #[.slice A xs.length c] w fun e w' => e = .returned (pcErr xs) ∧ Below w.heap.size w w' := by
  have F := FM.of hR
  refine calls_v Tryd.func108 rfl Tryd.ntmps108 [(.x (.a (.v (.slice A xs.length c))))] (by simp) (.x (.a (.v (pcErr xs)))) (fun _ => rfl) ?_
  by_cases h64 : (64 : Int) < xs.length
  · have e : pcErr xs = errN 1 := if_neg (by omega)
    simp (config := { maxSteps := 1000000 }) only [h64, e, errN, undef, push_cast, ↓Int.toNat_natCast, ↓Int.cast_ofNat_Int, Int.cast_ofNat_Int, ↓reduceIte, reduceCtorEq, Nat.reduceEqDiff, Nat.reduceLT, Nat.reduceLeDiff, Nat.reduceAdd, Nat.reduceSub, Nat.reduceMul, Int.reduceNeg, Int.reduceLE, Int.reduceLT, Int.reduceToNat, Int.reduceAdd, Int.reduceSub, Int.reduceMul, Int.reduceEq]
  · have e0 : pcErr xs = if apartU xs = true then .nilIface else errN 8 := if_pos (by omega)
    simp (config := { maxSteps := 1000000 }) only [h64, undef, push_cast, ↓Int.toNat_natCast, ↓Int.cast_ofNat_Int, Int.cast_ofNat_Int, ↓reduceIte, reduceCtorEq, Nat.reduceEqDiff, Nat.reduceLT, Nat.reduceLeDiff, Nat.reduceAdd, Nat.reduceSub, Nat.reduceMul, Int.reduceNeg, Int.reduceLE, Int.reduceLT, Int.reduceToNat, Int.reduceAdd, Int.reduceSub, Int.reduceMul, Int.reduceEq]
    (repeat (refine And.intro (by first | omega | decide) ?_))
    refine loop_rule (ι := Nat) (fun i => ⟨[(3, .x (.a (.o 0))), (13, (.x (.a (.v (.slice A xs.length c))))), (14, .x (.a (.v (.int .i64 xs.length)))), (15, .x (.a (.v (.int .i64 i))))], [.mp .u64 (seenU xs i)]⟩) (fun i => i ≤ xs.length ∧ ∀ j, j < i → metU xs j (n64 (ix xs j % fpP)) = false) (fun i => xs.length - i) 0 [0] ⟨Nat.zero_le _, fun j h => absurd h (Nat.not_lt_zero _)⟩ ?_ ?_
    · simp (config := { maxSteps := 1000000 }) only [seenU_zero, mpBnd_nil, push_cast, ↓Int.toNat_natCast, ↓Int.cast_ofNat_Int, Int.cast_ofNat_Int, ↓reduceIte, reduceCtorEq, Nat.reduceEqDiff, Nat.reduceLT, Nat.reduceLeDiff, Nat.reduceAdd, Nat.reduceSub, Nat.reduceMul, Int.reduceNeg, Int.reduceLE, Int.reduceLT, Int.reduceToNat, Int.reduceAdd, Int.reduceSub, Int.reduceMul, Int.reduceEq]
    · rintro i ⟨hi, hj⟩
      by_cases hlt : (i : Int) < xs.length
      · have i0 : (0 : Int) ≤ i := by omega
        have c0 := F.cell i (by omega)
        have o0 := F.ok i (by omega)
        have hA := F.some_ (by omega)
        have hlk := lookI_seenU xs (n64 (ix xs i % fpP)) i
        simp (config := { maxSteps := 1000000 }) only [hlt, i0, c0, o0, hA, undef, push_cast, ↓Int.toNat_natCast, ↓Int.cast_ofNat_Int, Int.cast_ofNat_Int, ↓reduceIte, reduceCtorEq, Nat.reduceEqDiff, Nat.reduceLT, Nat.reduceLeDiff, Nat.reduceAdd, Nat.reduceSub, Nat.reduceMul, Int.reduceNeg, Int.reduceLE, Int.reduceLT, Int.reduceToNat, Int.reduceAdd, Int.reduceSub, Int.reduceMul, Int.reduceEq]
        (repeat (refine And.intro (by first | omega | decide) ?_))
        refine callG_v rfl cb101 rfl (fpOfK (ix xs i)) (dOk_lt rfl) ?_
        cases hm : metU xs i (n64 (ix xs i % fpP))
        · rw [hm] at hlk
          have hlk : lookI (seenU xs i) (n64 (ix xs i % fpP)) = none := hlk
          have hs := (seenU_succ xs i).symm
          have hl2 : lookI (seenU xs (i + 1)) (n64 (ix xs i % fpP)) = some (.a (.v (.int .i64 1))) := by rw [seenU_succ, lookI_putI', if_pos rfl]
          simp (config := { maxSteps := 1000000 }) only [hlk, hs, undef, push_cast, ↓Int.toNat_natCast, ↓Int.cast_ofNat_Int, Int.cast_ofNat_Int, ↓reduceIte, reduceCtorEq, Nat.reduceEqDiff, Nat.reduceLT, Nat.reduceLeDiff, Nat.reduceAdd, Nat.reduceSub, Nat.reduceMul, Int.reduceNeg, Int.reduceLE, Int.reduceLT, Int.reduceToNat, Int.reduceAdd, Int.reduceSub, Int.reduceMul, Int.reduceEq]
          (repeat (refine And.intro (by first | omega | decide) ?_))
          refine callG_v rfl cb101 rfl (fpOfK (ix xs i)) (dOk_lt rfl) ?_
          simp (config := { maxSteps := 1000000 }) only [hl2, undef, push_cast, ↓Int.toNat_natCast, ↓Int.cast_ofNat_Int, Int.cast_ofNat_Int, ↓reduceIte, reduceCtorEq, Nat.reduceEqDiff, Nat.reduceLT, Nat.reduceLeDiff, Nat.reduceAdd, Nat.reduceSub, Nat.reduceMul, Int.reduceNeg, Int.reduceLE, Int.reduceLT, Int.reduceToNat, Int.reduceAdd, Int.reduceSub, Int.reduceMul, Int.reduceEq]
          (repeat (refine And.intro (by first | omega | decide) ?_))
          refine loopK_normal (i + 1) [0] ⟨by omega, fun j h => ?_⟩ (by omega) ?_
          · by_cases e : j = i
            · rw [e]; exact hm
            · exact hj j (by omega)
          · simp (config := { maxSteps := 1000000 }) only [seenU_bnd, seenU_ren, push_cast, ↓Int.toNat_natCast, ↓Int.cast_ofNat_Int, Int.cast_ofNat_Int, ↓reduceIte, reduceCtorEq, Nat.reduceEqDiff, Nat.reduceLT, Nat.reduceLeDiff, Nat.reduceAdd, Nat.reduceSub, Nat.reduceMul, Int.reduceNeg, Int.reduceLE, Int.reduceLT, Int.reduceToNat, Int.reduceAdd, Int.reduceSub, Int.reduceMul, Int.reduceEq]
        · rw [hm] at hlk
          have hlk : lookI (seenU xs i) (n64 (ix xs i % fpP)) = some (.a (.v (.int .i64 1))) := hlk
          have hl2 : lookI (putI (seenU xs i) (n64 (ix xs i % fpP)) (.a (.v (.int .i64 2)))) (n64 (ix xs i % fpP)) = some (.a (.v (.int .i64 2))) := by rw [lookI_putI', if_pos rfl]
          have he : pcErr xs = errN 8 := by rw [e0, apartU_no (by omega) hm]; rfl
          simp (config := { maxSteps := 1000000 }) only [hlk, undef, push_cast, ↓Int.toNat_natCast, ↓Int.cast_ofNat_Int, Int.cast_ofNat_Int, ↓reduceIte, reduceCtorEq, Nat.reduceEqDiff, Nat.reduceLT, Nat.reduceLeDiff, Nat.reduceAdd, Nat.reduceSub, Nat.reduceMul, Int.reduceNeg, Int.reduceLE, Int.reduceLT, Int.reduceToNat, Int.reduceAdd, Int.reduceSub, Int.reduceMul, Int.reduceEq]
          (repeat (refine And.intro (by first | omega | decide) ?_))
          refine callG_v rfl cb101 rfl (fpOfK (ix xs i)) (dOk_lt rfl) ?_
          simp (config := { maxSteps := 1000000 }) only [hl2, he, errN, undef, push_cast, ↓Int.toNat_natCast, ↓Int.cast_ofNat_Int, Int.cast_ofNat_Int, ↓reduceIte, reduceCtorEq, Nat.reduceEqDiff, Nat.reduceLT, Nat.reduceLeDiff, Nat.reduceAdd, Nat.reduceSub, Nat.reduceMul, Int.reduceNeg, Int.reduceLE, Int.reduceLT, Int.reduceToNat, Int.reduceAdd, Int.reduceSub, Int.reduceMul, Int.reduceEq]
      · have he : pcErr xs = .nilIface := by rw [e0, apartU_iff.2 fun k hk => hj k (by omega)]; rfl
        simp (config := { maxSteps := 1000000 }) only [hlt, he, undef, push_cast, ↓Int.toNat_natCast, ↓Int.cast_ofNat_Int, Int.cast_ofNat_Int, ↓reduceIte, reduceCtorEq, Nat.reduceEqDiff, Nat.reduceLT, Nat.reduceLeDiff, Nat.reduceAdd, Nat.reduceSub, Nat.reduceMul, Int.reduceNeg, Int.reduceLE, Int.reduceLT, Int.reduceToNat, Int.reduceAdd, Int.reduceSub, Int.reduceMul, Int.reduceEq]
theorem pcheckOK {w0 : World} {hp : List Res} {sv : Sv} {xs : List UInt64} (hl : xs.length ≤ 1000000) (h : Shows w0 No hp sv (xs.map vU64)) : CallOK Tryd.prog w0 No 108 [sv] hp (.x (.a (.v (pcErr xs)))) hp := callOK_v fun γ w hS => by
  obtain ⟨A, c, e1, b1, r1⟩ := h γ w hS
  rw [List.length_map] at e1
  show Calls _ _ #[sv.val γ] w _
  rw [e1]
  exact pcheck_any xs A c w hl r1
end Go.Proofs.YteiifdpikcnbgaaDoor
