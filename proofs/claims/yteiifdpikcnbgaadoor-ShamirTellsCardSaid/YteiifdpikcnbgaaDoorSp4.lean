/- Shares split, joined, as the document does it; and the program's split that may be none. -/
import Derived.Test.YteiifdpikcnbgaaDoorSp3
namespace Go.Proofs.YteiifdpikcnbgaaDoor
open Go.RowKit
set_option linter.unusedSimpArgs false
set_option linter.unusedVariables false
def spE (l : List UInt64) (m : Int) : Int := if 1 ≤ m ∧ m ≤ 64 ∧ (l.length : Int) < m then 0 else 1
def spL (s : UInt64) (l : List UInt64) (m : Int) : List Sh := if spE l m = 0 then splS (s :: l) m.toNat else []
theorem spE_ok {l : List UInt64} {m : Int} (h : spE l m = 0) : 1 ≤ m ∧ m ≤ 64 ∧ (l.length : Int) < m := by
  unfold spE at h
  split at h
  · assumption
  · cases h
theorem spE_no {l : List UInt64} {m : Int} (h : ¬ (1 ≤ m ∧ m ≤ 64 ∧ (l.length : Int) < m)) : spE l m = 1 := if_neg h
attribute [local irreducible] Callable CallOK CallG CallM DrawG LoopG symR symM
attribute [local irreducible] shc seenU metU apartU prU wtU wtsU thU powU polyU sortP splS polyN addU subU fpMul euS plT nwP nwV nwN lineU
/-! ### Split -/
set_option maxRecDepth 100000 in
set_option maxHeartbeats 2000000 in
theorem split_no (s : UInt64) (l : List UInt64) (m : Int) (A : Option Addr) (c : Nat) (w : World) (hm : ¬ (1 ≤ m ∧ m ≤ 64 ∧ (l.length : Int) < m)) :
    Calls Tryd.prog 37 #[vU64 s, .slice A l.length c, .int .i64 m] w fun e w' => e = .returned (.tuple #[.slice none 0 0, errN 1]) ∧ Below w.heap.size w w' := by
  refine calls_v (n := 45) Tryd.func37 rfl Tryd.ntmps37 [.x (.a (.v (vU64 s))), (.x (.a (.v (.slice A l.length c)))), .x (.a (.v (.int .i64 m)))] (by simp) (.t [.a (.v (.slice none 0 0)), .a (.v (errN 1))]) (fun _ => rfl) ?_
  by_cases g1 : m < 1
  · simp (config := { maxSteps := 1000000 }) only [g1, errN, undef, push_cast, ↓Int.toNat_natCast, ↓Int.cast_ofNat_Int, Int.cast_ofNat_Int, ↓reduceIte, reduceCtorEq, Nat.reduceEqDiff, Nat.reduceLT, Nat.reduceLeDiff, Nat.reduceAdd, Nat.reduceSub, Nat.reduceMul, Int.reduceNeg, Int.reduceLE, Int.reduceLT, Int.reduceToNat, Int.reduceAdd, Int.reduceSub, Int.reduceMul, Int.reduceEq]
  by_cases g2 : 64 < m
  · simp (config := { maxSteps := 1000000 }) only [g1, g2, errN, undef, push_cast, ↓Int.toNat_natCast, ↓Int.cast_ofNat_Int, Int.cast_ofNat_Int, ↓reduceIte, reduceCtorEq, Nat.reduceEqDiff, Nat.reduceLT, Nat.reduceLeDiff, Nat.reduceAdd, Nat.reduceSub, Nat.reduceMul, Int.reduceNeg, Int.reduceLE, Int.reduceLT, Int.reduceToNat, Int.reduceAdd, Int.reduceSub, Int.reduceMul, Int.reduceEq]
  have g3 : m ≤ l.length := by omega
  simp (config := { maxSteps := 1000000 }) only [g1, g2, g3, errN, undef, push_cast, ↓Int.toNat_natCast, ↓Int.cast_ofNat_Int, Int.cast_ofNat_Int, ↓reduceIte, reduceCtorEq, Nat.reduceEqDiff, Nat.reduceLT, Nat.reduceLeDiff, Nat.reduceAdd, Nat.reduceSub, Nat.reduceMul, Int.reduceNeg, Int.reduceLE, Int.reduceLT, Int.reduceToNat, Int.reduceAdd, Int.reduceSub, Int.reduceMul, Int.reduceEq]
set_option maxRecDepth 100000 in
set_option maxHeartbeats 2000000 in
theorem rsplit_no (s : UInt64) (l : List UInt64) (m : Int) (A : Option Addr) (c : Nat) (w : World) (hm : ¬ (1 ≤ m ∧ m ≤ 64 ∧ (l.length : Int) < m)) :
    Calls Tryd.prog 38 #[vU64 s, .slice A l.length c, .int .i64 m] w fun e w' => e = .returned (.tuple #[.slice none 0 0, .int .i64 1]) ∧ Below w.heap.size w w' := by
  refine calls_v (n := 43) Tryd.func38 rfl Tryd.ntmps38 [.x (.a (.v (vU64 s))), (.x (.a (.v (.slice A l.length c)))), .x (.a (.v (.int .i64 m)))] (by simp) (.t [.a (.v (.slice none 0 0)), .a (.v (.int .i64 1))]) (fun _ => rfl) ?_
  by_cases g1 : m < 1
  · simp (config := { maxSteps := 1000000 }) only [g1, undef, push_cast, ↓Int.toNat_natCast, ↓Int.cast_ofNat_Int, Int.cast_ofNat_Int, ↓reduceIte, reduceCtorEq, Nat.reduceEqDiff, Nat.reduceLT, Nat.reduceLeDiff, Nat.reduceAdd, Nat.reduceSub, Nat.reduceMul, Int.reduceNeg, Int.reduceLE, Int.reduceLT, Int.reduceToNat, Int.reduceAdd, Int.reduceSub, Int.reduceMul, Int.reduceEq]
  by_cases g2 : 64 < m
  · simp (config := { maxSteps := 1000000 }) only [g1, g2, undef, push_cast, ↓Int.toNat_natCast, ↓Int.cast_ofNat_Int, Int.cast_ofNat_Int, ↓reduceIte, reduceCtorEq, Nat.reduceEqDiff, Nat.reduceLT, Nat.reduceLeDiff, Nat.reduceAdd, Nat.reduceSub, Nat.reduceMul, Int.reduceNeg, Int.reduceLE, Int.reduceLT, Int.reduceToNat, Int.reduceAdd, Int.reduceSub, Int.reduceMul, Int.reduceEq]
  have g3 : m ≤ l.length := by omega
  simp (config := { maxSteps := 1000000 }) only [g1, g2, g3, undef, push_cast, ↓Int.toNat_natCast, ↓Int.cast_ofNat_Int, Int.cast_ofNat_Int, ↓reduceIte, reduceCtorEq, Nat.reduceEqDiff, Nat.reduceLT, Nat.reduceLeDiff, Nat.reduceAdd, Nat.reduceSub, Nat.reduceMul, Int.reduceNeg, Int.reduceLE, Int.reduceLT, Int.reduceToNat, Int.reduceAdd, Int.reduceSub, Int.reduceMul, Int.reduceEq]
theorem ofInt_nat (m : Nat) (h : m < 1000) : UInt64.ofInt (m : Int) = UInt64.ofNat m := by
  rw [← UInt64.toNat_inj, UInt64.toNat_ofNat']
  simp [UInt64.ofInt, UInt64.toNat_ofNat']
  omega
set_option maxRecDepth 100000 in
set_option maxHeartbeats 2000000 in
theorem rsplit_yes (s : UInt64) (l : List UInt64) (m : Nat) (A : Option Addr) (c : Nat) (w : World) (hm1 : 1 ≤ m) (hm : m ≤ 64) (hl : l.length < m) (hc : l.length ≤ c) (hR : RdV w w.heap.size A (l.map vU64)) :
    Calls Tryd.prog 38 (List.map (Sv.val []) [.x (.a (.v (vU64 s))), (.x (.a (.v (.slice A l.length c)))), .x (.a (.v (.int .i64 m)))]).toArray w fun e w' => ∃ γ1, e = .returned ((Sv.t [.a (.o 0), .a (.v (.int .i64 0))]).val γ1) ∧ Sat w No γ1 [.onn 80 2 (.c (shc (splS (s :: l) m)))] w' := by
  refine calls_fun (n := 43) Tryd.func38 rfl Tryd.ntmps38 [.x (.a (.v (vU64 s))), (.x (.a (.v (.slice A l.length c)))), .x (.a (.v (.int .i64 m)))] (Sat.init w No) (by simp) _ _ ?_
  obtain ⟨e2, k2⟩ := rd64_of (FV.no hR)
  have g1 : ¬ (m : Int) < 1 := by omega
  have g2 : ¬ (64 : Int) < m := by omega
  have g3 : ¬ (m : Int) ≤ l.length := by omega
  have b3 : (1 + l.length) * 8 ≤ 140737488355328 := by omega
  have b4 : 1 + l.length ≤ 2 ^ 63 - 1 := by omega
  simp (config := { maxSteps := 1000000 }) only [g1, g2, g3, e2, k2, b3, b4, undef, push_cast, ↓Int.toNat_natCast, ↓Int.cast_ofNat_Int, Int.cast_ofNat_Int, ↓reduceIte, reduceCtorEq, Nat.reduceEqDiff, Nat.reduceLT, Nat.reduceLeDiff, Nat.reduceAdd, Nat.reduceSub, Nat.reduceMul, Int.reduceNeg, Int.reduceLE, Int.reduceLT, Int.reduceToNat, Int.reduceAdd, Int.reduceSub, Int.reduceMul, Int.reduceEq]
  (repeat (refine And.intro (by first | omega | decide) ?_))
  generalize hfa : s :: l = fa at *
  have lfa : fa.length ≤ 1000000 := by rw [← hfa, List.length_cons]; omega
  refine loop_ghostN 9 80 2 (.c []) (by omega) rfl rfl (by simp only [push_cast, ↓Int.toNat_natCast, ↓Int.cast_ofNat_Int, Int.cast_ofNat_Int, ↓reduceIte, reduceCtorEq, Nat.reduceEqDiff, Nat.reduceLT, Nat.reduceLeDiff, Nat.reduceAdd, Nat.reduceSub, Nat.reduceMul, Int.reduceNeg, Int.reduceLE, Int.reduceLT, Int.reduceToNat, Int.reduceAdd, Int.reduceSub, Int.reduceMul, Int.reduceEq]) ?_
  refine loop_rule (ι := Nat) (fun i => ⟨[(2, .x (.a (.v (.int .i64 m)))), (8, .x (.a (.o 0))), (9, .x (.a (.o 1))), (10, .x (.a (.v (.int .i64 ((i : Int) + 1)))))], [.own 23 (.u64 fa), .onn 80 2 (.c (shc (splS fa i)))]⟩) (fun i => i ≤ m) (fun i => m - i) 0 [1, 2] (by omega) ?_ ?_
  · simp (config := { maxSteps := 1000000 }) only [splS_zero, shc_nil, push_cast, ↓Int.toNat_natCast, ↓Int.cast_ofNat_Int, Int.cast_ofNat_Int, ↓reduceIte, reduceCtorEq, Nat.reduceEqDiff, Nat.reduceLT, Nat.reduceLeDiff, Nat.reduceAdd, Nat.reduceSub, Nat.reduceMul, Int.reduceNeg, Int.reduceLE, Int.reduceLT, Int.reduceToNat, Int.reduceAdd, Int.reduceSub, Int.reduceMul, Int.reduceEq]
  · intro i hi
    by_cases hlt : (i : Int) + 1 ≤ m
    · have ho : UInt64.ofInt ((i : Int) + 1) = UInt64.ofNat (i + 1) := by
        have := ofInt_nat (i + 1) (by omega)
        rwa [Int.natCast_add] at this
      have hsn := shc_snoc (splS fa i) (UInt64.ofNat (i + 1)) (polyU fa (UInt64.ofNat (i + 1)))
      rw [← splS_succ] at hsn
      have hln := splS_length fa i
      have b5 : (i + 1) * 16 ≤ 140737488355328 := by omega
      have b6 : i + 1 ≤ 2 ^ 63 - 1 := by omega
      simp (config := { maxSteps := 1000000 }) only [hlt, ho, undef, push_cast, ↓Int.toNat_natCast, ↓Int.cast_ofNat_Int, Int.cast_ofNat_Int, ↓reduceIte, reduceCtorEq, Nat.reduceEqDiff, Nat.reduceLT, Nat.reduceLeDiff, Nat.reduceAdd, Nat.reduceSub, Nat.reduceMul, Int.reduceNeg, Int.reduceLE, Int.reduceLT, Int.reduceToNat, Int.reduceAdd, Int.reduceSub, Int.reduceMul, Int.reduceEq]
      (repeat (refine And.intro (by first | omega | decide) ?_))
      refine callG_v rfl cb75 rfl (refEvalOK (c := fa) (UInt64.ofNat (i + 1)) lfa (shows_own rfl fun _ => rfl)) (dOk_lt rfl) ?_
      simp (config := { maxSteps := 1000000 }) only [hsn, hln, half2, b5, b6, undef, push_cast, ↓Int.toNat_natCast, ↓Int.cast_ofNat_Int, Int.cast_ofNat_Int, ↓reduceIte, reduceCtorEq, Nat.reduceEqDiff, Nat.reduceLT, Nat.reduceLeDiff, Nat.reduceAdd, Nat.reduceSub, Nat.reduceMul, Int.reduceNeg, Int.reduceLE, Int.reduceLT, Int.reduceToNat, Int.reduceAdd, Int.reduceSub, Int.reduceMul, Int.reduceEq]
      (repeat (refine And.intro (by first | omega | decide) ?_))
      refine loopK_normal (i + 1) [0, 3] (by omega) (by omega) ?_
      simp (config := { maxSteps := 1000000 }) only [push_cast, ↓Int.toNat_natCast, ↓Int.cast_ofNat_Int, Int.cast_ofNat_Int, ↓reduceIte, reduceCtorEq, Nat.reduceEqDiff, Nat.reduceLT, Nat.reduceLeDiff, Nat.reduceAdd, Nat.reduceSub, Nat.reduceMul, Int.reduceNeg, Int.reduceLE, Int.reduceLT, Int.reduceToNat, Int.reduceAdd, Int.reduceSub, Int.reduceMul, Int.reduceEq]
    · have e : i = m := by omega
      subst e
      simp (config := { maxSteps := 1000000 }) only [hlt, undef, push_cast, ↓Int.toNat_natCast, ↓Int.cast_ofNat_Int, Int.cast_ofNat_Int, ↓reduceIte, reduceCtorEq, Nat.reduceEqDiff, Nat.reduceLT, Nat.reduceLeDiff, Nat.reduceAdd, Nat.reduceSub, Nat.reduceMul, Int.reduceNeg, Int.reduceLE, Int.reduceLT, Int.reduceToNat, Int.reduceAdd, Int.reduceSub, Int.reduceMul, Int.reduceEq]
      refine endsAs [1] ?_
      simp (config := { maxSteps := 1000000 }) only [push_cast, ↓Int.toNat_natCast, ↓Int.cast_ofNat_Int, Int.cast_ofNat_Int, ↓reduceIte, reduceCtorEq, Nat.reduceEqDiff, Nat.reduceLT, Nat.reduceLeDiff, Nat.reduceAdd, Nat.reduceSub, Nat.reduceMul, Int.reduceNeg, Int.reduceLE, Int.reduceLT, Int.reduceToNat, Int.reduceAdd, Int.reduceSub, Int.reduceMul, Int.reduceEq]
theorem splitAll {w0 : World} {hp : List Res} {sv : Sv} {l : List UInt64} (s : UInt64) (m : Int) (h : Shows w0 No hp sv (l.map vU64)) (hbr : ∀ r ∈ hp, Res.bnd hp.length r) :
    CallOK Tryd.prog w0 No 37 [.x (.a (.v (vU64 s))), sv, .x (.a (.v (.int .i64 m)))] hp (.t [.a (.o hp.length), .a (.v (erS (spE l m)))]) (hp ++ [.onn 76 2 (.c (shc (spL s l m)))]) := callOK_shT 76 hbr fun γ w hS => by
  obtain ⟨A, c, e1, b1, r1⟩ := h γ w hS
  rw [List.length_map] at e1 b1
  show Calls _ _ #[vU64 s, sv.val γ, .int .i64 m] w _
  rw [e1]
  by_cases hs : spE l m = 0
  · obtain ⟨h1, h2, h3⟩ := spE_ok hs
    have e : spL s l m = splS (s :: l) m.toNat := if_pos hs
    obtain ⟨n, rfl⟩ : ∃ n : Nat, m = n := ⟨m.toNat, by omega⟩
    rw [e, hs, Int.toNat_natCast]
    exact split_any s l n A c w (by omega) (by omega) (by omega) b1 r1
  · have e : spL s l m = [] := if_neg hs
    have hn : ¬ (1 ≤ m ∧ m ≤ 64 ∧ (l.length : Int) < m) := fun h => hs (if_pos h)
    rw [e, spE_no hn]
    exact nil_shs 76 (split_no s l m A c w hn)
theorem rsplitAll {w0 : World} {hp : List Res} {sv : Sv} {l : List UInt64} (s : UInt64) (m : Int) (h : Shows w0 No hp sv (l.map vU64)) (hbr : ∀ r ∈ hp, Res.bnd hp.length r) :
    CallOK Tryd.prog w0 No 38 [.x (.a (.v (vU64 s))), sv, .x (.a (.v (.int .i64 m)))] hp (.t [.a (.o hp.length), .a (.v (.int .i64 (spE l m)))]) (hp ++ [.onn 80 2 (.c (shc (spL s l m)))]) := callOK_shT 80 hbr fun γ w hS => by
  obtain ⟨A, c, e1, b1, r1⟩ := h γ w hS
  rw [List.length_map] at e1 b1
  show Calls _ _ #[vU64 s, sv.val γ, .int .i64 m] w _
  rw [e1]
  by_cases hs : spE l m = 0
  · obtain ⟨h1, h2, h3⟩ := spE_ok hs
    have e : spL s l m = splS (s :: l) m.toNat := if_pos hs
    obtain ⟨n, rfl⟩ : ∃ n : Nat, m = n := ⟨m.toNat, by omega⟩
    rw [e, hs, Int.toNat_natCast]
    exact rsplit_yes s l n A c w (by omega) (by omega) (by omega) b1 r1
  · have e : spL s l m = [] := if_neg hs
    have hn : ¬ (1 ≤ m ∧ m ≤ 64 ∧ (l.length : Int) < m) := fun h => hs (if_pos h)
    rw [e, spE_no hn]
    exact nil_shs 80 (rsplit_no s l m A c w hn)
/-! ### Join -/
set_option maxRecDepth 100000 in
set_option maxHeartbeats 2000000 in
theorem rJoin_any (l : List Sh) (m : Int) (A : Option Addr) (c : Nat) (w : World) (hl : l.length ≤ 1000) (hc : l.length ≤ c) (hR : RdV w w.heap.size A (shs l)) :
    Calls Tryd.prog 42 #[.slice A l.length c, .int .i64 m] w fun e w' => e = .returned (.tuple #[vU64 (joiU l m), .int .i64 (joiE l m)]) ∧ Below w.heap.size w w' := by
  refine calls_v (n := 42) Tryd.func42 rfl Tryd.ntmps42 [(.x (.a (.v (.slice A l.length c)))), .x (.a (.v (.int .i64 m)))] (by simp) (.t [.a (.v (vU64 (joiU l m))), .a (.v (.int .i64 (joiE l m)))]) (fun _ => rfl) ?_
  have no : ∀ {n : Int}, joiE l m = n → ¬ n = 0 → vU64 (joiU l m) = .int .u64 0 := fun {n} h1 h2 => by
    subst h1
    unfold joiU
    rw [if_neg h2]
    rfl
  by_cases g1 : m < 1
  · have j0 : joiE l m = 1 := if_pos g1
    have e1 := no j0 (by decide)
    simp (config := { maxSteps := 1000000 }) only [g1, j0, e1, undef, push_cast, ↓Int.toNat_natCast, ↓Int.cast_ofNat_Int, Int.cast_ofNat_Int, ↓reduceIte, reduceCtorEq, Nat.reduceEqDiff, Nat.reduceLT, Nat.reduceLeDiff, Nat.reduceAdd, Nat.reduceSub, Nat.reduceMul, Int.reduceNeg, Int.reduceLE, Int.reduceLT, Int.reduceToNat, Int.reduceAdd, Int.reduceSub, Int.reduceMul, Int.reduceEq]
  simp (config := { maxSteps := 1000000 }) only [g1, undef, push_cast, ↓Int.toNat_natCast, ↓Int.cast_ofNat_Int, Int.cast_ofNat_Int, ↓reduceIte, reduceCtorEq, Nat.reduceEqDiff, Nat.reduceLT, Nat.reduceLeDiff, Nat.reduceAdd, Nat.reduceSub, Nat.reduceMul, Int.reduceNeg, Int.reduceLE, Int.reduceLT, Int.reduceToNat, Int.reduceAdd, Int.reduceSub, Int.reduceMul, Int.reduceEq]
  (repeat (refine And.intro (by first | omega | decide) ?_))
  have j0 : joiE l m = if sorE l = 0 then (if (l.length : Int) < m then 7 else if lineU (sortP l) m.toNat = true then 0 else 4) else sorE l := if_neg g1
  refine callG_x rfl cb40 rfl (rSortedOK hl (showsR_raw hR hc) (by simp only [push_cast, ↓Int.toNat_natCast, ↓Int.cast_ofNat_Int, Int.cast_ofNat_Int, ↓reduceIte, reduceCtorEq, Nat.reduceEqDiff, Nat.reduceLT, Nat.reduceLeDiff, Nat.reduceAdd, Nat.reduceSub, Nat.reduceMul, Int.reduceNeg, Int.reduceLE, Int.reduceLT, Int.reduceToNat, Int.reduceAdd, Int.reduceSub, Int.reduceMul, Int.reduceEq])) (dOk_lt rfl) (by simp only [push_cast, ↓Int.toNat_natCast, ↓Int.cast_ofNat_Int, Int.cast_ofNat_Int, ↓reduceIte, reduceCtorEq, Nat.reduceEqDiff, Nat.reduceLT, Nat.reduceLeDiff, Nat.reduceAdd, Nat.reduceSub, Nat.reduceMul, Int.reduceNeg, Int.reduceLE, Int.reduceLT, Int.reduceToNat, Int.reduceAdd, Int.reduceSub, Int.reduceMul, Int.reduceEq]) ?_
  by_cases g2 : sorE l = 0
  · rw [if_pos g2] at j0
    have hL : sorL l = sortP l := if_pos g2
    rw [hL]
    have hsl := sortP_length l
    obtain ⟨h64, hok, hasc⟩ := sorE_ok g2
    have hpc := pcOk_of (l := sortP l) (by omega) (okAll_perm (sortP_perm l) hok) (nodup_of hasc)
    by_cases g3 : (l.length : Int) < m
    · rw [if_pos g3] at j0
      have e1 := no j0 (by decide)
      simp (config := { maxSteps := 1000000 }) only [g2, hsl, half2, g3, j0, e1, undef, push_cast, ↓Int.toNat_natCast, ↓Int.cast_ofNat_Int, Int.cast_ofNat_Int, ↓reduceIte, reduceCtorEq, Nat.reduceEqDiff, Nat.reduceLT, Nat.reduceLeDiff, Nat.reduceAdd, Nat.reduceSub, Nat.reduceMul, Int.reduceNeg, Int.reduceLE, Int.reduceLT, Int.reduceToNat, Int.reduceAdd, Int.reduceSub, Int.reduceMul, Int.reduceEq]
    rw [if_neg g3] at j0
    obtain ⟨n, rfl⟩ : ∃ n : Nat, m = n := ⟨m.toNat, by omega⟩
    rw [Int.toNat_natCast] at j0
    simp (config := { maxSteps := 1000000 }) only [g2, hsl, half2, g3, undef, push_cast, ↓Int.toNat_natCast, ↓Int.cast_ofNat_Int, Int.cast_ofNat_Int, ↓reduceIte, reduceCtorEq, Nat.reduceEqDiff, Nat.reduceLT, Nat.reduceLeDiff, Nat.reduceAdd, Nat.reduceSub, Nat.reduceMul, Int.reduceNeg, Int.reduceLE, Int.reduceLT, Int.reduceToNat, Int.reduceAdd, Int.reduceSub, Int.reduceMul, Int.reduceEq]
    (repeat (refine And.intro (by first | omega | decide) ?_))
    refine callG_v rfl cb85 rfl (rLineOK n (by omega) hpc (showsR_shc rfl)) (dOk_lt rfl) ?_
    cases g4 : lineU (sortP l) n
    · rw [g4] at j0
      have j0 : joiE l n = 4 := j0
      have e1 := no j0 (by decide)
      simp (config := { maxSteps := 1000000 }) only [j0, e1, undef, push_cast, ↓Int.toNat_natCast, ↓Int.cast_ofNat_Int, Int.cast_ofNat_Int, ↓reduceIte, reduceCtorEq, Nat.reduceEqDiff, Nat.reduceLT, Nat.reduceLeDiff, Nat.reduceAdd, Nat.reduceSub, Nat.reduceMul, Int.reduceNeg, Int.reduceLE, Int.reduceLT, Int.reduceToNat, Int.reduceAdd, Int.reduceSub, Int.reduceMul, Int.reduceEq]
    · rw [g4] at j0
      have j0 : joiE l n = 0 := j0
      have e1 : joiU l n = thU ((sortP l).take n) 0 n := by
        unfold joiU
        rw [if_pos j0, Int.toNat_natCast]
      have tl := take_len (l := sortP l) (m := n) (by omega)
      have n0 : (0 : Int) ≤ n := by omega
      have n1 : (n : Int) ≤ l.length := by omega
      simp (config := { maxSteps := 1000000 }) only [n0, n1, hsl, half2, Nat.sub_zero, undef, push_cast, ↓Int.toNat_natCast, ↓Int.cast_ofNat_Int, Int.cast_ofNat_Int, ↓reduceIte, reduceCtorEq, Nat.reduceEqDiff, Nat.reduceLT, Nat.reduceLeDiff, Nat.reduceAdd, Nat.reduceSub, Nat.reduceMul, Int.reduceNeg, Int.reduceLE, Int.reduceLT, Int.reduceToNat, Int.reduceAdd, Int.reduceSub, Int.reduceMul, Int.reduceEq]
      (repeat (refine And.intro (by first | omega | decide) ?_))
      have ht := rThroughOK (w0 := w) (hp := [.onn 80 2 (.c (shc (sortP l)))]) (sv := .x (.a (.y 0 2 0 n))) (l := (sortP l).take n) 0 (pc_take n hpc) (showsR_shy rfl (by omega))
      rw [tl] at ht
      refine callG_v rfl cb86 rfl ht (dOk_lt rfl) ?_
      simp (config := { maxSteps := 1000000 }) only [j0, e1, undef, push_cast, ↓Int.toNat_natCast, ↓Int.cast_ofNat_Int, Int.cast_ofNat_Int, ↓reduceIte, reduceCtorEq, Nat.reduceEqDiff, Nat.reduceLT, Nat.reduceLeDiff, Nat.reduceAdd, Nat.reduceSub, Nat.reduceMul, Int.reduceNeg, Int.reduceLE, Int.reduceLT, Int.reduceToNat, Int.reduceAdd, Int.reduceSub, Int.reduceMul, Int.reduceEq]
  · rw [if_neg g2] at j0
    have e1 := no j0 g2
    simp (config := { maxSteps := 1000000 }) only [g2, j0, e1, undef, push_cast, ↓Int.toNat_natCast, ↓Int.cast_ofNat_Int, Int.cast_ofNat_Int, ↓reduceIte, reduceCtorEq, Nat.reduceEqDiff, Nat.reduceLT, Nat.reduceLeDiff, Nat.reduceAdd, Nat.reduceSub, Nat.reduceMul, Int.reduceNeg, Int.reduceLE, Int.reduceLT, Int.reduceToNat, Int.reduceAdd, Int.reduceSub, Int.reduceMul, Int.reduceEq]
theorem rJoinOK {w0 : World} {hp : List Res} {sv : Sv} {l : List Sh} (m : Int) (hl : l.length ≤ 1000) (h : ShowsR w0 No hp sv l.length (shs l)) :
    CallOK Tryd.prog w0 No 42 [sv, .x (.a (.v (.int .i64 m)))] hp (.t [.a (.v (vU64 (joiU l m))), .a (.v (.int .i64 (joiE l m)))]) hp := callOK_v fun γ w hS => by
  obtain ⟨A, c, e1, b1, r1⟩ := h γ w hS
  show Calls _ _ #[sv.val γ, .int .i64 m] w _
  rw [e1]
  exact rJoin_any l m A c w hl b1 r1
end Go.Proofs.YteiifdpikcnbgaaDoor
