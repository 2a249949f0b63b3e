/- escrow.Open: the two shares out of what one has for another one. -/
import Derived.Test.YteiifdpikcnbgaaDoorEsD
namespace Go.Proofs.YteiifdpikcnbgaaDoor
open Go.RowKit
set_option linter.unusedSimpArgs false
def eopOk (me gen : Int) (p : Pr) (t0 t1 : UInt64) : Bool := may [p] && decide (0 ≤ me ∧ me < 64 ∧ 1 ≤ gen ∧ gen ≤ 1073741824 ∧ ¬ fpP ≤ t0 ∧ ¬ fpP ≤ t1)
theorem eopOk_spec {me gen : Int} {p : Pr} {t0 t1 : UInt64} : eopOk me gen p t0 t1 = true ↔ may [p] = true ∧ 0 ≤ me ∧ me < 64 ∧ 1 ≤ gen ∧ gen ≤ 1073741824 ∧ ¬ fpP ≤ t0 ∧ ¬ fpP ≤ t1 := by
  unfold eopOk
  rw [Bool.and_eq_true, decide_eq_true_eq]
def eopErr (me gen : Int) (p : Pr) (t0 t1 : UInt64) : Value := if eopOk me gen p t0 t1 = true then .nilIface else .iface 121 (.int .i64 1)
def eopX (me gen : Int) (p : Pr) (t0 t1 : UInt64) : UInt64 := if eopOk me gen p t0 t1 = true then atU me else 0
def eopY (me gen : Int) (key : UInt64) (p : Pr) (t0 t1 t : UInt64) (i : Nat) : UInt64 := if eopOk me gen p t0 t1 = true then subU t (hidU (powU p.2 key) p.1.toNat me.toNat gen.toNat i) else 0
/-- The two shares, cell by cell. -/
def eopL (me gen : Int) (key : UInt64) (p : Pr) (t0 t1 : UInt64) : List Value := [vU64 (eopX me gen p t0 t1), vU64 (eopY me gen key p t0 t1 t0 0), vU64 (eopX me gen p t0 t1), vU64 (eopY me gen key p t0 t1 t1 1)]
theorem eop_no {me gen : Int} {p : Pr} {t0 t1 : UInt64} (h : ¬ eopOk me gen p t0 t1 = true) (key : UInt64) :
    eopErr me gen p t0 t1 = .iface 121 (.int .i64 1) ∧ eopX me gen p t0 t1 = 0 ∧ (∀ t i, eopY me gen key p t0 t1 t i = 0) := ⟨if_neg h, if_neg h, fun _ _ => if_neg h⟩
theorem eop_yes {me gen : Int} {p : Pr} {t0 t1 : UInt64} (h : eopOk me gen p t0 t1 = true) (key : UInt64) :
    eopErr me gen p t0 t1 = .nilIface ∧ eopX me gen p t0 t1 = atU me ∧ (∀ t i, eopY me gen key p t0 t1 t i = subU t (hidU (powU p.2 key) p.1.toNat me.toNat gen.toNat i)) := ⟨if_pos h, if_pos h, fun _ _ => if_pos h⟩
def eopTo (x a b : UInt64) : Nat → List At
  | 0 => [.v (.int .u64 0), .v (.int .u64 0), .v (.int .u64 0), .v (.int .u64 0)]
  | 1 => [.v (vU64 x), .v (vU64 a), .v (.int .u64 0), .v (.int .u64 0)]
  | _ => [.v (vU64 x), .v (vU64 a), .v (vU64 x), .v (vU64 b)]
theorem vz0 : vU64 0 = .int .u64 0 := rfl
attribute [local irreducible] Callable CallOK CallG CallM DrawG LoopG symR symM
attribute [local irreducible] may eopErr eopX eopY eopOk subU powU hidU atU
set_option maxRecDepth 100000 in
set_option maxHeartbeats 8000000 in
theorem open25_any (me gen : Int) (key : UInt64) (from_ : Pr) (t0 t1 : UInt64) (w : World) (hk : LaidK 2 w) (hw : TabW w) :
    Calls Tryd.prog 30 (List.map (Sv.val []) [.x (.a (.v (.int .i64 me))), .x (.a (.v (.int .i64 gen))), .x (.a (.v (vU64 key))), .x (.g [.v (.int .i64 from_.1), .v (vU64 from_.2)]), .x (.a64 [t0, t1])]).toArray w fun e w' => e = .returned (.tuple #[.agg (eopL me gen key from_ t0 t1).toArray, eopErr me gen from_ t0 t1]) ∧ Below w.heap.size w w' := by
  obtain ⟨id, pu⟩ := from_
  refine calls_v (n := 81) Tryd.func30 rfl Tryd.ntmps30 [.x (.a (.v (.int .i64 me))), .x (.a (.v (.int .i64 gen))), .x (.a (.v (vU64 key))), .x (.g [.v (.int .i64 id), .v (vU64 pu)]), .x (.a64 [t0, t1])] (by simp) (.t [.g [.v (vU64 (eopX me gen (id, pu) t0 t1)), .v (vU64 (eopY me gen key (id, pu) t0 t1 t0 0)), .v (vU64 (eopX me gen (id, pu) t0 t1)), .v (vU64 (eopY me gen key (id, pu) t0 t1 t1 1))], .a (.v (eopErr me gen (id, pu) t0 t1))]) (fun _ => rfl) ?_
  have no := fun h => eop_no (me := me) (gen := gen) (p := (id, pu)) (t0 := t0) (t1 := t1) h key
  have hlit : (2305843009213693951 : UInt64) = fpP := rfl
  by_cases g1 : me < 0
  · obtain ⟨n1, n2, n3⟩ := no fun h => by have := eopOk_spec.1 h; omega
    simp (config := { maxSteps := 1000000 }) only [g1, n1, n2, n3, vz0, undef, push_cast, ↓Int.toNat_natCast, ↓Int.cast_ofNat_Int, Int.cast_ofNat_Int, ↓reduceIte, reduceCtorEq, Nat.reduceEqDiff, Nat.reduceLT, Nat.reduceLeDiff, Nat.reduceAdd, Nat.reduceSub, Nat.reduceMul, Int.reduceNeg, Int.reduceLE, Int.reduceLT, Int.reduceToNat, Int.reduceAdd, Int.reduceSub, Int.reduceMul, Int.reduceEq]
  by_cases g2 : 64 ≤ me
  · obtain ⟨n1, n2, n3⟩ := no fun h => by have := eopOk_spec.1 h; omega
    simp (config := { maxSteps := 1000000 }) only [g1, g2, n1, n2, n3, vz0, undef, push_cast, ↓Int.toNat_natCast, ↓Int.cast_ofNat_Int, Int.cast_ofNat_Int, ↓reduceIte, reduceCtorEq, Nat.reduceEqDiff, Nat.reduceLT, Nat.reduceLeDiff, Nat.reduceAdd, Nat.reduceSub, Nat.reduceMul, Int.reduceNeg, Int.reduceLE, Int.reduceLT, Int.reduceToNat, Int.reduceAdd, Int.reduceSub, Int.reduceMul, Int.reduceEq]
  by_cases g3 : gen < 1
  · obtain ⟨n1, n2, n3⟩ := no fun h => by have := eopOk_spec.1 h; omega
    simp (config := { maxSteps := 1000000 }) only [g1, g2, g3, n1, n2, n3, vz0, undef, push_cast, ↓Int.toNat_natCast, ↓Int.cast_ofNat_Int, Int.cast_ofNat_Int, ↓reduceIte, reduceCtorEq, Nat.reduceEqDiff, Nat.reduceLT, Nat.reduceLeDiff, Nat.reduceAdd, Nat.reduceSub, Nat.reduceMul, Int.reduceNeg, Int.reduceLE, Int.reduceLT, Int.reduceToNat, Int.reduceAdd, Int.reduceSub, Int.reduceMul, Int.reduceEq]
  by_cases g4 : 1073741824 < gen
  · obtain ⟨n1, n2, n3⟩ := no fun h => by have := eopOk_spec.1 h; omega
    simp (config := { maxSteps := 1000000 }) only [g1, g2, g3, g4, n1, n2, n3, vz0, undef, push_cast, ↓Int.toNat_natCast, ↓Int.cast_ofNat_Int, Int.cast_ofNat_Int, ↓reduceIte, reduceCtorEq, Nat.reduceEqDiff, Nat.reduceLT, Nat.reduceLeDiff, Nat.reduceAdd, Nat.reduceSub, Nat.reduceMul, Int.reduceNeg, Int.reduceLE, Int.reduceLT, Int.reduceToNat, Int.reduceAdd, Int.reduceSub, Int.reduceMul, Int.reduceEq]
  simp (config := { maxSteps := 1000000 }) only [g1, g2, g3, g4, undef, push_cast, ↓Int.toNat_natCast, ↓Int.cast_ofNat_Int, Int.cast_ofNat_Int, ↓reduceIte, reduceCtorEq, Nat.reduceEqDiff, Nat.reduceLT, Nat.reduceLeDiff, Nat.reduceAdd, Nat.reduceSub, Nat.reduceMul, Int.reduceNeg, Int.reduceLE, Int.reduceLT, Int.reduceToNat, Int.reduceAdd, Int.reduceSub, Int.reduceMul, Int.reduceEq]
  (repeat (refine And.intro (by first | omega | decide) ?_))
  refine callG_v rfl cb55 rfl (check09OK (l := [(id, pu)]) (showsR_onn rfl (fun _ => rfl) rfl)) (dOk_lt rfl) ?_
  have hx0 : ix [t0, t1] 0 = t0 := rfl
  have hx1 : ix [t0, t1] 1 = t1 := rfl
  cases hm : may [(id, pu)]
  · obtain ⟨n1, n2, n3⟩ := no fun h => by rw [(eopOk_spec.1 h).1] at hm; cases hm
    simp (config := { maxSteps := 1000000 }) only [mayErr_no hm, n1, n2, n3, vz0, undef, push_cast, ↓Int.toNat_natCast, ↓Int.cast_ofNat_Int, Int.cast_ofNat_Int, ↓reduceIte, reduceCtorEq, Nat.reduceEqDiff, Nat.reduceLT, Nat.reduceLeDiff, Nat.reduceAdd, Nat.reduceSub, Nat.reduceMul, Int.reduceNeg, Int.reduceLE, Int.reduceLT, Int.reduceToNat, Int.reduceAdd, Int.reduceSub, Int.reduceMul, Int.reduceEq]
  by_cases g5 : fpP ≤ t0
  · obtain ⟨n1, n2, n3⟩ := no fun h => (eopOk_spec.1 h).2.2.2.2.2.1 g5
    simp (config := { maxSteps := 1000000 }) only [mayErr_yes hm, hx0, hx1, hlit, g5, n1, n2, n3, vz0, undef, push_cast, ↓Int.toNat_natCast, ↓Int.cast_ofNat_Int, Int.cast_ofNat_Int, ↓reduceIte, reduceCtorEq, Nat.reduceEqDiff, Nat.reduceLT, Nat.reduceLeDiff, Nat.reduceAdd, Nat.reduceSub, Nat.reduceMul, Int.reduceNeg, Int.reduceLE, Int.reduceLT, Int.reduceToNat, Int.reduceAdd, Int.reduceSub, Int.reduceMul, Int.reduceEq]
  by_cases g6 : fpP ≤ t1
  · obtain ⟨n1, n2, n3⟩ := no fun h => (eopOk_spec.1 h).2.2.2.2.2.2 g6
    simp (config := { maxSteps := 1000000 }) only [mayErr_yes hm, hx0, hx1, hlit, g5, g6, n1, n2, n3, vz0, undef, push_cast, ↓Int.toNat_natCast, ↓Int.cast_ofNat_Int, Int.cast_ofNat_Int, ↓reduceIte, reduceCtorEq, Nat.reduceEqDiff, Nat.reduceLT, Nat.reduceLeDiff, Nat.reduceAdd, Nat.reduceSub, Nat.reduceMul, Int.reduceNeg, Int.reduceLE, Int.reduceLT, Int.reduceToNat, Int.reduceAdd, Int.reduceSub, Int.reduceMul, Int.reduceEq]
  obtain ⟨n1, n2, n3⟩ := eop_yes (me := me) (gen := gen) (p := (id, pu)) (t0 := t0) (t1 := t1) (eopOk_spec.2 ⟨hm, by omega, by omega, by omega, by omega, g5, g6⟩) key
  obtain ⟨m, rfl⟩ : ∃ m : Nat, me = m := ⟨me.toNat, by omega⟩
  obtain ⟨g, rfl⟩ : ∃ g : Nat, gen = g := ⟨gen.toNat, by omega⟩
  obtain ⟨d, hd, hd64⟩ := may_id hm (i := 0) (Nat.zero_lt_succ 0)
  have hd : id = (d : Int) := hd
  subst hd
  have hm64 : m < 64 := by omega
  simp only [Int.toNat_natCast] at n3
  simp (config := { maxSteps := 1000000 }) only [mayErr_yes hm, hx0, hx1, hlit, g5, g6, undef, push_cast, ↓Int.toNat_natCast, ↓Int.cast_ofNat_Int, Int.cast_ofNat_Int, ↓reduceIte, reduceCtorEq, Nat.reduceEqDiff, Nat.reduceLT, Nat.reduceLeDiff, Nat.reduceAdd, Nat.reduceSub, Nat.reduceMul, Int.reduceNeg, Int.reduceLE, Int.reduceLT, Int.reduceToNat, Int.reduceAdd, Int.reduceSub, Int.reduceMul, Int.reduceEq]
  (repeat (refine And.intro (by first | omega | decide) ?_))
  generalize hq0 : hidU (powU pu key) d m g 0 = h0 at *
  generalize hq1 : hidU (powU pu key) d m g 1 = h1 at *
  refine drawV_rule 4 [] (.rd 0 (.rd 1 (.rd 2 (.rd 4 (.rd 5 (.rd 6 (.rd 7 (.fk 3 (.fk 8 (.rd 9 (.rd 10 (.rd 11 (.wr 12 (.wr 13 (.rd 14 .nil)))))) 12 (.wr 8 (.rd 9 (.rd 10 (.rd 11 (.wr 13 (.rd 14 .nil))))))) 12 (.wr 3 (.wr 8 (.rd 9 (.rd 10 (.rd 11 (.wr 13 (.rd 14 .nil))))))))))))))) ⟨[(0, .x (.a (.v (.int .i64 m)))), (9, .x (.a (.p 1 0))), (10, .x (.a (.p 2 0))), (12, .x (.a (.p 4 0))), (13, .x (.a (.v .nilIface)))],
    [.blk 55 (.c [.v (.int .i64 d), .v (vU64 pu)]), .blk 66 (.u64 [t0, t1]), .blk 77 (.c [.v (.int .u64 0), .v (.int .u64 0), .v (.int .u64 0), .v (.int .u64 0)]), .onn 55 2 (.c [.v (.int .i64 d), .v (vU64 pu)]), .blk 66 (.u64 [h0, h1])]⟩ (by kernel_rfl) (by kernel_rfl) (by kernel_rfl) (Nat.le_add_left 4 0) ?_ ?_
  · simp (config := { maxSteps := 1000000 }) only [undef, push_cast, ↓Int.toNat_natCast, ↓Int.cast_ofNat_Int, Int.cast_ofNat_Int, ↓reduceIte, reduceCtorEq, Nat.reduceEqDiff, Nat.reduceLT, Nat.reduceLeDiff, Nat.reduceAdd, Nat.reduceSub, Nat.reduceMul, Int.reduceNeg, Int.reduceLE, Int.reduceLT, Int.reduceToNat, Int.reduceAdd, Int.reduceSub, Int.reduceMul, Int.reduceEq]
    (repeat (refine And.intro (by first | omega | decide) ?_))
    refine ⟨?_, ?_⟩
    · refine callQ_v rfl cb71 rfl (sharedK _ _) (dOk_lt rfl) ?_
      simp (config := { maxSteps := 1000000 }) only [undef, push_cast, ↓Int.toNat_natCast, ↓Int.cast_ofNat_Int, Int.cast_ofNat_Int, ↓reduceIte, reduceCtorEq, Nat.reduceEqDiff, Nat.reduceLT, Nat.reduceLeDiff, Nat.reduceAdd, Nat.reduceSub, Nat.reduceMul, Int.reduceNeg, Int.reduceLE, Int.reduceLT, Int.reduceToNat, Int.reduceAdd, Int.reduceSub, Int.reduceMul, Int.reduceEq]
      (repeat (refine And.intro (by first | omega | decide) ?_))
      refine ⟨?_, ?_⟩
      · refine callQ_v rfl cb70 rfl (hidesOK (powU pu key) d m g hd64 hm64 (by omega) hk hw) (dOk_lt rfl) ?_
        simp (config := { maxSteps := 1000000 }) only [hq0, hq1, undef, push_cast, ↓Int.toNat_natCast, ↓Int.cast_ofNat_Int, Int.cast_ofNat_Int, ↓reduceIte, reduceCtorEq, Nat.reduceEqDiff, Nat.reduceLT, Nat.reduceLeDiff, Nat.reduceAdd, Nat.reduceSub, Nat.reduceMul, Int.reduceNeg, Int.reduceLE, Int.reduceLT, Int.reduceToNat, Int.reduceAdd, Int.reduceSub, Int.reduceMul, Int.reduceEq]
        (repeat (refine And.intro (by first | omega | decide) ?_))
        refine leads_le [0, 1, 2, 3, 4] ?_
        simp (config := { maxSteps := 1000000 }) only [push_cast, ↓Int.toNat_natCast, ↓Int.cast_ofNat_Int, Int.cast_ofNat_Int, ↓reduceIte, reduceCtorEq, Nat.reduceEqDiff, Nat.reduceLT, Nat.reduceLeDiff, Nat.reduceAdd, Nat.reduceSub, Nat.reduceMul, Int.reduceNeg, Int.reduceLE, Int.reduceLT, Int.reduceToNat, Int.reduceAdd, Int.reduceSub, Int.reduceMul, Int.reduceEq]
      · refine callQ_v rfl cb70 rfl (hidesOK (powU pu key) d m g hd64 hm64 (by omega) hk hw) (dOk_lt rfl) ?_
        simp (config := { maxSteps := 1000000 }) only [hq0, hq1, undef, push_cast, ↓Int.toNat_natCast, ↓Int.cast_ofNat_Int, Int.cast_ofNat_Int, ↓reduceIte, reduceCtorEq, Nat.reduceEqDiff, Nat.reduceLT, Nat.reduceLeDiff, Nat.reduceAdd, Nat.reduceSub, Nat.reduceMul, Int.reduceNeg, Int.reduceLE, Int.reduceLT, Int.reduceToNat, Int.reduceAdd, Int.reduceSub, Int.reduceMul, Int.reduceEq]
        (repeat (refine And.intro (by first | omega | decide) ?_))
        refine leads_le [0, 1, 2, 3, 4] ?_
        simp (config := { maxSteps := 1000000 }) only [push_cast, ↓Int.toNat_natCast, ↓Int.cast_ofNat_Int, Int.cast_ofNat_Int, ↓reduceIte, reduceCtorEq, Nat.reduceEqDiff, Nat.reduceLT, Nat.reduceLeDiff, Nat.reduceAdd, Nat.reduceSub, Nat.reduceMul, Int.reduceNeg, Int.reduceLE, Int.reduceLT, Int.reduceToNat, Int.reduceAdd, Int.reduceSub, Int.reduceMul, Int.reduceEq]
    · refine callQ_v rfl cb71 rfl (sharedK _ _) (dOk_lt rfl) ?_
      simp (config := { maxSteps := 1000000 }) only [undef, push_cast, ↓Int.toNat_natCast, ↓Int.cast_ofNat_Int, Int.cast_ofNat_Int, ↓reduceIte, reduceCtorEq, Nat.reduceEqDiff, Nat.reduceLT, Nat.reduceLeDiff, Nat.reduceAdd, Nat.reduceSub, Nat.reduceMul, Int.reduceNeg, Int.reduceLE, Int.reduceLT, Int.reduceToNat, Int.reduceAdd, Int.reduceSub, Int.reduceMul, Int.reduceEq]
      (repeat (refine And.intro (by first | omega | decide) ?_))
      refine callQ_v rfl cb70 rfl (hidesOK (powU pu key) d m g hd64 hm64 (by omega) hk hw) (dOk_lt rfl) ?_
      simp (config := { maxSteps := 1000000 }) only [hq0, hq1, undef, push_cast, ↓Int.toNat_natCast, ↓Int.cast_ofNat_Int, Int.cast_ofNat_Int, ↓reduceIte, reduceCtorEq, Nat.reduceEqDiff, Nat.reduceLT, Nat.reduceLeDiff, Nat.reduceAdd, Nat.reduceSub, Nat.reduceMul, Int.reduceNeg, Int.reduceLE, Int.reduceLT, Int.reduceToNat, Int.reduceAdd, Int.reduceSub, Int.reduceMul, Int.reduceEq]
      (repeat (refine And.intro (by first | omega | decide) ?_))
      refine leads_le [0, 1, 2, 3, 4] ?_
      simp (config := { maxSteps := 1000000 }) only [push_cast, ↓Int.toNat_natCast, ↓Int.cast_ofNat_Int, Int.cast_ofNat_Int, ↓reduceIte, reduceCtorEq, Nat.reduceEqDiff, Nat.reduceLT, Nat.reduceLeDiff, Nat.reduceAdd, Nat.reduceSub, Nat.reduceMul, Int.reduceNeg, Int.reduceLE, Int.reduceLT, Int.reduceToNat, Int.reduceAdd, Int.reduceSub, Int.reduceMul, Int.reduceEq]
  · simp (config := { maxSteps := 1000000 }) only [undef, push_cast, ↓Int.toNat_natCast, ↓Int.cast_ofNat_Int, Int.cast_ofNat_Int, ↓reduceIte, reduceCtorEq, Nat.reduceEqDiff, Nat.reduceLT, Nat.reduceLeDiff, Nat.reduceAdd, Nat.reduceSub, Nat.reduceMul, Int.reduceNeg, Int.reduceLE, Int.reduceLT, Int.reduceToNat, Int.reduceAdd, Int.reduceSub, Int.reduceMul, Int.reduceEq]
    (repeat (refine And.intro (by first | omega | decide) ?_))
    refine loop_rule (ι := Nat) (fun i => ⟨[(0, .x (.a (.v (.int .i64 m)))), (9, .x (.a (.p 0 0))), (10, .x (.a (.p 1 0))), (12, .x (.a (.p 2 0))), (14, .x (.a (.p 3 0))), (64, .x (.a (.v (.int .i64 i))))],
      [.blk 66 (.u64 [t0, t1]), .blk 77 (.c [.v (.int .u64 0), .v (.int .u64 0), .v (.int .u64 0), .v (.int .u64 0)]), .blk 66 (.u64 [h0, h1]), .blk 77 (.c (eopTo (atU m) (subU t0 h0) (subU t1 h1) i))]⟩) (fun i => i ≤ 2) (fun i => 2 - i) 0 [1, 2, 4, 5] (by omega) ?_ ?_
    · simp (config := { maxSteps := 1000000 }) only [eopTo, push_cast, ↓Int.toNat_natCast, ↓Int.cast_ofNat_Int, Int.cast_ofNat_Int, ↓reduceIte, reduceCtorEq, Nat.reduceEqDiff, Nat.reduceLT, Nat.reduceLeDiff, Nat.reduceAdd, Nat.reduceSub, Nat.reduceMul, Int.reduceNeg, Int.reduceLE, Int.reduceLT, Int.reduceToNat, Int.reduceAdd, Int.reduceSub, Int.reduceMul, Int.reduceEq]
    · intro i hi
      have hy0 : ix [h0, h1] 0 = h0 := rfl
      have hy1 : ix [h0, h1] 1 = h1 := rfl
      match i, hi with
      | 0, _ =>
        simp (config := { maxSteps := 1000000 }) only [eopTo, undef, push_cast, ↓Int.toNat_natCast, ↓Int.cast_ofNat_Int, Int.cast_ofNat_Int, ↓reduceIte, reduceCtorEq, Nat.reduceEqDiff, Nat.reduceLT, Nat.reduceLeDiff, Nat.reduceAdd, Nat.reduceSub, Nat.reduceMul, Int.reduceNeg, Int.reduceLE, Int.reduceLT, Int.reduceToNat, Int.reduceAdd, Int.reduceSub, Int.reduceMul, Int.reduceEq]
        (repeat (refine And.intro (by first | omega | decide) ?_))
        refine drawK_rule [3] [(0, true), (1, true), (3, true), (4, true), (5, true), (6, true), (7, true), (8, true), (2, false), (9, false), (10, true), (11, true), (12, false)] (by kernel_rfl) (by kernel_rfl) rfl (by kernel_rfl) ?_
        simp (config := { maxSteps := 1000000 }) only [eopTo, hx0, hx1, hy0, hy1, undef, push_cast, ↓Int.toNat_natCast, ↓Int.cast_ofNat_Int, Int.cast_ofNat_Int, ↓reduceIte, reduceCtorEq, Nat.reduceEqDiff, Nat.reduceLT, Nat.reduceLeDiff, Nat.reduceAdd, Nat.reduceSub, Nat.reduceMul, Int.reduceNeg, Int.reduceLE, Int.reduceLT, Int.reduceToNat, Int.reduceAdd, Int.reduceSub, Int.reduceMul, Int.reduceEq]
        (repeat (refine And.intro (by first | omega | decide) ?_))
        refine callK_v rfl cb34 rfl (atOK m) (dOk_lt rfl) ?_
        simp (config := { maxSteps := 1000000 }) only [eopTo, hx0, hx1, hy0, hy1, undef, push_cast, ↓Int.toNat_natCast, ↓Int.cast_ofNat_Int, Int.cast_ofNat_Int, ↓reduceIte, reduceCtorEq, Nat.reduceEqDiff, Nat.reduceLT, Nat.reduceLeDiff, Nat.reduceAdd, Nat.reduceSub, Nat.reduceMul, Int.reduceNeg, Int.reduceLE, Int.reduceLT, Int.reduceToNat, Int.reduceAdd, Int.reduceSub, Int.reduceMul, Int.reduceEq]
        (repeat (refine And.intro (by first | omega | decide) ?_))
        refine callK_v rfl cb77 rfl (fpSubK _ _) (dOk_lt rfl) ?_
        simp (config := { maxSteps := 1000000 }) only [eopTo, hx0, hx1, hy0, hy1, undef, push_cast, ↓Int.toNat_natCast, ↓Int.cast_ofNat_Int, Int.cast_ofNat_Int, ↓reduceIte, reduceCtorEq, Nat.reduceEqDiff, Nat.reduceLT, Nat.reduceLeDiff, Nat.reduceAdd, Nat.reduceSub, Nat.reduceMul, Int.reduceNeg, Int.reduceLE, Int.reduceLT, Int.reduceToNat, Int.reduceAdd, Int.reduceSub, Int.reduceMul, Int.reduceEq]
        (repeat (refine And.intro (by first | omega | decide) ?_))
        refine loopK_normal 1 [0, 1, 2, 3] (by omega) (by omega) ?_
        simp (config := { maxSteps := 1000000 }) only [eopTo, push_cast, ↓Int.toNat_natCast, ↓Int.cast_ofNat_Int, Int.cast_ofNat_Int, ↓reduceIte, reduceCtorEq, Nat.reduceEqDiff, Nat.reduceLT, Nat.reduceLeDiff, Nat.reduceAdd, Nat.reduceSub, Nat.reduceMul, Int.reduceNeg, Int.reduceLE, Int.reduceLT, Int.reduceToNat, Int.reduceAdd, Int.reduceSub, Int.reduceMul, Int.reduceEq]
      | 1, _ =>
        simp (config := { maxSteps := 1000000 }) only [eopTo, undef, push_cast, ↓Int.toNat_natCast, ↓Int.cast_ofNat_Int, Int.cast_ofNat_Int, ↓reduceIte, reduceCtorEq, Nat.reduceEqDiff, Nat.reduceLT, Nat.reduceLeDiff, Nat.reduceAdd, Nat.reduceSub, Nat.reduceMul, Int.reduceNeg, Int.reduceLE, Int.reduceLT, Int.reduceToNat, Int.reduceAdd, Int.reduceSub, Int.reduceMul, Int.reduceEq]
        (repeat (refine And.intro (by first | omega | decide) ?_))
        refine drawK_rule [3] [(0, true), (1, true), (3, true), (4, true), (5, true), (6, true), (7, true), (8, true), (2, false), (9, false), (10, true), (11, true), (12, false)] (by kernel_rfl) (by kernel_rfl) rfl (by kernel_rfl) ?_
        simp (config := { maxSteps := 1000000 }) only [eopTo, hx0, hx1, hy0, hy1, undef, push_cast, ↓Int.toNat_natCast, ↓Int.cast_ofNat_Int, Int.cast_ofNat_Int, ↓reduceIte, reduceCtorEq, Nat.reduceEqDiff, Nat.reduceLT, Nat.reduceLeDiff, Nat.reduceAdd, Nat.reduceSub, Nat.reduceMul, Int.reduceNeg, Int.reduceLE, Int.reduceLT, Int.reduceToNat, Int.reduceAdd, Int.reduceSub, Int.reduceMul, Int.reduceEq]
        (repeat (refine And.intro (by first | omega | decide) ?_))
        refine callK_v rfl cb34 rfl (atOK m) (dOk_lt rfl) ?_
        simp (config := { maxSteps := 1000000 }) only [eopTo, hx0, hx1, hy0, hy1, undef, push_cast, ↓Int.toNat_natCast, ↓Int.cast_ofNat_Int, Int.cast_ofNat_Int, ↓reduceIte, reduceCtorEq, Nat.reduceEqDiff, Nat.reduceLT, Nat.reduceLeDiff, Nat.reduceAdd, Nat.reduceSub, Nat.reduceMul, Int.reduceNeg, Int.reduceLE, Int.reduceLT, Int.reduceToNat, Int.reduceAdd, Int.reduceSub, Int.reduceMul, Int.reduceEq]
        (repeat (refine And.intro (by first | omega | decide) ?_))
        refine callK_v rfl cb77 rfl (fpSubK _ _) (dOk_lt rfl) ?_
        simp (config := { maxSteps := 1000000 }) only [eopTo, hx0, hx1, hy0, hy1, undef, push_cast, ↓Int.toNat_natCast, ↓Int.cast_ofNat_Int, Int.cast_ofNat_Int, ↓reduceIte, reduceCtorEq, Nat.reduceEqDiff, Nat.reduceLT, Nat.reduceLeDiff, Nat.reduceAdd, Nat.reduceSub, Nat.reduceMul, Int.reduceNeg, Int.reduceLE, Int.reduceLT, Int.reduceToNat, Int.reduceAdd, Int.reduceSub, Int.reduceMul, Int.reduceEq]
        (repeat (refine And.intro (by first | omega | decide) ?_))
        refine loopK_normal 2 [0, 1, 2, 3] (by omega) (by omega) ?_
        simp (config := { maxSteps := 1000000 }) only [eopTo, push_cast, ↓Int.toNat_natCast, ↓Int.cast_ofNat_Int, Int.cast_ofNat_Int, ↓reduceIte, reduceCtorEq, Nat.reduceEqDiff, Nat.reduceLT, Nat.reduceLeDiff, Nat.reduceAdd, Nat.reduceSub, Nat.reduceMul, Int.reduceNeg, Int.reduceLE, Int.reduceLT, Int.reduceToNat, Int.reduceAdd, Int.reduceSub, Int.reduceMul, Int.reduceEq]
      | 2, _ => simp (config := { maxSteps := 1000000 }) only [eopTo, n1, n2, n3, hq0, hq1, undef, push_cast, ↓Int.toNat_natCast, ↓Int.cast_ofNat_Int, Int.cast_ofNat_Int, ↓reduceIte, reduceCtorEq, Nat.reduceEqDiff, Nat.reduceLT, Nat.reduceLeDiff, Nat.reduceAdd, Nat.reduceSub, Nat.reduceMul, Int.reduceNeg, Int.reduceLE, Int.reduceLT, Int.reduceToNat, Int.reduceAdd, Int.reduceSub, Int.reduceMul, Int.reduceEq]
end Go.Proofs.YteiifdpikcnbgaaDoor
