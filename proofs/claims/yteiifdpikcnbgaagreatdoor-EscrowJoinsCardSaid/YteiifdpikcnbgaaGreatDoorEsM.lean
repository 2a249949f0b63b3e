/- EsM: EsD, EsE, EsF, EsG, EsH, joined. -/
import Derived.Test.YteiifdpikcnbgaaGreatDoorEsA
import Derived.Test.YteiifdpikcnbgaaGreatDoorEsN
import Derived.Test.YteiifdpikcnbgaaGreatDoorBl1
import Derived.Test.YteiifdpikcnbgaaGreatDoorNmA
/- escrow.At, escrow.Box: for each peer the two shares that it is to keep. -/
namespace Go.Proofs.YteiifdpikcnbgaaGreatDoor
open Go.RowKit
set_option linter.unusedSimpArgs false
set_option linter.unusedVariables false
def atU (n : Int) : UInt64 := UInt64.ofInt n + 1
def bxOk (me gen need : Int) (key : UInt64) (n1 n2 : Nat) (l : List Pr) : Bool := may l && (isP l (me, powU 3 key) && decide (1 ≤ gen ∧ gen ≤ 1073741824 ∧ 1 ≤ need ∧ need ≤ l.length ∧ need - 1 ≤ n1 ∧ need - 1 ≤ n2))
theorem bxOk_spec {me gen need : Int} {key : UInt64} {n1 n2 : Nat} {l : List Pr} : bxOk me gen need key n1 n2 l = true ↔ may l = true ∧ isP l (me, powU 3 key) = true ∧ 1 ≤ gen ∧ gen ≤ 1073741824 ∧ 1 ≤ need ∧ need ≤ l.length ∧ need - 1 ≤ n1 ∧ need - 1 ≤ n2 := by
  unfold bxOk
  rw [Bool.and_eq_true, Bool.and_eq_true, decide_eq_true_eq]
def bxErr (me gen need : Int) (key : UInt64) (n1 n2 : Nat) (l : List Pr) : Value := if bxOk me gen need key n1 n2 l = true then .nilIface else .iface 75 (.int .i64 1)
/-- The two numbers for one peer. -/
def bxV (c : List UInt64) (me gen : Int) (key : UInt64) (p : Pr) (i : Nat) : UInt64 := addU (polyU c (atU p.1)) (hidU (powU p.2 key) me.toNat p.1.toNat gen.toNat i)
def bxTo (a b : List UInt64) (me gen : Int) (key : UInt64) (l : List Pr) : Nat → List UInt64
  | 0 => []
  | k + 1 => bxTo a b me gen key l k ++ [bxV a me gen key (ix l k) 0, bxV b me gen key (ix l k) 1]
theorem bxTo_succ (a b : List UInt64) (me gen : Int) (key : UInt64) (l : List Pr) (k : Nat) : bxTo a b me gen key l (k + 1) = bxTo a b me gen key l k ++ [bxV a me gen key (ix l k) 0, bxV b me gen key (ix l k) 1] := rfl
theorem bxTo_length (a b : List UInt64) (me gen : Int) (key : UInt64) (l : List Pr) (k : Nat) : (bxTo a b me gen key l k).length = 2 * k := by
  induction k with
  | zero => rfl
  | succ k ih => rw [bxTo, List.length_append, ih]; rfl
def bxOut (me gen need : Int) (self key : UInt64) (of an : List UInt64) (l : List Pr) : List UInt64 :=
  if bxOk me gen need key of.length an.length l = true then bxTo (self :: of.take (need - 1).toNat) (key :: an.take (need - 1).toNat) me gen key l l.length else []
theorem bx_no {me gen need : Int} {key : UInt64} {of an : List UInt64} {l : List Pr} (h : ¬ bxOk me gen need key of.length an.length l = true) (self : UInt64) :
    bxErr me gen need key of.length an.length l = .iface 75 (.int .i64 1) ∧ bxOut me gen need self key of an l = [] := ⟨if_neg h, if_neg h⟩
theorem bx_yes {me gen need : Int} {key : UInt64} {of an : List UInt64} {l : List Pr} (h : bxOk me gen need key of.length an.length l = true) (self : UInt64) :
    bxErr me gen need key of.length an.length l = .nilIface ∧ bxOut me gen need self key of an l = bxTo (self :: of.take (need - 1).toNat) (key :: an.take (need - 1).toNat) me gen key l l.length := ⟨if_pos h, if_pos h⟩
theorem may_id {l : List Pr} (h : may l = true) {i : Nat} (hi : i < l.length) : ∃ n : Nat, (ix l i).1 = n ∧ n < 64 := by
  obtain ⟨h1, h2, _⟩ := (may_pw.1 h).2 _ (ix_mem hi)
  exact ⟨(ix l i).1.toNat, by omega, by omega⟩
theorem isP_id {l : List Pr} {p : Pr} (h : may l = true) (hp : isP l p = true) : ∃ n : Nat, p.1 = n ∧ n < 64 := by
  obtain ⟨i, hi, e⟩ := mem_ix (of_decide_eq_true hp)
  rw [← e]
  exact may_id h hi
theorem rd64_take {w : World} {A : Option Addr} {l : List UInt64} (k : Nat) (hk : k ≤ l.length) (h : RdV w w.heap.size A (l.map vU64)) : rd64 w A k = l.take k ∧ Rd64 w No A k := by
  have := rd64_of (l := l.take k) (FV.no (by rw [List.map_take]; exact rdv_take h k))
  rwa [List.length_take, show min k l.length = k from by omega] at this
theorem pCut_zero (A : Option Addr) (c : Nat) : pCut A 0 c = A := by unfold pCut; split <;> first | rfl | (cases A <;> first | rfl | (simp only [pAdd, Option.map_some, Addr.add]; rfl))
attribute [local irreducible] Callable CallOK CallG CallM DrawG LoopG symR symM
set_option maxRecDepth 100000 in
theorem at_any (n : Int) (w : World) : Calls Tryz.prog 17 #[.int .i64 n] w fun e w' => e = .returned (vU64 (atU n)) ∧ Below w.heap.size w w' := by
  refine calls_v (n := 6) Tryz.func17 rfl Tryz.ntmps17 [.x (.a (.v (.int .i64 n)))] (by simp) (.x (.a (.v (vU64 (atU n))))) (fun _ => rfl) ?_
  have h : UInt64.ofInt n + 1 = atU n := rfl
  simp only [undef, h, push_cast, ↓Int.toNat_natCast, ↓Int.cast_ofNat_Int, Int.cast_ofNat_Int, ↓reduceIte, reduceCtorEq, Nat.reduceEqDiff, Nat.reduceLT, Nat.reduceLeDiff, Nat.reduceAdd, Nat.reduceSub, Nat.reduceMul, Int.reduceNeg, Int.reduceLE, Int.reduceLT, Int.reduceToNat, Int.reduceAdd, Int.reduceSub, Int.reduceMul, Int.reduceEq]
theorem atOK {w0 : World} {ow : Nat → Prop} {hp : List Res} (n : Int) : CallOK Tryz.prog w0 ow 17 [.x (.a (.v (.int .i64 n)))] hp (.x (.a (.v (vU64 (atU n))))) hp := callOK_v fun _ w _ => at_any n w
attribute [local irreducible] may isP bxErr bxOut bxOk bxTo bxV addU polyU powU hidU atU
set_option maxRecDepth 100000 in
set_option maxHeartbeats 8000000 in
theorem box_any (me gen need : Int) (self key : UInt64) (of an : List UInt64) (l : List Pr) (A : Option Addr) (c : Nat) (A2 : Option Addr) (c2 : Nat) (A3 : Option Addr) (c3 : Nat) (w : World) (hl : l.length ≤ 1000) (h2l : of.length ≤ 1000) (h3l : an.length ≤ 1000)
    (hc : l.length ≤ c) (hc2 : of.length ≤ c2) (hc3 : an.length ≤ c3) (hR : RdV w w.heap.size A (pvs l)) (hR2 : RdV w w.heap.size A2 (of.map vU64)) (hR3 : RdV w w.heap.size A3 (an.map vU64)) (hk : LaidK 4 w) (hw : TabW w) :
    Calls Tryz.prog 7 (List.map (Sv.val []) [.x (.a (.v (.int .i64 me))), .x (.a (.v (.int .i64 gen))), (.x (.g [.v (vU64 self), .v (vU64 key), .v (.slice A2 of.length c2), .v (.slice A3 an.length c3)])), .x (.a (.v (.int .i64 need))), .x (.a (.v (.slice A l.length c)))]).toArray w fun e w' => ∃ v, e = .returned (.tuple #[v, bxErr me gen need key of.length an.length l]) ∧ Own w' w.heap.size 23 v ((bxOut me gen need self key of an l).map vU64) ∧ Below w.heap.size w w' := by
  have F := FP.of hR
  have h0 := fun h => calls_own2 (P := Tryz.prog) (w := w) (n := 130) Tryz.func7 rfl Tryz.ntmps7 [.x (.a (.v (.int .i64 me))), .x (.a (.v (.int .i64 gen))), (.x (.g [.v (vU64 self), .v (vU64 key), .v (.slice A2 of.length c2), .v (.slice A3 an.length c3)])), .x (.a (.v (.int .i64 need))), .x (.a (.v (.slice A l.length c)))] (by simp) 23 (.u64 (bxOut me gen need self key of an l)) (bxErr me gen need key of.length an.length l) (vs := (bxOut me gen need self key of an l).map vU64) (fun _ => rfl) h
  refine h0 ?_
  clear h0
  have no := fun h => bx_no (me := me) (gen := gen) (need := need) (key := key) (of := of) (an := an) (l := l) h self
  simp (config := { maxSteps := 1000000 }) only [undef, push_cast, ↓Int.toNat_natCast, ↓Int.cast_ofNat_Int, Int.cast_ofNat_Int, ↓reduceIte, reduceCtorEq, Nat.reduceEqDiff, Nat.reduceLT, Nat.reduceLeDiff, Nat.reduceAdd, Nat.reduceSub, Nat.reduceMul, Int.reduceNeg, Int.reduceLE, Int.reduceLT, Int.reduceToNat, Int.reduceAdd, Int.reduceSub, Int.reduceMul, Int.reduceEq]
  refine callG_v rfl cb19 rfl (check09OK (showsR_raw hR hc)) (dOk_lt rfl) ?_
  cases hm : may l
  · obtain ⟨n1, n2⟩ := no fun h => by rw [(bxOk_spec.1 h).1] at hm; cases hm
    simp (config := { maxSteps := 1000000 }) only [mayErr_no hm, n1, n2, undef, ownT2, ownT, push_cast, ↓Int.toNat_natCast, ↓Int.cast_ofNat_Int, Int.cast_ofNat_Int, ↓reduceIte, reduceCtorEq, Nat.reduceEqDiff, Nat.reduceLT, Nat.reduceLeDiff, Nat.reduceAdd, Nat.reduceSub, Nat.reduceMul, Int.reduceNeg, Int.reduceLE, Int.reduceLT, Int.reduceToNat, Int.reduceAdd, Int.reduceSub, Int.reduceMul, Int.reduceEq]
  simp (config := { maxSteps := 1000000 }) only [mayErr_yes hm, undef, push_cast, ↓Int.toNat_natCast, ↓Int.cast_ofNat_Int, Int.cast_ofNat_Int, ↓reduceIte, reduceCtorEq, Nat.reduceEqDiff, Nat.reduceLT, Nat.reduceLeDiff, Nat.reduceAdd, Nat.reduceSub, Nat.reduceMul, Int.reduceNeg, Int.reduceLE, Int.reduceLT, Int.reduceToNat, Int.reduceAdd, Int.reduceSub, Int.reduceMul, Int.reduceEq]
  (repeat (refine And.intro (by first | omega | decide) ?_))
  refine callG_v rfl cb6 rfl (publicK key) (dOk_lt rfl) ?_
  simp (config := { maxSteps := 1000000 }) only [mayErr_yes hm, undef, push_cast, ↓Int.toNat_natCast, ↓Int.cast_ofNat_Int, Int.cast_ofNat_Int, ↓reduceIte, reduceCtorEq, Nat.reduceEqDiff, Nat.reduceLT, Nat.reduceLeDiff, Nat.reduceAdd, Nat.reduceSub, Nat.reduceMul, Int.reduceNeg, Int.reduceLE, Int.reduceLT, Int.reduceToNat, Int.reduceAdd, Int.reduceSub, Int.reduceMul, Int.reduceEq]
  (repeat (refine And.intro (by first | omega | decide) ?_))
  refine callG_v rfl cb20 rfl (containsPOK2 (me, powU 3 key) (by omega) (showsR_raw hR hc)) (dOk_lt rfl) ?_
  cases hi : isP l (me, powU 3 key)
  · obtain ⟨n1, n2⟩ := no fun h => by rw [(bxOk_spec.1 h).2.1] at hi; cases hi
    simp (config := { maxSteps := 1000000 }) only [n1, n2, undef, ownT2, ownT, push_cast, ↓Int.toNat_natCast, ↓Int.cast_ofNat_Int, Int.cast_ofNat_Int, ↓reduceIte, reduceCtorEq, Nat.reduceEqDiff, Nat.reduceLT, Nat.reduceLeDiff, Nat.reduceAdd, Nat.reduceSub, Nat.reduceMul, Int.reduceNeg, Int.reduceLE, Int.reduceLT, Int.reduceToNat, Int.reduceAdd, Int.reduceSub, Int.reduceMul, Int.reduceEq]
  by_cases g1 : gen < 1
  · obtain ⟨n1, n2⟩ := no fun h => by have := bxOk_spec.1 h; omega
    simp (config := { maxSteps := 1000000 }) only [g1, n1, n2, undef, ownT2, ownT, push_cast, ↓Int.toNat_natCast, ↓Int.cast_ofNat_Int, Int.cast_ofNat_Int, ↓reduceIte, reduceCtorEq, Nat.reduceEqDiff, Nat.reduceLT, Nat.reduceLeDiff, Nat.reduceAdd, Nat.reduceSub, Nat.reduceMul, Int.reduceNeg, Int.reduceLE, Int.reduceLT, Int.reduceToNat, Int.reduceAdd, Int.reduceSub, Int.reduceMul, Int.reduceEq]
  by_cases g2 : 1073741824 < gen
  · obtain ⟨n1, n2⟩ := no fun h => by have := bxOk_spec.1 h; omega
    simp (config := { maxSteps := 1000000 }) only [g1, g2, n1, n2, undef, ownT2, ownT, push_cast, ↓Int.toNat_natCast, ↓Int.cast_ofNat_Int, Int.cast_ofNat_Int, ↓reduceIte, reduceCtorEq, Nat.reduceEqDiff, Nat.reduceLT, Nat.reduceLeDiff, Nat.reduceAdd, Nat.reduceSub, Nat.reduceMul, Int.reduceNeg, Int.reduceLE, Int.reduceLT, Int.reduceToNat, Int.reduceAdd, Int.reduceSub, Int.reduceMul, Int.reduceEq]
  by_cases g3 : need < 1
  · obtain ⟨n1, n2⟩ := no fun h => by have := bxOk_spec.1 h; omega
    simp (config := { maxSteps := 1000000 }) only [g1, g2, g3, n1, n2, undef, ownT2, ownT, push_cast, ↓Int.toNat_natCast, ↓Int.cast_ofNat_Int, Int.cast_ofNat_Int, ↓reduceIte, reduceCtorEq, Nat.reduceEqDiff, Nat.reduceLT, Nat.reduceLeDiff, Nat.reduceAdd, Nat.reduceSub, Nat.reduceMul, Int.reduceNeg, Int.reduceLE, Int.reduceLT, Int.reduceToNat, Int.reduceAdd, Int.reduceSub, Int.reduceMul, Int.reduceEq]
  by_cases g4 : (l.length : Int) < need
  · obtain ⟨n1, n2⟩ := no fun h => by have := bxOk_spec.1 h; omega
    simp (config := { maxSteps := 1000000 }) only [g1, g2, g3, g4, n1, n2, undef, ownT2, ownT, push_cast, ↓Int.toNat_natCast, ↓Int.cast_ofNat_Int, Int.cast_ofNat_Int, ↓reduceIte, reduceCtorEq, Nat.reduceEqDiff, Nat.reduceLT, Nat.reduceLeDiff, Nat.reduceAdd, Nat.reduceSub, Nat.reduceMul, Int.reduceNeg, Int.reduceLE, Int.reduceLT, Int.reduceToNat, Int.reduceAdd, Int.reduceSub, Int.reduceMul, Int.reduceEq]
  obtain ⟨nn, hq⟩ : ∃ nn : Nat, need - 1 = nn := ⟨(need - 1).toNat, by omega⟩
  have b1 : (-9223372036854775808 : Int) ≤ nn := by omega
  have b2 : (nn : Int) ≤ 9223372036854775807 := by omega
  by_cases g5 : (of.length : Int) < nn
  · obtain ⟨n1, n2⟩ := no fun h => by have := bxOk_spec.1 h; omega
    simp (config := { maxSteps := 1000000 }) only [g1, g2, g3, g4, g5, hq, b1, b2, n1, n2, undef, ownT2, ownT, push_cast, ↓Int.toNat_natCast, ↓Int.cast_ofNat_Int, Int.cast_ofNat_Int, ↓reduceIte, reduceCtorEq, Nat.reduceEqDiff, Nat.reduceLT, Nat.reduceLeDiff, Nat.reduceAdd, Nat.reduceSub, Nat.reduceMul, Int.reduceNeg, Int.reduceLE, Int.reduceLT, Int.reduceToNat, Int.reduceAdd, Int.reduceSub, Int.reduceMul, Int.reduceEq]
  by_cases g6 : (an.length : Int) < nn
  · obtain ⟨n1, n2⟩ := no fun h => by have := bxOk_spec.1 h; omega
    simp (config := { maxSteps := 1000000 }) only [g1, g2, g3, g4, g5, g6, hq, b1, b2, n1, n2, undef, ownT2, ownT, push_cast, ↓Int.toNat_natCast, ↓Int.cast_ofNat_Int, Int.cast_ofNat_Int, ↓reduceIte, reduceCtorEq, Nat.reduceEqDiff, Nat.reduceLT, Nat.reduceLeDiff, Nat.reduceAdd, Nat.reduceSub, Nat.reduceMul, Int.reduceNeg, Int.reduceLE, Int.reduceLT, Int.reduceToNat, Int.reduceAdd, Int.reduceSub, Int.reduceMul, Int.reduceEq]
  obtain ⟨n1, n2⟩ := bx_yes (me := me) (gen := gen) (need := need) (key := key) (of := of) (an := an) (l := l) (bxOk_spec.2 ⟨hm, hi, by omega, by omega, by omega, by omega, by omega, by omega⟩) self
  obtain ⟨e2, k2⟩ := rd64_take nn (by omega) hR2
  obtain ⟨e3, k3⟩ := rd64_take nn (by omega) hR3
  simp (config := { maxSteps := 1000000 }) only [g1, g2, g3, g4, g5, g6, hq, b1, b2, undef, push_cast, ↓Int.toNat_natCast, ↓Int.cast_ofNat_Int, Int.cast_ofNat_Int, ↓reduceIte, reduceCtorEq, Nat.reduceEqDiff, Nat.reduceLT, Nat.reduceLeDiff, Nat.reduceAdd, Nat.reduceSub, Nat.reduceMul, Int.reduceNeg, Int.reduceLE, Int.reduceLT, Int.reduceToNat, Int.reduceAdd, Int.reduceSub, Int.reduceMul, Int.reduceEq]
  (repeat (refine And.intro (by first | omega | decide) ?_))
  refine drawK_rule [1] [(0, true), (1, true), (3, true), (4, true), (5, true), (6, true), (7, true), (2, false), (8, false), (9, true)] (by kernel_rfl) (by kernel_rfl) rfl (by kernel_rfl) ?_
  have m1 : nn ≤ c2 := by omega
  have m2 : nn ≤ c3 := by omega
  have m3 : 0 ≤ (nn : Int) := by omega
  have t2 : (of.take nn).length = nn := by rw [List.length_take]; omega
  have t3 : (an.take nn).length = nn := by rw [List.length_take]; omega
  have b3 : (1 + nn) * 8 ≤ 140737488355328 := by omega
  have b4 : 1 + nn ≤ 2 ^ 63 - 1 := by omega
  simp (config := { maxSteps := 1000000 }) only [pCut_zero, Nat.sub_zero, hq, b1, b2, b3, b4, m1, m2, m3, e2, e3, k2, k3, t2, t3, undef, push_cast, ↓Int.toNat_natCast, ↓Int.cast_ofNat_Int, Int.cast_ofNat_Int, ↓reduceIte, reduceCtorEq, Nat.reduceEqDiff, Nat.reduceLT, Nat.reduceLeDiff, Nat.reduceAdd, Nat.reduceSub, Nat.reduceMul, Int.reduceNeg, Int.reduceLE, Int.reduceLT, Int.reduceToNat, Int.reduceAdd, Int.reduceSub, Int.reduceMul, Int.reduceEq]
  (repeat (refine And.intro (by first | omega | decide) ?_))
  refine drawK_rule [3] [(0, true), (1, true), (3, true), (4, true), (5, true), (6, true), (7, true), (2, false), (8, false), (9, true)] (by kernel_rfl) (by kernel_rfl) rfl (by kernel_rfl) ?_
  simp (config := { maxSteps := 1000000 }) only [pCut_zero, Nat.sub_zero, hq, b1, b2, b3, b4, m1, m2, m3, e2, e3, k2, k3, t2, t3, undef, push_cast, ↓Int.toNat_natCast, ↓Int.cast_ofNat_Int, Int.cast_ofNat_Int, ↓reduceIte, reduceCtorEq, Nat.reduceEqDiff, Nat.reduceLT, Nat.reduceLeDiff, Nat.reduceAdd, Nat.reduceSub, Nat.reduceMul, Int.reduceNeg, Int.reduceLE, Int.reduceLT, Int.reduceToNat, Int.reduceAdd, Int.reduceSub, Int.reduceMul, Int.reduceEq]
  (repeat (refine And.intro (by first | omega | decide) ?_))
  have b5 : (-9223372036854775808 : Int) ≤ 2 * (l.length : Int) := by omega
  have b6 : 2 * (l.length : Int) ≤ 9223372036854775807 := by omega
  have b7 : 0 ≤ 2 * (l.length : Int) := by omega
  have e4 : (need - 1).toNat = nn := by omega
  rw [e4] at n2
  obtain ⟨m, hme, hm64⟩ := isP_id hm hi
  have hme : me = (m : Int) := hme
  subst hme
  obtain ⟨g, rfl⟩ : ∃ g : Nat, gen = g := ⟨gen.toNat, by omega⟩
  generalize hfa : self :: of.take nn = fa at *
  generalize hfb : key :: an.take nn = fb at *
  have lfa : fa.length ≤ 1000000 := by rw [← hfa, List.length_cons]; omega
  have lfb : fb.length ≤ 1000000 := by rw [← hfb, List.length_cons]; omega
  refine loop_rule (ι := Nat) (fun i => ⟨[(0, .x (.a (.v (.int .i64 m)))), (1, .x (.a (.v (.int .i64 g)))), (7, .x (.a (.p 0 0))), (12, .x (.a (.o 1))), (13, .x (.a (.o 2))), (14, .x (.a (.o 3))), (88, .x (.a (.v (.slice A l.length c)))), (89, .x (.a (.v (.int .i64 l.length)))), (90, .x (.a (.v (.int .i64 i))))],
    [.blk 31 (.c [.v (vU64 self), .v (vU64 key), .v (.slice A2 of.length c2), .v (.slice A3 an.length c3)]), .own 23 (.u64 fa), .own 23 (.u64 fb), .own 23 (.u64 (bxTo fa fb m g key l i))]⟩) (fun i => i ≤ l.length) (fun i => l.length - i) 0 [0, 2, 4, 5] (by omega) ?_ ?_
  · simp (config := { maxSteps := 1000000 }) only [bxTo, List.replicate_zero, push_cast, ↓Int.toNat_natCast, ↓Int.cast_ofNat_Int, Int.cast_ofNat_Int, ↓reduceIte, reduceCtorEq, Nat.reduceEqDiff, Nat.reduceLT, Nat.reduceLeDiff, Nat.reduceAdd, Nat.reduceSub, Nat.reduceMul, Int.reduceNeg, Int.reduceLE, Int.reduceLT, Int.reduceToNat, Int.reduceAdd, Int.reduceSub, Int.reduceMul, Int.reduceEq]
  · intro i hil
    by_cases hlt : (i : Int) < l.length
    · have i0 : (0 : Int) ≤ i := by omega
      have c0 := F.c0 i (by omega)
      have c1 := F.c1 i (by omega)
      have o0 := F.ok0 i (by omega)
      have o1 := F.ok1 i (by omega)
      have hA := F.some_ (by omega)
      have hbl := bxTo_length fa fb m g key l i
      have q1 : (2 * i + 2) * 8 ≤ 140737488355328 := by omega
      have q2 : 2 * i + 2 ≤ 2 ^ 63 - 1 := by omega
      have hs := (bxTo_succ fa fb m g key l i).symm
      obtain ⟨d, hd, hd64⟩ := may_id hm (i := i) (by omega)
      simp (config := { maxSteps := 1000000 }) only [hlt, i0, c0, c1, o0, o1, hA, hd, pAdd_zero, pAdd_add, pAdd_isSome, undef, push_cast, ↓Int.toNat_natCast, ↓Int.cast_ofNat_Int, Int.cast_ofNat_Int, ↓reduceIte, reduceCtorEq, Nat.reduceEqDiff, Nat.reduceLT, Nat.reduceLeDiff, Nat.reduceAdd, Nat.reduceSub, Nat.reduceMul, Int.reduceNeg, Int.reduceLE, Int.reduceLT, Int.reduceToNat, Int.reduceAdd, Int.reduceSub, Int.reduceMul, Int.reduceEq]
      (repeat (refine And.intro (by first | omega | decide) ?_))
      refine drawV_rule 5 [] (.rd 0 (.rd 1 (.rd 2 (.rd 3 (.rd 5 (.rd 6 (.rd 7 (.rd 8 (.fk 4 (.fk 9 (.rd 10 (.rd 11 (.rd 12 (.wr 13 (.wr 14 (.rd 15 .nil)))))) 13 (.wr 9 (.rd 10 (.rd 11 (.rd 12 (.wr 14 (.rd 15 .nil))))))) 13 (.wr 4 (.wr 9 (.rd 10 (.rd 11 (.rd 12 (.wr 14 (.rd 15 .nil)))))))))))))))) ⟨[(0, .x (.a (.v (.int .i64 m)))), (1, .x (.a (.v (.int .i64 g)))), (7, .x (.a (.p 0 0))), (12, .x (.a (.o 1))), (13, .x (.a (.o 2))), (14, .x (.a (.o 3))), (16, .x (.a (.p 4 0))), (17, .x (.a (.p 5 0))), (88, .x (.a (.v (.slice A l.length c)))), (89, .x (.a (.v (.int .i64 l.length)))), (90, .x (.a (.v (.int .i64 i)))), (18, .x (.a (.v .nilIface)))],
        [.blk 31 (.c [.v (vU64 self), .v (vU64 key), .v (.slice A2 of.length c2), .v (.slice A3 an.length c3)]), .own 23 (.u64 fa), .own 23 (.u64 fb), .own 23 (.u64 (bxTo fa fb m g key l i)), .blk 34 (.c [.v (.int .i64 d), .v (vU64 (ix l i).2)]), .blk 28 (.u64 [hidU (powU (ix l i).2 key) m d g 0, hidU (powU (ix l i).2 key) m d g 1])]⟩ (by kernel_rfl) (by kernel_rfl) (by kernel_rfl) (Nat.le_add_left 5 0) ?_ ?_
      · simp (config := { maxSteps := 1000000 }) only [hd, undef, push_cast, ↓Int.toNat_natCast, ↓Int.cast_ofNat_Int, Int.cast_ofNat_Int, ↓reduceIte, reduceCtorEq, Nat.reduceEqDiff, Nat.reduceLT, Nat.reduceLeDiff, Nat.reduceAdd, Nat.reduceSub, Nat.reduceMul, Int.reduceNeg, Int.reduceLE, Int.reduceLT, Int.reduceToNat, Int.reduceAdd, Int.reduceSub, Int.reduceMul, Int.reduceEq]
        (repeat (refine And.intro (by first | omega | decide) ?_))
        refine ⟨?_, ?_⟩
        · refine callQ_v rfl cb22 rfl (sharedK _ _) (dOk_lt rfl) ?_
          simp (config := { maxSteps := 1000000 }) only [undef, push_cast, ↓Int.toNat_natCast, ↓Int.cast_ofNat_Int, Int.cast_ofNat_Int, ↓reduceIte, reduceCtorEq, Nat.reduceEqDiff, Nat.reduceLT, Nat.reduceLeDiff, Nat.reduceAdd, Nat.reduceSub, Nat.reduceMul, Int.reduceNeg, Int.reduceLE, Int.reduceLT, Int.reduceToNat, Int.reduceAdd, Int.reduceSub, Int.reduceMul, Int.reduceEq]
          (repeat (refine And.intro (by first | omega | decide) ?_))
          refine ⟨?_, ?_⟩
          · refine callQ_v rfl cb21 rfl (hidesOK (powU (ix l i).2 key) m d g hm64 hd64 (by omega) hk hw) (dOk_lt rfl) ?_
            simp (config := { maxSteps := 1000000 }) only [undef, push_cast, ↓Int.toNat_natCast, ↓Int.cast_ofNat_Int, Int.cast_ofNat_Int, ↓reduceIte, reduceCtorEq, Nat.reduceEqDiff, Nat.reduceLT, Nat.reduceLeDiff, Nat.reduceAdd, Nat.reduceSub, Nat.reduceMul, Int.reduceNeg, Int.reduceLE, Int.reduceLT, Int.reduceToNat, Int.reduceAdd, Int.reduceSub, Int.reduceMul, Int.reduceEq]
            (repeat (refine And.intro (by first | omega | decide) ?_))
            refine leads_le [0, 1, 2, 3, 4, 5] ?_
            simp (config := { maxSteps := 1000000 }) only [push_cast, ↓Int.toNat_natCast, ↓Int.cast_ofNat_Int, Int.cast_ofNat_Int, ↓reduceIte, reduceCtorEq, Nat.reduceEqDiff, Nat.reduceLT, Nat.reduceLeDiff, Nat.reduceAdd, Nat.reduceSub, Nat.reduceMul, Int.reduceNeg, Int.reduceLE, Int.reduceLT, Int.reduceToNat, Int.reduceAdd, Int.reduceSub, Int.reduceMul, Int.reduceEq]
          · refine callQ_v rfl cb21 rfl (hidesOK (powU (ix l i).2 key) m d g hm64 hd64 (by omega) hk hw) (dOk_lt rfl) ?_
            simp (config := { maxSteps := 1000000 }) only [undef, push_cast, ↓Int.toNat_natCast, ↓Int.cast_ofNat_Int, Int.cast_ofNat_Int, ↓reduceIte, reduceCtorEq, Nat.reduceEqDiff, Nat.reduceLT, Nat.reduceLeDiff, Nat.reduceAdd, Nat.reduceSub, Nat.reduceMul, Int.reduceNeg, Int.reduceLE, Int.reduceLT, Int.reduceToNat, Int.reduceAdd, Int.reduceSub, Int.reduceMul, Int.reduceEq]
            (repeat (refine And.intro (by first | omega | decide) ?_))
            refine leads_le [0, 1, 2, 3, 4, 5] ?_
            simp (config := { maxSteps := 1000000 }) only [push_cast, ↓Int.toNat_natCast, ↓Int.cast_ofNat_Int, Int.cast_ofNat_Int, ↓reduceIte, reduceCtorEq, Nat.reduceEqDiff, Nat.reduceLT, Nat.reduceLeDiff, Nat.reduceAdd, Nat.reduceSub, Nat.reduceMul, Int.reduceNeg, Int.reduceLE, Int.reduceLT, Int.reduceToNat, Int.reduceAdd, Int.reduceSub, Int.reduceMul, Int.reduceEq]
        · refine callQ_v rfl cb22 rfl (sharedK _ _) (dOk_lt rfl) ?_
          simp (config := { maxSteps := 1000000 }) only [undef, push_cast, ↓Int.toNat_natCast, ↓Int.cast_ofNat_Int, Int.cast_ofNat_Int, ↓reduceIte, reduceCtorEq, Nat.reduceEqDiff, Nat.reduceLT, Nat.reduceLeDiff, Nat.reduceAdd, Nat.reduceSub, Nat.reduceMul, Int.reduceNeg, Int.reduceLE, Int.reduceLT, Int.reduceToNat, Int.reduceAdd, Int.reduceSub, Int.reduceMul, Int.reduceEq]
          (repeat (refine And.intro (by first | omega | decide) ?_))
          refine callQ_v rfl cb21 rfl (hidesOK (powU (ix l i).2 key) m d g hm64 hd64 (by omega) hk hw) (dOk_lt rfl) ?_
          simp (config := { maxSteps := 1000000 }) only [undef, push_cast, ↓Int.toNat_natCast, ↓Int.cast_ofNat_Int, Int.cast_ofNat_Int, ↓reduceIte, reduceCtorEq, Nat.reduceEqDiff, Nat.reduceLT, Nat.reduceLeDiff, Nat.reduceAdd, Nat.reduceSub, Nat.reduceMul, Int.reduceNeg, Int.reduceLE, Int.reduceLT, Int.reduceToNat, Int.reduceAdd, Int.reduceSub, Int.reduceMul, Int.reduceEq]
          (repeat (refine And.intro (by first | omega | decide) ?_))
          refine leads_le [0, 1, 2, 3, 4, 5] ?_
          simp (config := { maxSteps := 1000000 }) only [push_cast, ↓Int.toNat_natCast, ↓Int.cast_ofNat_Int, Int.cast_ofNat_Int, ↓reduceIte, reduceCtorEq, Nat.reduceEqDiff, Nat.reduceLT, Nat.reduceLeDiff, Nat.reduceAdd, Nat.reduceSub, Nat.reduceMul, Int.reduceNeg, Int.reduceLE, Int.reduceLT, Int.reduceToNat, Int.reduceAdd, Int.reduceSub, Int.reduceMul, Int.reduceEq]
      · have hv0 : addU (polyU fa (atU d)) (hidU (powU (ix l i).2 key) m d g 0) = bxV fa m g key (ix l i) 0 := by unfold bxV; rw [hd]; simp only [Int.toNat_natCast]
        have hv1 : addU (polyU fb (atU d)) (hidU (powU (ix l i).2 key) m d g 1) = bxV fb m g key (ix l i) 1 := by unfold bxV; rw [hd]; simp only [Int.toNat_natCast]
        generalize hidU (powU (ix l i).2 key) m d g 0 = h0 at *
        generalize hidU (powU (ix l i).2 key) m d g 1 = h1 at *
        have hx0 : ix [h0, h1] 0 = h0 := rfl
        have hx1 : ix [h0, h1] 1 = h1 := rfl
        simp (config := { maxSteps := 1000000 }) only [hd, undef, push_cast, ↓Int.toNat_natCast, ↓Int.cast_ofNat_Int, Int.cast_ofNat_Int, ↓reduceIte, reduceCtorEq, Nat.reduceEqDiff, Nat.reduceLT, Nat.reduceLeDiff, Nat.reduceAdd, Nat.reduceSub, Nat.reduceMul, Int.reduceNeg, Int.reduceLE, Int.reduceLT, Int.reduceToNat, Int.reduceAdd, Int.reduceSub, Int.reduceMul, Int.reduceEq]
        (repeat (refine And.intro (by first | omega | decide) ?_))
        refine callG_v rfl cb17 rfl (atOK d) (dOk_lt rfl) ?_
        simp (config := { maxSteps := 1000000 }) only [hd, undef, push_cast, ↓Int.toNat_natCast, ↓Int.cast_ofNat_Int, Int.cast_ofNat_Int, ↓reduceIte, reduceCtorEq, Nat.reduceEqDiff, Nat.reduceLT, Nat.reduceLeDiff, Nat.reduceAdd, Nat.reduceSub, Nat.reduceMul, Int.reduceNeg, Int.reduceLE, Int.reduceLT, Int.reduceToNat, Int.reduceAdd, Int.reduceSub, Int.reduceMul, Int.reduceEq]
        (repeat (refine And.intro (by first | omega | decide) ?_))
        refine drawK_rule [3, 6] [(0, true), (1, true), (2, true), (4, true), (5, true), (7, true), (8, true), (10, true), (11, true), (3, false), (6, false), (9, false), (12, false), (13, false), (14, false), (15, true)] (by kernel_rfl) (by kernel_rfl) rfl (by kernel_rfl) ?_
        simp (config := { maxSteps := 1000000 }) only [hd, undef, push_cast, ↓Int.toNat_natCast, ↓Int.cast_ofNat_Int, Int.cast_ofNat_Int, ↓reduceIte, reduceCtorEq, Nat.reduceEqDiff, Nat.reduceLT, Nat.reduceLeDiff, Nat.reduceAdd, Nat.reduceSub, Nat.reduceMul, Int.reduceNeg, Int.reduceLE, Int.reduceLT, Int.reduceToNat, Int.reduceAdd, Int.reduceSub, Int.reduceMul, Int.reduceEq]
        (repeat (refine And.intro (by first | omega | decide) ?_))
        refine callK_v rfl cb24 rfl (polyEvalOK (c := fa) (atU d) lfa (shows_own rfl fun _ => rfl)) (dOk_lt rfl) ?_
        simp (config := { maxSteps := 1000000 }) only [hd, undef, push_cast, ↓Int.toNat_natCast, ↓Int.cast_ofNat_Int, Int.cast_ofNat_Int, ↓reduceIte, reduceCtorEq, Nat.reduceEqDiff, Nat.reduceLT, Nat.reduceLeDiff, Nat.reduceAdd, Nat.reduceSub, Nat.reduceMul, Int.reduceNeg, Int.reduceLE, Int.reduceLT, Int.reduceToNat, Int.reduceAdd, Int.reduceSub, Int.reduceMul, Int.reduceEq]
        (repeat (refine And.intro (by first | omega | decide) ?_))
        refine callK_v rfl cb23 rfl (fpAddK _ _) (dOk_lt rfl) ?_
        simp (config := { maxSteps := 1000000 }) only [hv0, hv1, hx0, hx1, undef, push_cast, ↓Int.toNat_natCast, ↓Int.cast_ofNat_Int, Int.cast_ofNat_Int, ↓reduceIte, reduceCtorEq, Nat.reduceEqDiff, Nat.reduceLT, Nat.reduceLeDiff, Nat.reduceAdd, Nat.reduceSub, Nat.reduceMul, Int.reduceNeg, Int.reduceLE, Int.reduceLT, Int.reduceToNat, Int.reduceAdd, Int.reduceSub, Int.reduceMul, Int.reduceEq]
        (repeat (refine And.intro (by first | omega | decide) ?_))
        refine callK_v rfl cb24 rfl (polyEvalOK (c := fb) (atU d) lfb (shows_own rfl fun _ => rfl)) (dOk_lt rfl) ?_
        simp (config := { maxSteps := 1000000 }) only [hv0, hv1, hx0, hx1, undef, push_cast, ↓Int.toNat_natCast, ↓Int.cast_ofNat_Int, Int.cast_ofNat_Int, ↓reduceIte, reduceCtorEq, Nat.reduceEqDiff, Nat.reduceLT, Nat.reduceLeDiff, Nat.reduceAdd, Nat.reduceSub, Nat.reduceMul, Int.reduceNeg, Int.reduceLE, Int.reduceLT, Int.reduceToNat, Int.reduceAdd, Int.reduceSub, Int.reduceMul, Int.reduceEq]
        (repeat (refine And.intro (by first | omega | decide) ?_))
        refine callK_v rfl cb23 rfl (fpAddK _ _) (dOk_lt rfl) ?_
        simp (config := { maxSteps := 1000000 }) only [hv0, hv1, hx0, hx1, hbl, hs, q1, q2, undef, push_cast, ↓Int.toNat_natCast, ↓Int.cast_ofNat_Int, Int.cast_ofNat_Int, ↓reduceIte, reduceCtorEq, Nat.reduceEqDiff, Nat.reduceLT, Nat.reduceLeDiff, Nat.reduceAdd, Nat.reduceSub, Nat.reduceMul, Int.reduceNeg, Int.reduceLE, Int.reduceLT, Int.reduceToNat, Int.reduceAdd, Int.reduceSub, Int.reduceMul, Int.reduceEq]
        (repeat (refine And.intro (by first | omega | decide) ?_))
        refine loopK_normal (i + 1) [0, 1, 2, 7] (by omega) (by omega) ?_
        simp (config := { maxSteps := 1000000 }) only [push_cast, ↓Int.toNat_natCast, ↓Int.cast_ofNat_Int, Int.cast_ofNat_Int, ↓reduceIte, reduceCtorEq, Nat.reduceEqDiff, Nat.reduceLT, Nat.reduceLeDiff, Nat.reduceAdd, Nat.reduceSub, Nat.reduceMul, Int.reduceNeg, Int.reduceLE, Int.reduceLT, Int.reduceToNat, Int.reduceAdd, Int.reduceSub, Int.reduceMul, Int.reduceEq]
    · have e : i = l.length := by omega
      subst e
      simp (config := { maxSteps := 1000000 }) only [hlt, n1, n2, undef, ownT2, ownT, push_cast, ↓Int.toNat_natCast, ↓Int.cast_ofNat_Int, Int.cast_ofNat_Int, ↓reduceIte, reduceCtorEq, Nat.reduceEqDiff, Nat.reduceLT, Nat.reduceLeDiff, Nat.reduceAdd, Nat.reduceSub, Nat.reduceMul, Int.reduceNeg, Int.reduceLE, Int.reduceLT, Int.reduceToNat, Int.reduceAdd, Int.reduceSub, Int.reduceMul, Int.reduceEq]
end Go.Proofs.YteiifdpikcnbgaaGreatDoor
/- escrow.Open: the two shares out of what one has for another one. -/
namespace Go.Proofs.YteiifdpikcnbgaaGreatDoor
open Go.RowKit
set_option linter.unusedSimpArgs false
def eopOk (me gen : Int) (p : Pr) (t0 t1 : UInt64) : Bool := may [p] && decide (0 ≤ me ∧ me < 64 ∧ 1 ≤ gen ∧ gen ≤ 1073741824 ∧ ¬ fpP ≤ t0 ∧ ¬ fpP ≤ t1)
theorem eopOk_spec {me gen : Int} {p : Pr} {t0 t1 : UInt64} : eopOk me gen p t0 t1 = true ↔ may [p] = true ∧ 0 ≤ me ∧ me < 64 ∧ 1 ≤ gen ∧ gen ≤ 1073741824 ∧ ¬ fpP ≤ t0 ∧ ¬ fpP ≤ t1 := by
  unfold eopOk
  rw [Bool.and_eq_true, decide_eq_true_eq]
def eopErr (me gen : Int) (p : Pr) (t0 t1 : UInt64) : Value := if eopOk me gen p t0 t1 = true then .nilIface else .iface 75 (.int .i64 1)
def eopX (me gen : Int) (p : Pr) (t0 t1 : UInt64) : UInt64 := if eopOk me gen p t0 t1 = true then atU me else 0
def eopY (me gen : Int) (key : UInt64) (p : Pr) (t0 t1 t : UInt64) (i : Nat) : UInt64 := if eopOk me gen p t0 t1 = true then subU t (hidU (powU p.2 key) p.1.toNat me.toNat gen.toNat i) else 0
/-- The two shares, cell by cell. -/
def eopL (me gen : Int) (key : UInt64) (p : Pr) (t0 t1 : UInt64) : List Value := [vU64 (eopX me gen p t0 t1), vU64 (eopY me gen key p t0 t1 t0 0), vU64 (eopX me gen p t0 t1), vU64 (eopY me gen key p t0 t1 t1 1)]
theorem eop_no {me gen : Int} {p : Pr} {t0 t1 : UInt64} (h : ¬ eopOk me gen p t0 t1 = true) (key : UInt64) :
    eopErr me gen p t0 t1 = .iface 75 (.int .i64 1) ∧ eopX me gen p t0 t1 = 0 ∧ (∀ t i, eopY me gen key p t0 t1 t i = 0) := ⟨if_neg h, if_neg h, fun _ _ => if_neg h⟩
theorem eop_yes {me gen : Int} {p : Pr} {t0 t1 : UInt64} (h : eopOk me gen p t0 t1 = true) (key : UInt64) :
    eopErr me gen p t0 t1 = .nilIface ∧ eopX me gen p t0 t1 = atU me ∧ (∀ t i, eopY me gen key p t0 t1 t i = subU t (hidU (powU p.2 key) p.1.toNat me.toNat gen.toNat i)) := ⟨if_pos h, if_pos h, fun _ _ => if_pos h⟩
def eopTo (x a b : UInt64) : Nat → List At
  | 0 => [.v (.int .u64 0), .v (.int .u64 0), .v (.int .u64 0), .v (.int .u64 0)]
  | 1 => [.v (vU64 x), .v (vU64 a), .v (.int .u64 0), .v (.int .u64 0)]
  | _ => [.v (vU64 x), .v (vU64 a), .v (vU64 x), .v (vU64 b)]
theorem vz0 : vU64 0 = .int .u64 0 := rfl
attribute [local irreducible] Callable CallOK CallG CallM DrawG LoopG symR symM
attribute [local irreducible] may eopErr eopX eopY eopOk subU powU hidU atU
set_option maxRecDepth 100000 in
set_option maxHeartbeats 8000000 in
theorem open25_any (me gen : Int) (key : UInt64) (from_ : Pr) (t0 t1 : UInt64) (w : World) (hk : LaidK 4 w) (hw : TabW w) :
    Calls Tryz.prog 8 (List.map (Sv.val []) [.x (.a (.v (.int .i64 me))), .x (.a (.v (.int .i64 gen))), .x (.a (.v (vU64 key))), .x (.g [.v (.int .i64 from_.1), .v (vU64 from_.2)]), .x (.a64 [t0, t1])]).toArray w fun e w' => e = .returned (.tuple #[.agg (eopL me gen key from_ t0 t1).toArray, eopErr me gen from_ t0 t1]) ∧ Below w.heap.size w w' := by
  obtain ⟨id, pu⟩ := from_
  refine calls_v (n := 81) Tryz.func8 rfl Tryz.ntmps8 [.x (.a (.v (.int .i64 me))), .x (.a (.v (.int .i64 gen))), .x (.a (.v (vU64 key))), .x (.g [.v (.int .i64 id), .v (vU64 pu)]), .x (.a64 [t0, t1])] (by simp) (.t [.g [.v (vU64 (eopX me gen (id, pu) t0 t1)), .v (vU64 (eopY me gen key (id, pu) t0 t1 t0 0)), .v (vU64 (eopX me gen (id, pu) t0 t1)), .v (vU64 (eopY me gen key (id, pu) t0 t1 t1 1))], .a (.v (eopErr me gen (id, pu) t0 t1))]) (fun _ => rfl) ?_
  have no := fun h => eop_no (me := me) (gen := gen) (p := (id, pu)) (t0 := t0) (t1 := t1) h key
  have hlit : (2305843009213693951 : UInt64) = fpP := rfl
  by_cases g1 : me < 0
  · obtain ⟨n1, n2, n3⟩ := no fun h => by have := eopOk_spec.1 h; omega
    simp (config := { maxSteps := 1000000 }) only [g1, n1, n2, n3, vz0, undef, push_cast, ↓Int.toNat_natCast, ↓Int.cast_ofNat_Int, Int.cast_ofNat_Int, ↓reduceIte, reduceCtorEq, Nat.reduceEqDiff, Nat.reduceLT, Nat.reduceLeDiff, Nat.reduceAdd, Nat.reduceSub, Nat.reduceMul, Int.reduceNeg, Int.reduceLE, Int.reduceLT, Int.reduceToNat, Int.reduceAdd, Int.reduceSub, Int.reduceMul, Int.reduceEq]
  by_cases g2 : 64 ≤ me
  · obtain ⟨n1, n2, n3⟩ := no fun h => by have := eopOk_spec.1 h; omega
    simp (config := { maxSteps := 1000000 }) only [g1, g2, n1, n2, n3, vz0, undef, push_cast, ↓Int.toNat_natCast, ↓Int.cast_ofNat_Int, Int.cast_ofNat_Int, ↓reduceIte, reduceCtorEq, Nat.reduceEqDiff, Nat.reduceLT, Nat.reduceLeDiff, Nat.reduceAdd, Nat.reduceSub, Nat.reduceMul, Int.reduceNeg, Int.reduceLE, Int.reduceLT, Int.reduceToNat, Int.reduceAdd, Int.reduceSub, Int.reduceMul, Int.reduceEq]
  by_cases g3 : gen < 1
  · obtain ⟨n1, n2, n3⟩ := no fun h => by have := eopOk_spec.1 h; omega
    simp (config := { maxSteps := 1000000 }) only [g1, g2, g3, n1, n2, n3, vz0, undef, push_cast, ↓Int.toNat_natCast, ↓Int.cast_ofNat_Int, Int.cast_ofNat_Int, ↓reduceIte, reduceCtorEq, Nat.reduceEqDiff, Nat.reduceLT, Nat.reduceLeDiff, Nat.reduceAdd, Nat.reduceSub, Nat.reduceMul, Int.reduceNeg, Int.reduceLE, Int.reduceLT, Int.reduceToNat, Int.reduceAdd, Int.reduceSub, Int.reduceMul, Int.reduceEq]
  by_cases g4 : 1073741824 < gen
  · obtain ⟨n1, n2, n3⟩ := no fun h => by have := eopOk_spec.1 h; omega
    simp (config := { maxSteps := 1000000 }) only [g1, g2, g3, g4, n1, n2, n3, vz0, undef, push_cast, ↓Int.toNat_natCast, ↓Int.cast_ofNat_Int, Int.cast_ofNat_Int, ↓reduceIte, reduceCtorEq, Nat.reduceEqDiff, Nat.reduceLT, Nat.reduceLeDiff, Nat.reduceAdd, Nat.reduceSub, Nat.reduceMul, Int.reduceNeg, Int.reduceLE, Int.reduceLT, Int.reduceToNat, Int.reduceAdd, Int.reduceSub, Int.reduceMul, Int.reduceEq]
  simp (config := { maxSteps := 1000000 }) only [g1, g2, g3, g4, undef, push_cast, ↓Int.toNat_natCast, ↓Int.cast_ofNat_Int, Int.cast_ofNat_Int, ↓reduceIte, reduceCtorEq, Nat.reduceEqDiff, Nat.reduceLT, Nat.reduceLeDiff, Nat.reduceAdd, Nat.reduceSub, Nat.reduceMul, Int.reduceNeg, Int.reduceLE, Int.reduceLT, Int.reduceToNat, Int.reduceAdd, Int.reduceSub, Int.reduceMul, Int.reduceEq]
  (repeat (refine And.intro (by first | omega | decide) ?_))
  refine callG_v rfl cb19 rfl (check09OK (l := [(id, pu)]) (showsR_onn rfl (fun _ => rfl) rfl)) (dOk_lt rfl) ?_
  have hx0 : ix [t0, t1] 0 = t0 := rfl
  have hx1 : ix [t0, t1] 1 = t1 := rfl
  cases hm : may [(id, pu)]
  · obtain ⟨n1, n2, n3⟩ := no fun h => by rw [(eopOk_spec.1 h).1] at hm; cases hm
    simp (config := { maxSteps := 1000000 }) only [mayErr_no hm, n1, n2, n3, vz0, undef, push_cast, ↓Int.toNat_natCast, ↓Int.cast_ofNat_Int, Int.cast_ofNat_Int, ↓reduceIte, reduceCtorEq, Nat.reduceEqDiff, Nat.reduceLT, Nat.reduceLeDiff, Nat.reduceAdd, Nat.reduceSub, Nat.reduceMul, Int.reduceNeg, Int.reduceLE, Int.reduceLT, Int.reduceToNat, Int.reduceAdd, Int.reduceSub, Int.reduceMul, Int.reduceEq]
  by_cases g5 : fpP ≤ t0
  · obtain ⟨n1, n2, n3⟩ := no fun h => (eopOk_spec.1 h).2.2.2.2.2.1 g5
    simp (config := { maxSteps := 1000000 }) only [mayErr_yes hm, hx0, hx1, hlit, g5, n1, n2, n3, vz0, undef, push_cast, ↓Int.toNat_natCast, ↓Int.cast_ofNat_Int, Int.cast_ofNat_Int, ↓reduceIte, reduceCtorEq, Nat.reduceEqDiff, Nat.reduceLT, Nat.reduceLeDiff, Nat.reduceAdd, Nat.reduceSub, Nat.reduceMul, Int.reduceNeg, Int.reduceLE, Int.reduceLT, Int.reduceToNat, Int.reduceAdd, Int.reduceSub, Int.reduceMul, Int.reduceEq]
  by_cases g6 : fpP ≤ t1
  · obtain ⟨n1, n2, n3⟩ := no fun h => (eopOk_spec.1 h).2.2.2.2.2.2 g6
    simp (config := { maxSteps := 1000000 }) only [mayErr_yes hm, hx0, hx1, hlit, g5, g6, n1, n2, n3, vz0, undef, push_cast, ↓Int.toNat_natCast, ↓Int.cast_ofNat_Int, Int.cast_ofNat_Int, ↓reduceIte, reduceCtorEq, Nat.reduceEqDiff, Nat.reduceLT, Nat.reduceLeDiff, Nat.reduceAdd, Nat.reduceSub, Nat.reduceMul, Int.reduceNeg, Int.reduceLE, Int.reduceLT, Int.reduceToNat, Int.reduceAdd, Int.reduceSub, Int.reduceMul, Int.reduceEq]
  obtain ⟨n1, n2, n3⟩ := eop_yes (me := me) (gen := gen) (p := (id, pu)) (t0 := t0) (t1 := t1) (eopOk_spec.2 ⟨hm, by omega, by omega, by omega, by omega, g5, g6⟩) key
  obtain ⟨m, rfl⟩ : ∃ m : Nat, me = m := ⟨me.toNat, by omega⟩
  obtain ⟨g, rfl⟩ : ∃ g : Nat, gen = g := ⟨gen.toNat, by omega⟩
  obtain ⟨d, hd, hd64⟩ := may_id hm (i := 0) (Nat.zero_lt_succ 0)
  have hd : id = (d : Int) := hd
  subst hd
  have hm64 : m < 64 := by omega
  simp only [Int.toNat_natCast] at n3
  simp (config := { maxSteps := 1000000 }) only [mayErr_yes hm, hx0, hx1, hlit, g5, g6, undef, push_cast, ↓Int.toNat_natCast, ↓Int.cast_ofNat_Int, Int.cast_ofNat_Int, ↓reduceIte, reduceCtorEq, Nat.reduceEqDiff, Nat.reduceLT, Nat.reduceLeDiff, Nat.reduceAdd, Nat.reduceSub, Nat.reduceMul, Int.reduceNeg, Int.reduceLE, Int.reduceLT, Int.reduceToNat, Int.reduceAdd, Int.reduceSub, Int.reduceMul, Int.reduceEq]
  (repeat (refine And.intro (by first | omega | decide) ?_))
  generalize hq0 : hidU (powU pu key) d m g 0 = h0 at *
  generalize hq1 : hidU (powU pu key) d m g 1 = h1 at *
  refine drawV_rule 4 [] (.rd 0 (.rd 1 (.rd 2 (.rd 4 (.rd 5 (.rd 6 (.rd 7 (.fk 3 (.fk 8 (.rd 9 (.rd 10 (.rd 11 (.wr 12 (.wr 13 (.rd 14 .nil)))))) 12 (.wr 8 (.rd 9 (.rd 10 (.rd 11 (.wr 13 (.rd 14 .nil))))))) 12 (.wr 3 (.wr 8 (.rd 9 (.rd 10 (.rd 11 (.wr 13 (.rd 14 .nil))))))))))))))) ⟨[(0, .x (.a (.v (.int .i64 m)))), (9, .x (.a (.p 1 0))), (10, .x (.a (.p 2 0))), (12, .x (.a (.p 4 0))), (13, .x (.a (.v .nilIface)))],
    [.blk 34 (.c [.v (.int .i64 d), .v (vU64 pu)]), .blk 28 (.u64 [t0, t1]), .blk 42 (.c [.v (.int .u64 0), .v (.int .u64 0), .v (.int .u64 0), .v (.int .u64 0)]), .onn 34 2 (.c [.v (.int .i64 d), .v (vU64 pu)]), .blk 28 (.u64 [h0, h1])]⟩ (by kernel_rfl) (by kernel_rfl) (by kernel_rfl) (Nat.le_add_left 4 0) ?_ ?_
  · simp (config := { maxSteps := 1000000 }) only [undef, push_cast, ↓Int.toNat_natCast, ↓Int.cast_ofNat_Int, Int.cast_ofNat_Int, ↓reduceIte, reduceCtorEq, Nat.reduceEqDiff, Nat.reduceLT, Nat.reduceLeDiff, Nat.reduceAdd, Nat.reduceSub, Nat.reduceMul, Int.reduceNeg, Int.reduceLE, Int.reduceLT, Int.reduceToNat, Int.reduceAdd, Int.reduceSub, Int.reduceMul, Int.reduceEq]
    (repeat (refine And.intro (by first | omega | decide) ?_))
    refine ⟨?_, ?_⟩
    · refine callQ_v rfl cb22 rfl (sharedK _ _) (dOk_lt rfl) ?_
      simp (config := { maxSteps := 1000000 }) only [undef, push_cast, ↓Int.toNat_natCast, ↓Int.cast_ofNat_Int, Int.cast_ofNat_Int, ↓reduceIte, reduceCtorEq, Nat.reduceEqDiff, Nat.reduceLT, Nat.reduceLeDiff, Nat.reduceAdd, Nat.reduceSub, Nat.reduceMul, Int.reduceNeg, Int.reduceLE, Int.reduceLT, Int.reduceToNat, Int.reduceAdd, Int.reduceSub, Int.reduceMul, Int.reduceEq]
      (repeat (refine And.intro (by first | omega | decide) ?_))
      refine ⟨?_, ?_⟩
      · refine callQ_v rfl cb21 rfl (hidesOK (powU pu key) d m g hd64 hm64 (by omega) hk hw) (dOk_lt rfl) ?_
        simp (config := { maxSteps := 1000000 }) only [hq0, hq1, undef, push_cast, ↓Int.toNat_natCast, ↓Int.cast_ofNat_Int, Int.cast_ofNat_Int, ↓reduceIte, reduceCtorEq, Nat.reduceEqDiff, Nat.reduceLT, Nat.reduceLeDiff, Nat.reduceAdd, Nat.reduceSub, Nat.reduceMul, Int.reduceNeg, Int.reduceLE, Int.reduceLT, Int.reduceToNat, Int.reduceAdd, Int.reduceSub, Int.reduceMul, Int.reduceEq]
        (repeat (refine And.intro (by first | omega | decide) ?_))
        refine leads_le [0, 1, 2, 3, 4] ?_
        simp (config := { maxSteps := 1000000 }) only [push_cast, ↓Int.toNat_natCast, ↓Int.cast_ofNat_Int, Int.cast_ofNat_Int, ↓reduceIte, reduceCtorEq, Nat.reduceEqDiff, Nat.reduceLT, Nat.reduceLeDiff, Nat.reduceAdd, Nat.reduceSub, Nat.reduceMul, Int.reduceNeg, Int.reduceLE, Int.reduceLT, Int.reduceToNat, Int.reduceAdd, Int.reduceSub, Int.reduceMul, Int.reduceEq]
      · refine callQ_v rfl cb21 rfl (hidesOK (powU pu key) d m g hd64 hm64 (by omega) hk hw) (dOk_lt rfl) ?_
        simp (config := { maxSteps := 1000000 }) only [hq0, hq1, undef, push_cast, ↓Int.toNat_natCast, ↓Int.cast_ofNat_Int, Int.cast_ofNat_Int, ↓reduceIte, reduceCtorEq, Nat.reduceEqDiff, Nat.reduceLT, Nat.reduceLeDiff, Nat.reduceAdd, Nat.reduceSub, Nat.reduceMul, Int.reduceNeg, Int.reduceLE, Int.reduceLT, Int.reduceToNat, Int.reduceAdd, Int.reduceSub, Int.reduceMul, Int.reduceEq]
        (repeat (refine And.intro (by first | omega | decide) ?_))
        refine leads_le [0, 1, 2, 3, 4] ?_
        simp (config := { maxSteps := 1000000 }) only [push_cast, ↓Int.toNat_natCast, ↓Int.cast_ofNat_Int, Int.cast_ofNat_Int, ↓reduceIte, reduceCtorEq, Nat.reduceEqDiff, Nat.reduceLT, Nat.reduceLeDiff, Nat.reduceAdd, Nat.reduceSub, Nat.reduceMul, Int.reduceNeg, Int.reduceLE, Int.reduceLT, Int.reduceToNat, Int.reduceAdd, Int.reduceSub, Int.reduceMul, Int.reduceEq]
    · refine callQ_v rfl cb22 rfl (sharedK _ _) (dOk_lt rfl) ?_
      simp (config := { maxSteps := 1000000 }) only [undef, push_cast, ↓Int.toNat_natCast, ↓Int.cast_ofNat_Int, Int.cast_ofNat_Int, ↓reduceIte, reduceCtorEq, Nat.reduceEqDiff, Nat.reduceLT, Nat.reduceLeDiff, Nat.reduceAdd, Nat.reduceSub, Nat.reduceMul, Int.reduceNeg, Int.reduceLE, Int.reduceLT, Int.reduceToNat, Int.reduceAdd, Int.reduceSub, Int.reduceMul, Int.reduceEq]
      (repeat (refine And.intro (by first | omega | decide) ?_))
      refine callQ_v rfl cb21 rfl (hidesOK (powU pu key) d m g hd64 hm64 (by omega) hk hw) (dOk_lt rfl) ?_
      simp (config := { maxSteps := 1000000 }) only [hq0, hq1, undef, push_cast, ↓Int.toNat_natCast, ↓Int.cast_ofNat_Int, Int.cast_ofNat_Int, ↓reduceIte, reduceCtorEq, Nat.reduceEqDiff, Nat.reduceLT, Nat.reduceLeDiff, Nat.reduceAdd, Nat.reduceSub, Nat.reduceMul, Int.reduceNeg, Int.reduceLE, Int.reduceLT, Int.reduceToNat, Int.reduceAdd, Int.reduceSub, Int.reduceMul, Int.reduceEq]
      (repeat (refine And.intro (by first | omega | decide) ?_))
      refine leads_le [0, 1, 2, 3, 4] ?_
      simp (config := { maxSteps := 1000000 }) only [push_cast, ↓Int.toNat_natCast, ↓Int.cast_ofNat_Int, Int.cast_ofNat_Int, ↓reduceIte, reduceCtorEq, Nat.reduceEqDiff, Nat.reduceLT, Nat.reduceLeDiff, Nat.reduceAdd, Nat.reduceSub, Nat.reduceMul, Int.reduceNeg, Int.reduceLE, Int.reduceLT, Int.reduceToNat, Int.reduceAdd, Int.reduceSub, Int.reduceMul, Int.reduceEq]
  · simp (config := { maxSteps := 1000000 }) only [undef, push_cast, ↓Int.toNat_natCast, ↓Int.cast_ofNat_Int, Int.cast_ofNat_Int, ↓reduceIte, reduceCtorEq, Nat.reduceEqDiff, Nat.reduceLT, Nat.reduceLeDiff, Nat.reduceAdd, Nat.reduceSub, Nat.reduceMul, Int.reduceNeg, Int.reduceLE, Int.reduceLT, Int.reduceToNat, Int.reduceAdd, Int.reduceSub, Int.reduceMul, Int.reduceEq]
    (repeat (refine And.intro (by first | omega | decide) ?_))
    refine loop_rule (ι := Nat) (fun i => ⟨[(0, .x (.a (.v (.int .i64 m)))), (9, .x (.a (.p 0 0))), (10, .x (.a (.p 1 0))), (12, .x (.a (.p 2 0))), (14, .x (.a (.p 3 0))), (64, .x (.a (.v (.int .i64 i))))],
      [.blk 28 (.u64 [t0, t1]), .blk 42 (.c [.v (.int .u64 0), .v (.int .u64 0), .v (.int .u64 0), .v (.int .u64 0)]), .blk 28 (.u64 [h0, h1]), .blk 42 (.c (eopTo (atU m) (subU t0 h0) (subU t1 h1) i))]⟩) (fun i => i ≤ 2) (fun i => 2 - i) 0 [1, 2, 4, 5] (by omega) ?_ ?_
    · simp (config := { maxSteps := 1000000 }) only [eopTo, push_cast, ↓Int.toNat_natCast, ↓Int.cast_ofNat_Int, Int.cast_ofNat_Int, ↓reduceIte, reduceCtorEq, Nat.reduceEqDiff, Nat.reduceLT, Nat.reduceLeDiff, Nat.reduceAdd, Nat.reduceSub, Nat.reduceMul, Int.reduceNeg, Int.reduceLE, Int.reduceLT, Int.reduceToNat, Int.reduceAdd, Int.reduceSub, Int.reduceMul, Int.reduceEq]
    · intro i hi
      have hy0 : ix [h0, h1] 0 = h0 := rfl
      have hy1 : ix [h0, h1] 1 = h1 := rfl
      match i, hi with
      | 0, _ =>
        simp (config := { maxSteps := 1000000 }) only [eopTo, undef, push_cast, ↓Int.toNat_natCast, ↓Int.cast_ofNat_Int, Int.cast_ofNat_Int, ↓reduceIte, reduceCtorEq, Nat.reduceEqDiff, Nat.reduceLT, Nat.reduceLeDiff, Nat.reduceAdd, Nat.reduceSub, Nat.reduceMul, Int.reduceNeg, Int.reduceLE, Int.reduceLT, Int.reduceToNat, Int.reduceAdd, Int.reduceSub, Int.reduceMul, Int.reduceEq]
        (repeat (refine And.intro (by first | omega | decide) ?_))
        refine drawK_rule [3] [(0, true), (1, true), (3, true), (4, true), (5, true), (6, true), (7, true), (8, true), (2, false), (9, false), (10, true), (11, true), (12, false)] (by kernel_rfl) (by kernel_rfl) rfl (by kernel_rfl) ?_
        simp (config := { maxSteps := 1000000 }) only [eopTo, hx0, hx1, hy0, hy1, undef, push_cast, ↓Int.toNat_natCast, ↓Int.cast_ofNat_Int, Int.cast_ofNat_Int, ↓reduceIte, reduceCtorEq, Nat.reduceEqDiff, Nat.reduceLT, Nat.reduceLeDiff, Nat.reduceAdd, Nat.reduceSub, Nat.reduceMul, Int.reduceNeg, Int.reduceLE, Int.reduceLT, Int.reduceToNat, Int.reduceAdd, Int.reduceSub, Int.reduceMul, Int.reduceEq]
        (repeat (refine And.intro (by first | omega | decide) ?_))
        refine callK_v rfl cb17 rfl (atOK m) (dOk_lt rfl) ?_
        simp (config := { maxSteps := 1000000 }) only [eopTo, hx0, hx1, hy0, hy1, undef, push_cast, ↓Int.toNat_natCast, ↓Int.cast_ofNat_Int, Int.cast_ofNat_Int, ↓reduceIte, reduceCtorEq, Nat.reduceEqDiff, Nat.reduceLT, Nat.reduceLeDiff, Nat.reduceAdd, Nat.reduceSub, Nat.reduceMul, Int.reduceNeg, Int.reduceLE, Int.reduceLT, Int.reduceToNat, Int.reduceAdd, Int.reduceSub, Int.reduceMul, Int.reduceEq]
        (repeat (refine And.intro (by first | omega | decide) ?_))
        refine callK_v rfl cb25 rfl (fpSubK _ _) (dOk_lt rfl) ?_
        simp (config := { maxSteps := 1000000 }) only [eopTo, hx0, hx1, hy0, hy1, undef, push_cast, ↓Int.toNat_natCast, ↓Int.cast_ofNat_Int, Int.cast_ofNat_Int, ↓reduceIte, reduceCtorEq, Nat.reduceEqDiff, Nat.reduceLT, Nat.reduceLeDiff, Nat.reduceAdd, Nat.reduceSub, Nat.reduceMul, Int.reduceNeg, Int.reduceLE, Int.reduceLT, Int.reduceToNat, Int.reduceAdd, Int.reduceSub, Int.reduceMul, Int.reduceEq]
        (repeat (refine And.intro (by first | omega | decide) ?_))
        refine loopK_normal 1 [0, 1, 2, 3] (by omega) (by omega) ?_
        simp (config := { maxSteps := 1000000 }) only [eopTo, push_cast, ↓Int.toNat_natCast, ↓Int.cast_ofNat_Int, Int.cast_ofNat_Int, ↓reduceIte, reduceCtorEq, Nat.reduceEqDiff, Nat.reduceLT, Nat.reduceLeDiff, Nat.reduceAdd, Nat.reduceSub, Nat.reduceMul, Int.reduceNeg, Int.reduceLE, Int.reduceLT, Int.reduceToNat, Int.reduceAdd, Int.reduceSub, Int.reduceMul, Int.reduceEq]
      | 1, _ =>
        simp (config := { maxSteps := 1000000 }) only [eopTo, undef, push_cast, ↓Int.toNat_natCast, ↓Int.cast_ofNat_Int, Int.cast_ofNat_Int, ↓reduceIte, reduceCtorEq, Nat.reduceEqDiff, Nat.reduceLT, Nat.reduceLeDiff, Nat.reduceAdd, Nat.reduceSub, Nat.reduceMul, Int.reduceNeg, Int.reduceLE, Int.reduceLT, Int.reduceToNat, Int.reduceAdd, Int.reduceSub, Int.reduceMul, Int.reduceEq]
        (repeat (refine And.intro (by first | omega | decide) ?_))
        refine drawK_rule [3] [(0, true), (1, true), (3, true), (4, true), (5, true), (6, true), (7, true), (8, true), (2, false), (9, false), (10, true), (11, true), (12, false)] (by kernel_rfl) (by kernel_rfl) rfl (by kernel_rfl) ?_
        simp (config := { maxSteps := 1000000 }) only [eopTo, hx0, hx1, hy0, hy1, undef, push_cast, ↓Int.toNat_natCast, ↓Int.cast_ofNat_Int, Int.cast_ofNat_Int, ↓reduceIte, reduceCtorEq, Nat.reduceEqDiff, Nat.reduceLT, Nat.reduceLeDiff, Nat.reduceAdd, Nat.reduceSub, Nat.reduceMul, Int.reduceNeg, Int.reduceLE, Int.reduceLT, Int.reduceToNat, Int.reduceAdd, Int.reduceSub, Int.reduceMul, Int.reduceEq]
        (repeat (refine And.intro (by first | omega | decide) ?_))
        refine callK_v rfl cb17 rfl (atOK m) (dOk_lt rfl) ?_
        simp (config := { maxSteps := 1000000 }) only [eopTo, hx0, hx1, hy0, hy1, undef, push_cast, ↓Int.toNat_natCast, ↓Int.cast_ofNat_Int, Int.cast_ofNat_Int, ↓reduceIte, reduceCtorEq, Nat.reduceEqDiff, Nat.reduceLT, Nat.reduceLeDiff, Nat.reduceAdd, Nat.reduceSub, Nat.reduceMul, Int.reduceNeg, Int.reduceLE, Int.reduceLT, Int.reduceToNat, Int.reduceAdd, Int.reduceSub, Int.reduceMul, Int.reduceEq]
        (repeat (refine And.intro (by first | omega | decide) ?_))
        refine callK_v rfl cb25 rfl (fpSubK _ _) (dOk_lt rfl) ?_
        simp (config := { maxSteps := 1000000 }) only [eopTo, hx0, hx1, hy0, hy1, undef, push_cast, ↓Int.toNat_natCast, ↓Int.cast_ofNat_Int, Int.cast_ofNat_Int, ↓reduceIte, reduceCtorEq, Nat.reduceEqDiff, Nat.reduceLT, Nat.reduceLeDiff, Nat.reduceAdd, Nat.reduceSub, Nat.reduceMul, Int.reduceNeg, Int.reduceLE, Int.reduceLT, Int.reduceToNat, Int.reduceAdd, Int.reduceSub, Int.reduceMul, Int.reduceEq]
        (repeat (refine And.intro (by first | omega | decide) ?_))
        refine loopK_normal 2 [0, 1, 2, 3] (by omega) (by omega) ?_
        simp (config := { maxSteps := 1000000 }) only [eopTo, push_cast, ↓Int.toNat_natCast, ↓Int.cast_ofNat_Int, Int.cast_ofNat_Int, ↓reduceIte, reduceCtorEq, Nat.reduceEqDiff, Nat.reduceLT, Nat.reduceLeDiff, Nat.reduceAdd, Nat.reduceSub, Nat.reduceMul, Int.reduceNeg, Int.reduceLE, Int.reduceLT, Int.reduceToNat, Int.reduceAdd, Int.reduceSub, Int.reduceMul, Int.reduceEq]
      | 2, _ => simp (config := { maxSteps := 1000000 }) only [eopTo, n1, n2, n3, hq0, hq1, undef, push_cast, ↓Int.toNat_natCast, ↓Int.cast_ofNat_Int, Int.cast_ofNat_Int, ↓reduceIte, reduceCtorEq, Nat.reduceEqDiff, Nat.reduceLT, Nat.reduceLeDiff, Nat.reduceAdd, Nat.reduceSub, Nat.reduceMul, Int.reduceNeg, Int.reduceLE, Int.reduceLT, Int.reduceToNat, Int.reduceAdd, Int.reduceSub, Int.reduceMul, Int.reduceEq]
end Go.Proofs.YteiifdpikcnbgaaGreatDoor
/- Chapter 25's shares, by the document (caucusref25). -/
namespace Go.Proofs.YteiifdpikcnbgaaGreatDoor
open Go.RowKit
set_option linter.unusedSimpArgs false
theorem isP_none (p : Pr) : isP [] p = false := rfl
theorem isP_step (l : List Pr) (p : Pr) (i : Nat) (h : i < l.length) : isP (l.take (i + 1)) p = (isP (l.take i) p || decide (ix l i = p)) := by
  have e : ix l i = l[i] := by simp [ix, List.getD_eq_getElem?_getD, List.getElem?_eq_getElem h]
  unfold isP
  rw [List.take_add_one, List.getElem?_eq_getElem h, Bool.eq_iff_iff, Bool.or_eq_true, decide_eq_true_eq, decide_eq_true_eq, decide_eq_true_eq, List.mem_append, e]
  simp [eq_comm]
attribute [local irreducible] Callable CallOK CallG CallM DrawG LoopG symR symM
attribute [local irreducible] may isP bxErr bxOut bxOk bxTo bxV addU subU polyU powU hidU atU eopErr eopX eopY eopOk
end Go.Proofs.YteiifdpikcnbgaaGreatDoor
/- Chapter 25's opening, by the document (caucusref25); what Box and Open answer, for who calls them. -/
namespace Go.Proofs.YteiifdpikcnbgaaGreatDoor
open Go.RowKit
set_option linter.unusedSimpArgs false
attribute [local irreducible] Callable CallOK CallG CallM DrawG LoopG symR symM
attribute [local irreducible] may isP bxErr bxOut bxOk bxTo bxV addU subU polyU powU hidU atU eopErr eopX eopY eopOk
/-! ### For who calls them -/
theorem boxOK25 {w0 : World} {hp : List Res} {x1 x2 : At} {s5 : Sv} {of an : List UInt64} {l : List Pr} (me gen need : Int) (self key : UInt64) (hl : l.length ≤ 1000) (h2l : of.length ≤ 1000) (h3l : an.length ≤ 1000)
    (h1 : Shows w0 No hp (.x (.a x1)) (of.map vU64)) (h2 : Shows w0 No hp (.x (.a x2)) (an.map vU64)) (h5 : ShowsR w0 No hp s5 l.length (pvs l)) (hk : LaidK 4 w0) (hw : TabW w0) (hbr : ∀ r ∈ hp, Res.bnd hp.length r) :
    CallOK Tryz.prog w0 No 7 [.x (.a (.v (.int .i64 me))), .x (.a (.v (.int .i64 gen))), .x (.g [.v (vU64 self), .v (vU64 key), x1, x2]), .x (.a (.v (.int .i64 need))), s5] hp (.t [.a (.o hp.length), .a (.v (bxErr me gen need key of.length an.length l))]) (hp ++ [.own 23 (.u64 (bxOut me gen need self key of an l))]) := callOK_own2 hbr trivial fun γ w hS => by
  obtain ⟨A2, c2, e2, b2, r2⟩ := h1 γ w hS
  obtain ⟨A3, c3, e3, b3, r3⟩ := h2 γ w hS
  obtain ⟨A, c, e1, b1, r1⟩ := h5 γ w hS
  rw [List.length_map] at e2 b2 e3 b3
  have e2 : x1.val γ = .slice A2 of.length c2 := e2
  have e3 : x2.val γ = .slice A3 an.length c3 := e3
  show Calls _ _ #[.int .i64 me, .int .i64 gen, .agg #[vU64 self, vU64 key, x1.val γ, x2.val γ], .int .i64 need, s5.val γ] w _
  rw [e1, e2, e3]
  exact box_any me gen need self key of an l A c A2 c2 A3 c3 w hl h2l h3l b1 b2 b3 r1 r2 r3 (laid_later hk hS) (hw.later hS)
theorem openOK25 {w0 : World} {hp : List Res} (me gen : Int) (key : UInt64) (from_ : Pr) (t0 t1 : UInt64) (hk : LaidK 4 w0) (hw : TabW w0) :
    CallOK Tryz.prog w0 No 8 [.x (.a (.v (.int .i64 me))), .x (.a (.v (.int .i64 gen))), .x (.a (.v (vU64 key))), .x (.g [.v (.int .i64 from_.1), .v (vU64 from_.2)]), .x (.a64 [t0, t1])] hp (.t [.g [.v (vU64 (eopX me gen from_ t0 t1)), .v (vU64 (eopY me gen key from_ t0 t1 t0 0)), .v (vU64 (eopX me gen from_ t0 t1)), .v (vU64 (eopY me gen key from_ t0 t1 t1 1))], .a (.v (eopErr me gen from_ t0 t1))]) hp := callOK_v fun _ w hS => open25_any me gen key from_ t0 t1 w (laid_later hk hS) (hw.later hS)
end Go.Proofs.YteiifdpikcnbgaaGreatDoor
/- Law 25's sure: what must come whatever the input is. -/
namespace Go.Proofs.YteiifdpikcnbgaaGreatDoor
open Go.RowKit
set_option linter.unusedSimpArgs false
theorem p37 : powU 3 7 = 2187 := by decide
theorem sb25 : bxOut 4 1 1 9 7 [] [] [(4, 2187)] = [930042429472713999, 389352455896158587] := by decide +kernel
theorem sk25 : bxOk 4 1 1 7 0 0 [(4, 2187)] = true := by decide +kernel
theorem sn25 : bxOk 5 1 1 7 0 0 [(4, 2187)] = false := by decide +kernel
theorem so25 : eopOk 4 1 (4, 2187) 930042429472713999 389352455896158587 = true := by decide +kernel
theorem sx25 : eopX 4 1 (4, 2187) 930042429472713999 389352455896158587 = 5 := by decide +kernel
theorem sy25 : eopY 4 1 7 (4, 2187) 930042429472713999 389352455896158587 930042429472713999 0 = 9 := by decide +kernel
theorem sy25b : eopY 4 1 7 (4, 2187) 930042429472713999 389352455896158587 389352455896158587 1 = 7 := by decide +kernel
theorem sq25 : eopOk 64 1 (4, 2187) 0 0 = false := by decide +kernel
attribute [local irreducible] Callable CallOK CallG CallM DrawG LoopG symR symM
attribute [local irreducible] may isP bxErr bxOut bxOk bxTo bxV addU subU polyU powU hidU atU eopErr eopX eopY eopOk
set_option maxRecDepth 100000 in
set_option maxHeartbeats 8000000 in
theorem sure25_any (w : World) (hk : LaidK 4 w) (hg : Handle w) (hw : TabW w) : Calls Tryz.prog 5 #[] w fun e w' => e = .returned (.bool true) ∧ Below w.heap.size w w' := by
  have sb := sb25
  have se : bxErr 4 1 1 7 0 0 [(4, 2187)] = .nilIface := (bx_yes (of := []) (an := []) sk25 0).1
  obtain ⟨sne, sn⟩ := bx_no (me := 5) (gen := 1) (need := 1) (key := 7) (of := []) (an := []) (l := [(4, 2187)]) (by rw [show ([] : List UInt64).length = 0 from rfl, sn25]; decide) 9
  have sne : bxErr 5 1 1 7 0 0 [(4, 2187)] = .iface 75 (.int .i64 1) := sne
  have so := so25
  have soe := (eop_yes so25 7).1
  have sx := sx25
  have sy0 := sy25
  have sy1 := sy25b
  obtain ⟨so2e, so2x, so2y⟩ := eop_no (me := 64) (gen := 1) (p := (4, 2187)) (t0 := 0) (t1 := 0) (by rw [sq25]; decide) 7
  have so2 := sq25
  have n5 : n64 5 = 5 := rfl
  have n7 : n64 7 = 7 := rfl
  have n9 : n64 9 = 9 := rfl
  have hi0 : ix ([930042429472713999, 389352455896158587] : List UInt64) 0 = 930042429472713999 := rfl
  have hi1 : ix ([930042429472713999, 389352455896158587] : List UInt64) 1 = 389352455896158587 := rfl
  have hat : atU 4 = 5 := by unfold atU; decide
  have hne : ((930042429472713999 : Int) = 9) = False := by decide
  have hne2 : ((930042429472713999 : UInt64) = 9) = False := by decide
  have hbn : n64 930042429472713999 = 930042429472713999 := rfl
  refine calls_v (n := 88) Tryz.func5 rfl Tryz.ntmps5 [] (by simp) (.x (.a (.v (.bool true)))) (fun _ => rfl) ?_
  simp only [push_cast, ↓Int.toNat_natCast, ↓Int.cast_ofNat_Int, Int.cast_ofNat_Int, ↓reduceIte, reduceCtorEq, Nat.reduceEqDiff, Nat.reduceLT, Nat.reduceLeDiff, Nat.reduceAdd, Nat.reduceSub, Nat.reduceMul, Int.reduceNeg, Int.reduceLE, Int.reduceLT, Int.reduceToNat, Int.reduceAdd, Int.reduceSub, Int.reduceMul, Int.reduceEq]
  (repeat (refine And.intro (by first | omega | decide) ?_))
  refine callG_v rfl cb6 rfl (publicK 7) (dOk_lt rfl) ?_
  simp (config := { maxSteps := 1000000 }) only [p37, sb, se, sn, sne, so, soe, sx, sy0, sy1, so2, so2e, so2x, so2y, n5, n7, n9, vz0, hi0, hi1, hat, hbn, hne, hne2, not_false_eq_true, decide_true, erV_zero, undef, beq_self_eq_true, push_cast, ↓Int.toNat_natCast, ↓Int.cast_ofNat_Int, Int.cast_ofNat_Int, ↓reduceIte, reduceCtorEq, Nat.reduceEqDiff, Nat.reduceLT, Nat.reduceLeDiff, Nat.reduceAdd, Nat.reduceSub, Nat.reduceMul, Int.reduceNeg, Int.reduceLE, Int.reduceLT, Int.reduceToNat, Int.reduceAdd, Int.reduceSub, Int.reduceMul, Int.reduceEq]
  (repeat (refine And.intro (by first | omega | decide) ?_))
  refine callG_x rfl cb7 rfl (boxOK25 (of := []) (an := []) (l := [(4, 2187)]) 4 1 1 9 7 (by decide) (by decide) (by decide) shows_nil shows_nil (showsR_onn rfl (fun _ => rfl) rfl) hk hw (by simp only [push_cast, ↓Int.toNat_natCast, ↓Int.cast_ofNat_Int, Int.cast_ofNat_Int, ↓reduceIte, reduceCtorEq, Nat.reduceEqDiff, Nat.reduceLT, Nat.reduceLeDiff, Nat.reduceAdd, Nat.reduceSub, Nat.reduceMul, Int.reduceNeg, Int.reduceLE, Int.reduceLT, Int.reduceToNat, Int.reduceAdd, Int.reduceSub, Int.reduceMul, Int.reduceEq])) (dOk_lt rfl) (by simp only [push_cast, ↓Int.toNat_natCast, ↓Int.cast_ofNat_Int, Int.cast_ofNat_Int, ↓reduceIte, reduceCtorEq, Nat.reduceEqDiff, Nat.reduceLT, Nat.reduceLeDiff, Nat.reduceAdd, Nat.reduceSub, Nat.reduceMul, Int.reduceNeg, Int.reduceLE, Int.reduceLT, Int.reduceToNat, Int.reduceAdd, Int.reduceSub, Int.reduceMul, Int.reduceEq]) ?_
  simp (config := { maxSteps := 1000000 }) only [p37, sb, se, sn, sne, so, soe, sx, sy0, sy1, so2, so2e, so2x, so2y, n5, n7, n9, vz0, hi0, hi1, hat, hbn, hne, hne2, not_false_eq_true, decide_true, erV_zero, undef, beq_self_eq_true, push_cast, ↓Int.toNat_natCast, ↓Int.cast_ofNat_Int, Int.cast_ofNat_Int, ↓reduceIte, reduceCtorEq, Nat.reduceEqDiff, Nat.reduceLT, Nat.reduceLeDiff, Nat.reduceAdd, Nat.reduceSub, Nat.reduceMul, Int.reduceNeg, Int.reduceLE, Int.reduceLT, Int.reduceToNat, Int.reduceAdd, Int.reduceSub, Int.reduceMul, Int.reduceEq]
  (repeat (refine And.intro (by first | omega | decide) ?_))
  refine drawV_rule 2 [] (.rd 0 (.rd 1 (.rd 2 (.rd 3 (.rd 4 (.rd 5 (.rd 6 (.rd 7 (.rd 8 (.rd 9 (.fk 10 (.rd 11 (.rd 12 (.rd 13 (.wr 14 (.wr 15 (.rd 16 .nil)))))) 14 (.wr 10 (.rd 11 (.rd 12 (.rd 13 (.wr 15 (.rd 16 .nil))))))))))))))))) ⟨[(1, .x (.a (.o 0))), (2, .x (.a (.o 1))), (4, .x (.a (.p 2 0))), (5, .x (.a (.v .nilIface)))],
    [.onn 34 2 (.c [.v (.int .i64 4), .v (vU64 2187)]), .own 23 (.u64 [930042429472713999, 389352455896158587]), .blk 42 (.c [.v (vU64 5), .v (vU64 9), .v (vU64 5), .v (vU64 7)])]⟩ (by kernel_rfl) (by kernel_rfl) (by kernel_rfl) (Nat.le_refl 2) ?_ ?_
  · simp (config := { maxSteps := 1000000 }) only [p37, sb, se, sn, sne, so, soe, sx, sy0, sy1, so2, so2e, so2x, so2y, n5, n7, n9, vz0, hi0, hi1, hat, hbn, hne, hne2, not_false_eq_true, decide_true, erV_zero, undef, beq_self_eq_true, push_cast, ↓Int.toNat_natCast, ↓Int.cast_ofNat_Int, Int.cast_ofNat_Int, ↓reduceIte, reduceCtorEq, Nat.reduceEqDiff, Nat.reduceLT, Nat.reduceLeDiff, Nat.reduceAdd, Nat.reduceSub, Nat.reduceMul, Int.reduceNeg, Int.reduceLE, Int.reduceLT, Int.reduceToNat, Int.reduceAdd, Int.reduceSub, Int.reduceMul, Int.reduceEq]
    (repeat (refine And.intro (by first | omega | decide) ?_))
    refine ⟨?_, ?_⟩
    · refine callQ_v rfl cb8 rfl (openOK25 4 1 7 (4, 2187) 930042429472713999 389352455896158587 hk hw) (dOk_lt rfl) ?_
      simp (config := { maxSteps := 1000000 }) only [p37, sb, se, sn, sne, so, soe, sx, sy0, sy1, so2, so2e, so2x, so2y, n5, n7, n9, vz0, hi0, hi1, hat, hbn, hne, hne2, not_false_eq_true, decide_true, erV_zero, undef, beq_self_eq_true, push_cast, ↓Int.toNat_natCast, ↓Int.cast_ofNat_Int, Int.cast_ofNat_Int, ↓reduceIte, reduceCtorEq, Nat.reduceEqDiff, Nat.reduceLT, Nat.reduceLeDiff, Nat.reduceAdd, Nat.reduceSub, Nat.reduceMul, Int.reduceNeg, Int.reduceLE, Int.reduceLT, Int.reduceToNat, Int.reduceAdd, Int.reduceSub, Int.reduceMul, Int.reduceEq]
      (repeat (refine And.intro (by first | omega | decide) ?_))
      refine leads_le [0, 1, 2] ?_
      simp (config := { maxSteps := 1000000 }) only [p37, sb, se, sn, sne, so, soe, sx, sy0, sy1, so2, so2e, so2x, so2y, n5, n7, n9, vz0, hi0, hi1, hat, hbn, hne, hne2, not_false_eq_true, decide_true, erV_zero, undef, beq_self_eq_true, push_cast, ↓Int.toNat_natCast, ↓Int.cast_ofNat_Int, Int.cast_ofNat_Int, ↓reduceIte, reduceCtorEq, Nat.reduceEqDiff, Nat.reduceLT, Nat.reduceLeDiff, Nat.reduceAdd, Nat.reduceSub, Nat.reduceMul, Int.reduceNeg, Int.reduceLE, Int.reduceLT, Int.reduceToNat, Int.reduceAdd, Int.reduceSub, Int.reduceMul, Int.reduceEq]
    · refine callQ_v rfl cb8 rfl (openOK25 4 1 7 (4, 2187) 930042429472713999 389352455896158587 hk hw) (dOk_lt rfl) ?_
      simp (config := { maxSteps := 1000000 }) only [p37, sb, se, sn, sne, so, soe, sx, sy0, sy1, so2, so2e, so2x, so2y, n5, n7, n9, vz0, hi0, hi1, hat, hbn, hne, hne2, not_false_eq_true, decide_true, erV_zero, undef, beq_self_eq_true, push_cast, ↓Int.toNat_natCast, ↓Int.cast_ofNat_Int, Int.cast_ofNat_Int, ↓reduceIte, reduceCtorEq, Nat.reduceEqDiff, Nat.reduceLT, Nat.reduceLeDiff, Nat.reduceAdd, Nat.reduceSub, Nat.reduceMul, Int.reduceNeg, Int.reduceLE, Int.reduceLT, Int.reduceToNat, Int.reduceAdd, Int.reduceSub, Int.reduceMul, Int.reduceEq]
      (repeat (refine And.intro (by first | omega | decide) ?_))
      refine leads_le [0, 1, 2] ?_
      simp (config := { maxSteps := 1000000 }) only [p37, sb, se, sn, sne, so, soe, sx, sy0, sy1, so2, so2e, so2x, so2y, n5, n7, n9, vz0, hi0, hi1, hat, hbn, hne, hne2, not_false_eq_true, decide_true, erV_zero, undef, beq_self_eq_true, push_cast, ↓Int.toNat_natCast, ↓Int.cast_ofNat_Int, Int.cast_ofNat_Int, ↓reduceIte, reduceCtorEq, Nat.reduceEqDiff, Nat.reduceLT, Nat.reduceLeDiff, Nat.reduceAdd, Nat.reduceSub, Nat.reduceMul, Int.reduceNeg, Int.reduceLE, Int.reduceLT, Int.reduceToNat, Int.reduceAdd, Int.reduceSub, Int.reduceMul, Int.reduceEq]
  · simp (config := { maxSteps := 1000000 }) only [p37, sb, se, sn, sne, so, soe, sx, sy0, sy1, so2, so2e, so2x, so2y, n5, n7, n9, vz0, hi0, hi1, hat, hbn, hne, hne2, not_false_eq_true, decide_true, erV_zero, undef, beq_self_eq_true, push_cast, ↓Int.toNat_natCast, ↓Int.cast_ofNat_Int, Int.cast_ofNat_Int, ↓reduceIte, reduceCtorEq, Nat.reduceEqDiff, Nat.reduceLT, Nat.reduceLeDiff, Nat.reduceAdd, Nat.reduceSub, Nat.reduceMul, Int.reduceNeg, Int.reduceLE, Int.reduceLT, Int.reduceToNat, Int.reduceAdd, Int.reduceSub, Int.reduceMul, Int.reduceEq]
    (repeat (refine And.intro (by first | omega | decide) ?_))
    refine callG_x rfl cb7 rfl (boxOK25 (of := []) (an := []) (l := [(4, 2187)]) 5 1 1 9 7 (by decide) (by decide) (by decide) shows_nil shows_nil (showsR_onn rfl (fun _ => rfl) rfl) hk hw (by simp only [push_cast, ↓Int.toNat_natCast, ↓Int.cast_ofNat_Int, Int.cast_ofNat_Int, ↓reduceIte, reduceCtorEq, Nat.reduceEqDiff, Nat.reduceLT, Nat.reduceLeDiff, Nat.reduceAdd, Nat.reduceSub, Nat.reduceMul, Int.reduceNeg, Int.reduceLE, Int.reduceLT, Int.reduceToNat, Int.reduceAdd, Int.reduceSub, Int.reduceMul, Int.reduceEq])) (dOk_lt rfl) (by simp only [push_cast, ↓Int.toNat_natCast, ↓Int.cast_ofNat_Int, Int.cast_ofNat_Int, ↓reduceIte, reduceCtorEq, Nat.reduceEqDiff, Nat.reduceLT, Nat.reduceLeDiff, Nat.reduceAdd, Nat.reduceSub, Nat.reduceMul, Int.reduceNeg, Int.reduceLE, Int.reduceLT, Int.reduceToNat, Int.reduceAdd, Int.reduceSub, Int.reduceMul, Int.reduceEq]) ?_
    simp (config := { maxSteps := 1000000 }) only [p37, sb, se, sn, sne, so, soe, sx, sy0, sy1, so2, so2e, so2x, so2y, n5, n7, n9, vz0, hi0, hi1, hat, hbn, hne, hne2, not_false_eq_true, decide_true, erV_zero, undef, beq_self_eq_true, push_cast, ↓Int.toNat_natCast, ↓Int.cast_ofNat_Int, Int.cast_ofNat_Int, ↓reduceIte, reduceCtorEq, Nat.reduceEqDiff, Nat.reduceLT, Nat.reduceLeDiff, Nat.reduceAdd, Nat.reduceSub, Nat.reduceMul, Int.reduceNeg, Int.reduceLE, Int.reduceLT, Int.reduceToNat, Int.reduceAdd, Int.reduceSub, Int.reduceMul, Int.reduceEq]
    (repeat (refine And.intro (by first | omega | decide) ?_))
    refine callG_v rfl cb8 rfl (openOK25 64 1 7 (4, 2187) 0 0 hk hw) (dOk_lt rfl) ?_
    simp (config := { maxSteps := 1000000 }) only [p37, sb, se, sn, sne, so, soe, sx, sy0, sy1, so2, so2e, so2x, so2y, n5, n7, n9, vz0, hi0, hi1, hat, hbn, hne, hne2, not_false_eq_true, decide_true, erV_zero, undef, beq_self_eq_true, push_cast, ↓Int.toNat_natCast, ↓Int.cast_ofNat_Int, Int.cast_ofNat_Int, ↓reduceIte, reduceCtorEq, Nat.reduceEqDiff, Nat.reduceLT, Nat.reduceLeDiff, Nat.reduceAdd, Nat.reduceSub, Nat.reduceMul, Int.reduceNeg, Int.reduceLE, Int.reduceLT, Int.reduceToNat, Int.reduceAdd, Int.reduceSub, Int.reduceMul, Int.reduceEq]
    (repeat (refine And.intro (by first | omega | decide) ?_))
    refine callG_v rfl cb16 rfl (nmOK25 1 hg) (dOk_lt rfl) ?_
    simp (config := { maxSteps := 1000000 }) only [p37, sb, se, sn, sne, so, soe, sx, sy0, sy1, so2, so2e, so2x, so2y, n5, n7, n9, vz0, hi0, hi1, hat, hbn, hne, hne2, not_false_eq_true, decide_true, erV_zero, undef, beq_self_eq_true, push_cast, ↓Int.toNat_natCast, ↓Int.cast_ofNat_Int, Int.cast_ofNat_Int, ↓reduceIte, reduceCtorEq, Nat.reduceEqDiff, Nat.reduceLT, Nat.reduceLeDiff, Nat.reduceAdd, Nat.reduceSub, Nat.reduceMul, Int.reduceNeg, Int.reduceLE, Int.reduceLT, Int.reduceToNat, Int.reduceAdd, Int.reduceSub, Int.reduceMul, Int.reduceEq]
    (repeat (refine And.intro (by first | omega | decide) ?_))
    refine callG_v rfl cb16 rfl (nmOK25 1 hg) (dOk_lt rfl) ?_
    simp (config := { maxSteps := 1000000 }) only [p37, sb, se, sn, sne, so, soe, sx, sy0, sy1, so2, so2e, so2x, so2y, n5, n7, n9, vz0, hi0, hi1, hat, hbn, hne, hne2, not_false_eq_true, decide_true, erV_zero, undef, beq_self_eq_true, push_cast, ↓Int.toNat_natCast, ↓Int.cast_ofNat_Int, Int.cast_ofNat_Int, ↓reduceIte, reduceCtorEq, Nat.reduceEqDiff, Nat.reduceLT, Nat.reduceLeDiff, Nat.reduceAdd, Nat.reduceSub, Nat.reduceMul, Int.reduceNeg, Int.reduceLE, Int.reduceLT, Int.reduceToNat, Int.reduceAdd, Int.reduceSub, Int.reduceMul, Int.reduceEq]
    (repeat (refine And.intro (by first | omega | decide) ?_))
    refine callG_v rfl cb17 rfl (atOK 4) (dOk_lt rfl) ?_
    simp (config := { maxSteps := 1000000 }) only [p37, sb, se, sn, sne, so, soe, sx, sy0, sy1, so2, so2e, so2x, so2y, n5, n7, n9, vz0, hi0, hi1, hat, hbn, hne, hne2, not_false_eq_true, decide_true, erV_zero, undef, beq_self_eq_true, push_cast, ↓Int.toNat_natCast, ↓Int.cast_ofNat_Int, Int.cast_ofNat_Int, ↓reduceIte, reduceCtorEq, Nat.reduceEqDiff, Nat.reduceLT, Nat.reduceLeDiff, Nat.reduceAdd, Nat.reduceSub, Nat.reduceMul, Int.reduceNeg, Int.reduceLE, Int.reduceLT, Int.reduceToNat, Int.reduceAdd, Int.reduceSub, Int.reduceMul, Int.reduceEq]
theorem sure25OK {w0 : World} {hp : List Res} (hk : LaidK 4 w0) (hg : Handle w0) (hw : TabW w0) : CallOK Tryz.prog w0 No 5 [] hp (.x (.a (.v (.bool true)))) hp := callOK_v fun _ w hS => sure25_any w (laid_later hk hS) (handle_sat hg hS) (hw.later hS)
end Go.Proofs.YteiifdpikcnbgaaGreatDoor
