/- escrow.At, escrow.Box: for each peer the two shares that it is to keep. -/
import Derived.Test.YteiifdpikcnbgaaDoorEsA
import Derived.Test.YteiifdpikcnbgaaDoorEsB
import Derived.Test.YteiifdpikcnbgaaDoorEsC
import Derived.Test.YteiifdpikcnbgaaDoorBl1
namespace Go.Proofs.YteiifdpikcnbgaaDoor
open Go.RowKit
set_option linter.unusedSimpArgs false
def atU (n : Int) : UInt64 := UInt64.ofInt n + 1
def bxOk (me gen need : Int) (key : UInt64) (n1 n2 : Nat) (l : List Pr) : Bool := may l && (isP l (me, powU 3 key) && decide (1 ≤ gen ∧ gen ≤ 1073741824 ∧ 1 ≤ need ∧ need ≤ l.length ∧ need - 1 ≤ n1 ∧ need - 1 ≤ n2))
theorem bxOk_spec {me gen need : Int} {key : UInt64} {n1 n2 : Nat} {l : List Pr} : bxOk me gen need key n1 n2 l = true ↔ may l = true ∧ isP l (me, powU 3 key) = true ∧ 1 ≤ gen ∧ gen ≤ 1073741824 ∧ 1 ≤ need ∧ need ≤ l.length ∧ need - 1 ≤ n1 ∧ need - 1 ≤ n2 := by
  unfold bxOk
  rw [Bool.and_eq_true, Bool.and_eq_true, decide_eq_true_eq]
def bxErr (me gen need : Int) (key : UInt64) (n1 n2 : Nat) (l : List Pr) : Value := if bxOk me gen need key n1 n2 l = true then .nilIface else .iface 121 (.int .i64 1)
/-- The two numbers for one peer. -/
def bxV (c : List UInt64) (me gen : Int) (key : UInt64) (p : Pr) (i : Nat) : UInt64 := addU (polyU c (atU p.1)) (hidU (powU p.2 key) me.toNat p.1.toNat gen.toNat i)
def bxTo (a b : List UInt64) (me gen : Int) (key : UInt64) (l : List Pr) : Nat → List UInt64
  | 0 => []
  | k + 1 => bxTo a b me gen key l k ++ [bxV a me gen key (ix l k) 0, bxV b me gen key (ix l k) 1]
theorem bxTo_succ (a b : List UInt64) (me gen : Int) (key : UInt64) (l : List Pr) (k : Nat) : bxTo a b me gen key l (k + 1) = bxTo a b me gen key l k ++ [bxV a me gen key (ix l k) 0, bxV b me gen key (ix l k) 1] := rfl
theorem bxTo_length (a b : List UInt64) (me gen : Int) (key : UInt64) (l : List Pr) (k : Nat) : (bxTo a b me gen key l k).length = 2 * k := by
  induction k with
  | zero => rfl
  | succ k ih => rw [bxTo, List.length_append, ih]; rfl
def bxOut (me gen need : Int) (self key : UInt64) (of an : List UInt64) (l : List Pr) : List UInt64 :=
  if bxOk me gen need key of.length an.length l = true then bxTo (self :: of.take (need - 1).toNat) (key :: an.take (need - 1).toNat) me gen key l l.length else []
theorem bx_no {me gen need : Int} {key : UInt64} {of an : List UInt64} {l : List Pr} (h : ¬ bxOk me gen need key of.length an.length l = true) (self : UInt64) :
    bxErr me gen need key of.length an.length l = .iface 121 (.int .i64 1) ∧ bxOut me gen need self key of an l = [] := ⟨if_neg h, if_neg h⟩
theorem bx_yes {me gen need : Int} {key : UInt64} {of an : List UInt64} {l : List Pr} (h : bxOk me gen need key of.length an.length l = true) (self : UInt64) :
    bxErr me gen need key of.length an.length l = .nilIface ∧ bxOut me gen need self key of an l = bxTo (self :: of.take (need - 1).toNat) (key :: an.take (need - 1).toNat) me gen key l l.length := ⟨if_pos h, if_pos h⟩
theorem may_id {l : List Pr} (h : may l = true) {i : Nat} (hi : i < l.length) : ∃ n : Nat, (ix l i).1 = n ∧ n < 64 := by
  obtain ⟨h1, h2, _⟩ := (may_pw.1 h).2 _ (ix_mem hi)
  exact ⟨(ix l i).1.toNat, by omega, by omega⟩
theorem isP_id {l : List Pr} {p : Pr} (h : may l = true) (hp : isP l p = true) : ∃ n : Nat, p.1 = n ∧ n < 64 := by
  obtain ⟨i, hi, e⟩ := mem_ix (of_decide_eq_true hp)
  rw [← e]
  exact may_id h hi
theorem rd64_take {w : World} {A : Option Addr} {l : List UInt64} (k : Nat) (hk : k ≤ l.length) (h : RdV w w.heap.size A (l.map vU64)) : rd64 w A k = l.take k ∧ Rd64 w No A k := by
  have := rd64_of (l := l.take k) (FV.no (by rw [List.map_take]; exact rdv_take h k))
  rwa [List.length_take, show min k l.length = k from by omega] at this
theorem pCut_zero (A : Option Addr) (c : Nat) : pCut A 0 c = A := by unfold pCut; split <;> first | rfl | (cases A <;> first | rfl | (simp only [pAdd, Option.map_some, Addr.add]; rfl))
attribute [local irreducible] Callable CallOK CallG CallM DrawG LoopG symR symM
set_option maxRecDepth 100000 in
theorem at_any (n : Int) (w : World) : Calls Tryd.prog 34 #[.int .i64 n] w fun e w' => e = .returned (vU64 (atU n)) ∧ Below w.heap.size w w' := by
  refine calls_v (n := 6) Tryd.func34 rfl Tryd.ntmps34 [.x (.a (.v (.int .i64 n)))] (by simp) (.x (.a (.v (vU64 (atU n))))) (fun _ => rfl) ?_
  have h : UInt64.ofInt n + 1 = atU n := rfl
  simp only [undef, h, push_cast, ↓Int.toNat_natCast, ↓Int.cast_ofNat_Int, Int.cast_ofNat_Int, ↓reduceIte, reduceCtorEq, Nat.reduceEqDiff, Nat.reduceLT, Nat.reduceLeDiff, Nat.reduceAdd, Nat.reduceSub, Nat.reduceMul, Int.reduceNeg, Int.reduceLE, Int.reduceLT, Int.reduceToNat, Int.reduceAdd, Int.reduceSub, Int.reduceMul, Int.reduceEq]
theorem atOK {w0 : World} {ow : Nat → Prop} {hp : List Res} (n : Int) : CallOK Tryd.prog w0 ow 34 [.x (.a (.v (.int .i64 n)))] hp (.x (.a (.v (vU64 (atU n))))) hp := callOK_v fun _ w _ => at_any n w
attribute [local irreducible] may isP bxErr bxOut bxOk bxTo bxV addU polyU powU hidU atU
set_option maxRecDepth 100000 in
set_option maxHeartbeats 8000000 in
theorem box_any (me gen need : Int) (self key : UInt64) (of an : List UInt64) (l : List Pr) (A : Option Addr) (c : Nat) (A2 : Option Addr) (c2 : Nat) (A3 : Option Addr) (c3 : Nat) (w : World) (hl : l.length ≤ 1000) (h2l : of.length ≤ 1000) (h3l : an.length ≤ 1000)
    (hc : l.length ≤ c) (hc2 : of.length ≤ c2) (hc3 : an.length ≤ c3) (hR : RdV w w.heap.size A (pvs l)) (hR2 : RdV w w.heap.size A2 (of.map vU64)) (hR3 : RdV w w.heap.size A3 (an.map vU64)) (hk : LaidK 2 w) (hw : TabW w) :
    Calls Tryd.prog 26 (List.map (Sv.val []) [.x (.a (.v (.int .i64 me))), .x (.a (.v (.int .i64 gen))), (.x (.g [.v (vU64 self), .v (vU64 key), .v (.slice A2 of.length c2), .v (.slice A3 an.length c3)])), .x (.a (.v (.int .i64 need))), .x (.a (.v (.slice A l.length c)))]).toArray w fun e w' => ∃ v, e = .returned (.tuple #[v, bxErr me gen need key of.length an.length l]) ∧ Own w' w.heap.size 23 v ((bxOut me gen need self key of an l).map vU64) ∧ Below w.heap.size w w' := by
  have F := FP.of hR
  have h0 := fun h => calls_own2 (P := Tryd.prog) (w := w) (n := 130) Tryd.func26 rfl Tryd.ntmps26 [.x (.a (.v (.int .i64 me))), .x (.a (.v (.int .i64 gen))), (.x (.g [.v (vU64 self), .v (vU64 key), .v (.slice A2 of.length c2), .v (.slice A3 an.length c3)])), .x (.a (.v (.int .i64 need))), .x (.a (.v (.slice A l.length c)))] (by simp) 23 (.u64 (bxOut me gen need self key of an l)) (bxErr me gen need key of.length an.length l) (vs := (bxOut me gen need self key of an l).map vU64) (fun _ => rfl) h
  refine h0 ?_
  clear h0
  have no := fun h => bx_no (me := me) (gen := gen) (need := need) (key := key) (of := of) (an := an) (l := l) h self
  simp (config := { maxSteps := 1000000 }) only [undef, push_cast, ↓Int.toNat_natCast, ↓Int.cast_ofNat_Int, Int.cast_ofNat_Int, ↓reduceIte, reduceCtorEq, Nat.reduceEqDiff, Nat.reduceLT, Nat.reduceLeDiff, Nat.reduceAdd, Nat.reduceSub, Nat.reduceMul, Int.reduceNeg, Int.reduceLE, Int.reduceLT, Int.reduceToNat, Int.reduceAdd, Int.reduceSub, Int.reduceMul, Int.reduceEq]
  refine callG_v rfl cb55 rfl (check09OK (showsR_raw hR hc)) (dOk_lt rfl) ?_
  cases hm : may l
  · obtain ⟨n1, n2⟩ := no fun h => by rw [(bxOk_spec.1 h).1] at hm; cases hm
    simp (config := { maxSteps := 1000000 }) only [mayErr_no hm, n1, n2, undef, ownT2, ownT, push_cast, ↓Int.toNat_natCast, ↓Int.cast_ofNat_Int, Int.cast_ofNat_Int, ↓reduceIte, reduceCtorEq, Nat.reduceEqDiff, Nat.reduceLT, Nat.reduceLeDiff, Nat.reduceAdd, Nat.reduceSub, Nat.reduceMul, Int.reduceNeg, Int.reduceLE, Int.reduceLT, Int.reduceToNat, Int.reduceAdd, Int.reduceSub, Int.reduceMul, Int.reduceEq]
  simp (config := { maxSteps := 1000000 }) only [mayErr_yes hm, undef, push_cast, ↓Int.toNat_natCast, ↓Int.cast_ofNat_Int, Int.cast_ofNat_Int, ↓reduceIte, reduceCtorEq, Nat.reduceEqDiff, Nat.reduceLT, Nat.reduceLeDiff, Nat.reduceAdd, Nat.reduceSub, Nat.reduceMul, Int.reduceNeg, Int.reduceLE, Int.reduceLT, Int.reduceToNat, Int.reduceAdd, Int.reduceSub, Int.reduceMul, Int.reduceEq]
  (repeat (refine And.intro (by first | omega | decide) ?_))
  refine callG_v rfl cb20 rfl (publicK key) (dOk_lt rfl) ?_
  simp (config := { maxSteps := 1000000 }) only [mayErr_yes hm, undef, push_cast, ↓Int.toNat_natCast, ↓Int.cast_ofNat_Int, Int.cast_ofNat_Int, ↓reduceIte, reduceCtorEq, Nat.reduceEqDiff, Nat.reduceLT, Nat.reduceLeDiff, Nat.reduceAdd, Nat.reduceSub, Nat.reduceMul, Int.reduceNeg, Int.reduceLE, Int.reduceLT, Int.reduceToNat, Int.reduceAdd, Int.reduceSub, Int.reduceMul, Int.reduceEq]
  (repeat (refine And.intro (by first | omega | decide) ?_))
  refine callG_v rfl cb69 rfl (containsPOK2 (me, powU 3 key) (by omega) (showsR_raw hR hc)) (dOk_lt rfl) ?_
  cases hi : isP l (me, powU 3 key)
  · obtain ⟨n1, n2⟩ := no fun h => by rw [(bxOk_spec.1 h).2.1] at hi; cases hi
    simp (config := { maxSteps := 1000000 }) only [n1, n2, undef, ownT2, ownT, push_cast, ↓Int.toNat_natCast, ↓Int.cast_ofNat_Int, Int.cast_ofNat_Int, ↓reduceIte, reduceCtorEq, Nat.reduceEqDiff, Nat.reduceLT, Nat.reduceLeDiff, Nat.reduceAdd, Nat.reduceSub, Nat.reduceMul, Int.reduceNeg, Int.reduceLE, Int.reduceLT, Int.reduceToNat, Int.reduceAdd, Int.reduceSub, Int.reduceMul, Int.reduceEq]
  by_cases g1 : gen < 1
  · obtain ⟨n1, n2⟩ := no fun h => by have := bxOk_spec.1 h; omega
    simp (config := { maxSteps := 1000000 }) only [g1, n1, n2, undef, ownT2, ownT, push_cast, ↓Int.toNat_natCast, ↓Int.cast_ofNat_Int, Int.cast_ofNat_Int, ↓reduceIte, reduceCtorEq, Nat.reduceEqDiff, Nat.reduceLT, Nat.reduceLeDiff, Nat.reduceAdd, Nat.reduceSub, Nat.reduceMul, Int.reduceNeg, Int.reduceLE, Int.reduceLT, Int.reduceToNat, Int.reduceAdd, Int.reduceSub, Int.reduceMul, Int.reduceEq]
  by_cases g2 : 1073741824 < gen
  · obtain ⟨n1, n2⟩ := no fun h => by have := bxOk_spec.1 h; omega
    simp (config := { maxSteps := 1000000 }) only [g1, g2, n1, n2, undef, ownT2, ownT, push_cast, ↓Int.toNat_natCast, ↓Int.cast_ofNat_Int, Int.cast_ofNat_Int, ↓reduceIte, reduceCtorEq, Nat.reduceEqDiff, Nat.reduceLT, Nat.reduceLeDiff, Nat.reduceAdd, Nat.reduceSub, Nat.reduceMul, Int.reduceNeg, Int.reduceLE, Int.reduceLT, Int.reduceToNat, Int.reduceAdd, Int.reduceSub, Int.reduceMul, Int.reduceEq]
  by_cases g3 : need < 1
  · obtain ⟨n1, n2⟩ := no fun h => by have := bxOk_spec.1 h; omega
    simp (config := { maxSteps := 1000000 }) only [g1, g2, g3, n1, n2, undef, ownT2, ownT, push_cast, ↓Int.toNat_natCast, ↓Int.cast_ofNat_Int, Int.cast_ofNat_Int, ↓reduceIte, reduceCtorEq, Nat.reduceEqDiff, Nat.reduceLT, Nat.reduceLeDiff, Nat.reduceAdd, Nat.reduceSub, Nat.reduceMul, Int.reduceNeg, Int.reduceLE, Int.reduceLT, Int.reduceToNat, Int.reduceAdd, Int.reduceSub, Int.reduceMul, Int.reduceEq]
  by_cases g4 : (l.length : Int) < need
  · obtain ⟨n1, n2⟩ := no fun h => by have := bxOk_spec.1 h; omega
    simp (config := { maxSteps := 1000000 }) only [g1, g2, g3, g4, n1, n2, undef, ownT2, ownT, push_cast, ↓Int.toNat_natCast, ↓Int.cast_ofNat_Int, Int.cast_ofNat_Int, ↓reduceIte, reduceCtorEq, Nat.reduceEqDiff, Nat.reduceLT, Nat.reduceLeDiff, Nat.reduceAdd, Nat.reduceSub, Nat.reduceMul, Int.reduceNeg, Int.reduceLE, Int.reduceLT, Int.reduceToNat, Int.reduceAdd, Int.reduceSub, Int.reduceMul, Int.reduceEq]
  obtain ⟨nn, hq⟩ : ∃ nn : Nat, need - 1 = nn := ⟨(need - 1).toNat, by omega⟩
  have b1 : (-9223372036854775808 : Int) ≤ nn := by omega
  have b2 : (nn : Int) ≤ 9223372036854775807 := by omega
  by_cases g5 : (of.length : Int) < nn
  · obtain ⟨n1, n2⟩ := no fun h => by have := bxOk_spec.1 h; omega
    simp (config := { maxSteps := 1000000 }) only [g1, g2, g3, g4, g5, hq, b1, b2, n1, n2, undef, ownT2, ownT, push_cast, ↓Int.toNat_natCast, ↓Int.cast_ofNat_Int, Int.cast_ofNat_Int, ↓reduceIte, reduceCtorEq, Nat.reduceEqDiff, Nat.reduceLT, Nat.reduceLeDiff, Nat.reduceAdd, Nat.reduceSub, Nat.reduceMul, Int.reduceNeg, Int.reduceLE, Int.reduceLT, Int.reduceToNat, Int.reduceAdd, Int.reduceSub, Int.reduceMul, Int.reduceEq]
  by_cases g6 : (an.length : Int) < nn
  · obtain ⟨n1, n2⟩ := no fun h => by have := bxOk_spec.1 h; omega
    simp (config := { maxSteps := 1000000 }) only [g1, g2, g3, g4, g5, g6, hq, b1, b2, n1, n2, undef, ownT2, ownT, push_cast, ↓Int.toNat_natCast, ↓Int.cast_ofNat_Int, Int.cast_ofNat_Int, ↓reduceIte, reduceCtorEq, Nat.reduceEqDiff, Nat.reduceLT, Nat.reduceLeDiff, Nat.reduceAdd, Nat.reduceSub, Nat.reduceMul, Int.reduceNeg, Int.reduceLE, Int.reduceLT, Int.reduceToNat, Int.reduceAdd, Int.reduceSub, Int.reduceMul, Int.reduceEq]
  obtain ⟨n1, n2⟩ := bx_yes (me := me) (gen := gen) (need := need) (key := key) (of := of) (an := an) (l := l) (bxOk_spec.2 ⟨hm, hi, by omega, by omega, by omega, by omega, by omega, by omega⟩) self
  obtain ⟨e2, k2⟩ := rd64_take nn (by omega) hR2
  obtain ⟨e3, k3⟩ := rd64_take nn (by omega) hR3
  simp (config := { maxSteps := 1000000 }) only [g1, g2, g3, g4, g5, g6, hq, b1, b2, undef, push_cast, ↓Int.toNat_natCast, ↓Int.cast_ofNat_Int, Int.cast_ofNat_Int, ↓reduceIte, reduceCtorEq, Nat.reduceEqDiff, Nat.reduceLT, Nat.reduceLeDiff, Nat.reduceAdd, Nat.reduceSub, Nat.reduceMul, Int.reduceNeg, Int.reduceLE, Int.reduceLT, Int.reduceToNat, Int.reduceAdd, Int.reduceSub, Int.reduceMul, Int.reduceEq]
  (repeat (refine And.intro (by first | omega | decide) ?_))
  refine drawK_rule [1] [(0, true), (1, true), (3, true), (4, true), (5, true), (6, true), (7, true), (2, false), (8, false), (9, true)] (by kernel_rfl) (by kernel_rfl) rfl (by kernel_rfl) ?_
  have m1 : nn ≤ c2 := by omega
  have m2 : nn ≤ c3 := by omega
  have m3 : 0 ≤ (nn : Int) := by omega
  have t2 : (of.take nn).length = nn := by rw [List.length_take]; omega
  have t3 : (an.take nn).length = nn := by rw [List.length_take]; omega
  have b3 : (1 + nn) * 8 ≤ 140737488355328 := by omega
  have b4 : 1 + nn ≤ 2 ^ 63 - 1 := by omega
  simp (config := { maxSteps := 1000000 }) only [pCut_zero, Nat.sub_zero, hq, b1, b2, b3, b4, m1, m2, m3, e2, e3, k2, k3, t2, t3, undef, push_cast, ↓Int.toNat_natCast, ↓Int.cast_ofNat_Int, Int.cast_ofNat_Int, ↓reduceIte, reduceCtorEq, Nat.reduceEqDiff, Nat.reduceLT, Nat.reduceLeDiff, Nat.reduceAdd, Nat.reduceSub, Nat.reduceMul, Int.reduceNeg, Int.reduceLE, Int.reduceLT, Int.reduceToNat, Int.reduceAdd, Int.reduceSub, Int.reduceMul, Int.reduceEq]
  (repeat (refine And.intro (by first | omega | decide) ?_))
  refine drawK_rule [3] [(0, true), (1, true), (3, true), (4, true), (5, true), (6, true), (7, true), (2, false), (8, false), (9, true)] (by kernel_rfl) (by kernel_rfl) rfl (by kernel_rfl) ?_
  simp (config := { maxSteps := 1000000 }) only [pCut_zero, Nat.sub_zero, hq, b1, b2, b3, b4, m1, m2, m3, e2, e3, k2, k3, t2, t3, undef, push_cast, ↓Int.toNat_natCast, ↓Int.cast_ofNat_Int, Int.cast_ofNat_Int, ↓reduceIte, reduceCtorEq, Nat.reduceEqDiff, Nat.reduceLT, Nat.reduceLeDiff, Nat.reduceAdd, Nat.reduceSub, Nat.reduceMul, Int.reduceNeg, Int.reduceLE, Int.reduceLT, Int.reduceToNat, Int.reduceAdd, Int.reduceSub, Int.reduceMul, Int.reduceEq]
  (repeat (refine And.intro (by first | omega | decide) ?_))
  have b5 : (-9223372036854775808 : Int) ≤ 2 * (l.length : Int) := by omega
  have b6 : 2 * (l.length : Int) ≤ 9223372036854775807 := by omega
  have b7 : 0 ≤ 2 * (l.length : Int) := by omega
  have e4 : (need - 1).toNat = nn := by omega
  rw [e4] at n2
  obtain ⟨m, hme, hm64⟩ := isP_id hm hi
  have hme : me = (m : Int) := hme
  subst hme
  obtain ⟨g, rfl⟩ : ∃ g : Nat, gen = g := ⟨gen.toNat, by omega⟩
  generalize hfa : self :: of.take nn = fa at *
  generalize hfb : key :: an.take nn = fb at *
  have lfa : fa.length ≤ 1000000 := by rw [← hfa, List.length_cons]; omega
  have lfb : fb.length ≤ 1000000 := by rw [← hfb, List.length_cons]; omega
  refine loop_rule (ι := Nat) (fun i => ⟨[(0, .x (.a (.v (.int .i64 m)))), (1, .x (.a (.v (.int .i64 g)))), (7, .x (.a (.p 0 0))), (12, .x (.a (.o 1))), (13, .x (.a (.o 2))), (14, .x (.a (.o 3))), (88, .x (.a (.v (.slice A l.length c)))), (89, .x (.a (.v (.int .i64 l.length)))), (90, .x (.a (.v (.int .i64 i))))],
    [.blk 71 (.c [.v (vU64 self), .v (vU64 key), .v (.slice A2 of.length c2), .v (.slice A3 an.length c3)]), .own 23 (.u64 fa), .own 23 (.u64 fb), .own 23 (.u64 (bxTo fa fb m g key l i))]⟩) (fun i => i ≤ l.length) (fun i => l.length - i) 0 [0, 2, 4, 5] (by omega) ?_ ?_
  · simp (config := { maxSteps := 1000000 }) only [bxTo, List.replicate_zero, push_cast, ↓Int.toNat_natCast, ↓Int.cast_ofNat_Int, Int.cast_ofNat_Int, ↓reduceIte, reduceCtorEq, Nat.reduceEqDiff, Nat.reduceLT, Nat.reduceLeDiff, Nat.reduceAdd, Nat.reduceSub, Nat.reduceMul, Int.reduceNeg, Int.reduceLE, Int.reduceLT, Int.reduceToNat, Int.reduceAdd, Int.reduceSub, Int.reduceMul, Int.reduceEq]
  · intro i hil
    by_cases hlt : (i : Int) < l.length
    · have i0 : (0 : Int) ≤ i := by omega
      have c0 := F.c0 i (by omega)
      have c1 := F.c1 i (by omega)
      have o0 := F.ok0 i (by omega)
      have o1 := F.ok1 i (by omega)
      have hA := F.some_ (by omega)
      have hbl := bxTo_length fa fb m g key l i
      have q1 : (2 * i + 2) * 8 ≤ 140737488355328 := by omega
      have q2 : 2 * i + 2 ≤ 2 ^ 63 - 1 := by omega
      have hs := (bxTo_succ fa fb m g key l i).symm
      obtain ⟨d, hd, hd64⟩ := may_id hm (i := i) (by omega)
      simp (config := { maxSteps := 1000000 }) only [hlt, i0, c0, c1, o0, o1, hA, hd, pAdd_zero, pAdd_add, pAdd_isSome, undef, push_cast, ↓Int.toNat_natCast, ↓Int.cast_ofNat_Int, Int.cast_ofNat_Int, ↓reduceIte, reduceCtorEq, Nat.reduceEqDiff, Nat.reduceLT, Nat.reduceLeDiff, Nat.reduceAdd, Nat.reduceSub, Nat.reduceMul, Int.reduceNeg, Int.reduceLE, Int.reduceLT, Int.reduceToNat, Int.reduceAdd, Int.reduceSub, Int.reduceMul, Int.reduceEq]
      (repeat (refine And.intro (by first | omega | decide) ?_))
      refine drawV_rule 5 [] (.rd 0 (.rd 1 (.rd 2 (.rd 3 (.rd 5 (.rd 6 (.rd 7 (.rd 8 (.fk 4 (.fk 9 (.rd 10 (.rd 11 (.rd 12 (.wr 13 (.wr 14 (.rd 15 .nil)))))) 13 (.wr 9 (.rd 10 (.rd 11 (.rd 12 (.wr 14 (.rd 15 .nil))))))) 13 (.wr 4 (.wr 9 (.rd 10 (.rd 11 (.rd 12 (.wr 14 (.rd 15 .nil)))))))))))))))) ⟨[(0, .x (.a (.v (.int .i64 m)))), (1, .x (.a (.v (.int .i64 g)))), (7, .x (.a (.p 0 0))), (12, .x (.a (.o 1))), (13, .x (.a (.o 2))), (14, .x (.a (.o 3))), (16, .x (.a (.p 4 0))), (17, .x (.a (.p 5 0))), (88, .x (.a (.v (.slice A l.length c)))), (89, .x (.a (.v (.int .i64 l.length)))), (90, .x (.a (.v (.int .i64 i)))), (18, .x (.a (.v .nilIface)))],
        [.blk 71 (.c [.v (vU64 self), .v (vU64 key), .v (.slice A2 of.length c2), .v (.slice A3 an.length c3)]), .own 23 (.u64 fa), .own 23 (.u64 fb), .own 23 (.u64 (bxTo fa fb m g key l i)), .blk 55 (.c [.v (.int .i64 d), .v (vU64 (ix l i).2)]), .blk 66 (.u64 [hidU (powU (ix l i).2 key) m d g 0, hidU (powU (ix l i).2 key) m d g 1])]⟩ (by kernel_rfl) (by kernel_rfl) (by kernel_rfl) (Nat.le_add_left 5 0) ?_ ?_
      · simp (config := { maxSteps := 1000000 }) only [hd, undef, push_cast, ↓Int.toNat_natCast, ↓Int.cast_ofNat_Int, Int.cast_ofNat_Int, ↓reduceIte, reduceCtorEq, Nat.reduceEqDiff, Nat.reduceLT, Nat.reduceLeDiff, Nat.reduceAdd, Nat.reduceSub, Nat.reduceMul, Int.reduceNeg, Int.reduceLE, Int.reduceLT, Int.reduceToNat, Int.reduceAdd, Int.reduceSub, Int.reduceMul, Int.reduceEq]
        (repeat (refine And.intro (by first | omega | decide) ?_))
        refine ⟨?_, ?_⟩
        · refine callQ_v rfl cb71 rfl (sharedK _ _) (dOk_lt rfl) ?_
          simp (config := { maxSteps := 1000000 }) only [undef, push_cast, ↓Int.toNat_natCast, ↓Int.cast_ofNat_Int, Int.cast_ofNat_Int, ↓reduceIte, reduceCtorEq, Nat.reduceEqDiff, Nat.reduceLT, Nat.reduceLeDiff, Nat.reduceAdd, Nat.reduceSub, Nat.reduceMul, Int.reduceNeg, Int.reduceLE, Int.reduceLT, Int.reduceToNat, Int.reduceAdd, Int.reduceSub, Int.reduceMul, Int.reduceEq]
          (repeat (refine And.intro (by first | omega | decide) ?_))
          refine ⟨?_, ?_⟩
          · refine callQ_v rfl cb70 rfl (hidesOK (powU (ix l i).2 key) m d g hm64 hd64 (by omega) hk hw) (dOk_lt rfl) ?_
            simp (config := { maxSteps := 1000000 }) only [undef, push_cast, ↓Int.toNat_natCast, ↓Int.cast_ofNat_Int, Int.cast_ofNat_Int, ↓reduceIte, reduceCtorEq, Nat.reduceEqDiff, Nat.reduceLT, Nat.reduceLeDiff, Nat.reduceAdd, Nat.reduceSub, Nat.reduceMul, Int.reduceNeg, Int.reduceLE, Int.reduceLT, Int.reduceToNat, Int.reduceAdd, Int.reduceSub, Int.reduceMul, Int.reduceEq]
            (repeat (refine And.intro (by first | omega | decide) ?_))
            refine leads_le [0, 1, 2, 3, 4, 5] ?_
            simp (config := { maxSteps := 1000000 }) only [push_cast, ↓Int.toNat_natCast, ↓Int.cast_ofNat_Int, Int.cast_ofNat_Int, ↓reduceIte, reduceCtorEq, Nat.reduceEqDiff, Nat.reduceLT, Nat.reduceLeDiff, Nat.reduceAdd, Nat.reduceSub, Nat.reduceMul, Int.reduceNeg, Int.reduceLE, Int.reduceLT, Int.reduceToNat, Int.reduceAdd, Int.reduceSub, Int.reduceMul, Int.reduceEq]
          · refine callQ_v rfl cb70 rfl (hidesOK (powU (ix l i).2 key) m d g hm64 hd64 (by omega) hk hw) (dOk_lt rfl) ?_
            simp (config := { maxSteps := 1000000 }) only [undef, push_cast, ↓Int.toNat_natCast, ↓Int.cast_ofNat_Int, Int.cast_ofNat_Int, ↓reduceIte, reduceCtorEq, Nat.reduceEqDiff, Nat.reduceLT, Nat.reduceLeDiff, Nat.reduceAdd, Nat.reduceSub, Nat.reduceMul, Int.reduceNeg, Int.reduceLE, Int.reduceLT, Int.reduceToNat, Int.reduceAdd, Int.reduceSub, Int.reduceMul, Int.reduceEq]
            (repeat (refine And.intro (by first | omega | decide) ?_))
            refine leads_le [0, 1, 2, 3, 4, 5] ?_
            simp (config := { maxSteps := 1000000 }) only [push_cast, ↓Int.toNat_natCast, ↓Int.cast_ofNat_Int, Int.cast_ofNat_Int, ↓reduceIte, reduceCtorEq, Nat.reduceEqDiff, Nat.reduceLT, Nat.reduceLeDiff, Nat.reduceAdd, Nat.reduceSub, Nat.reduceMul, Int.reduceNeg, Int.reduceLE, Int.reduceLT, Int.reduceToNat, Int.reduceAdd, Int.reduceSub, Int.reduceMul, Int.reduceEq]
        · refine callQ_v rfl cb71 rfl (sharedK _ _) (dOk_lt rfl) ?_
          simp (config := { maxSteps := 1000000 }) only [undef, push_cast, ↓Int.toNat_natCast, ↓Int.cast_ofNat_Int, Int.cast_ofNat_Int, ↓reduceIte, reduceCtorEq, Nat.reduceEqDiff, Nat.reduceLT, Nat.reduceLeDiff, Nat.reduceAdd, Nat.reduceSub, Nat.reduceMul, Int.reduceNeg, Int.reduceLE, Int.reduceLT, Int.reduceToNat, Int.reduceAdd, Int.reduceSub, Int.reduceMul, Int.reduceEq]
          (repeat (refine And.intro (by first | omega | decide) ?_))
          refine callQ_v rfl cb70 rfl (hidesOK (powU (ix l i).2 key) m d g hm64 hd64 (by omega) hk hw) (dOk_lt rfl) ?_
          simp (config := { maxSteps := 1000000 }) only [undef, push_cast, ↓Int.toNat_natCast, ↓Int.cast_ofNat_Int, Int.cast_ofNat_Int, ↓reduceIte, reduceCtorEq, Nat.reduceEqDiff, Nat.reduceLT, Nat.reduceLeDiff, Nat.reduceAdd, Nat.reduceSub, Nat.reduceMul, Int.reduceNeg, Int.reduceLE, Int.reduceLT, Int.reduceToNat, Int.reduceAdd, Int.reduceSub, Int.reduceMul, Int.reduceEq]
          (repeat (refine And.intro (by first | omega | decide) ?_))
          refine leads_le [0, 1, 2, 3, 4, 5] ?_
          simp (config := { maxSteps := 1000000 }) only [push_cast, ↓Int.toNat_natCast, ↓Int.cast_ofNat_Int, Int.cast_ofNat_Int, ↓reduceIte, reduceCtorEq, Nat.reduceEqDiff, Nat.reduceLT, Nat.reduceLeDiff, Nat.reduceAdd, Nat.reduceSub, Nat.reduceMul, Int.reduceNeg, Int.reduceLE, Int.reduceLT, Int.reduceToNat, Int.reduceAdd, Int.reduceSub, Int.reduceMul, Int.reduceEq]
      · have hv0 : addU (polyU fa (atU d)) (hidU (powU (ix l i).2 key) m d g 0) = bxV fa m g key (ix l i) 0 := by unfold bxV; rw [hd]; simp only [Int.toNat_natCast]
        have hv1 : addU (polyU fb (atU d)) (hidU (powU (ix l i).2 key) m d g 1) = bxV fb m g key (ix l i) 1 := by unfold bxV; rw [hd]; simp only [Int.toNat_natCast]
        generalize hidU (powU (ix l i).2 key) m d g 0 = h0 at *
        generalize hidU (powU (ix l i).2 key) m d g 1 = h1 at *
        have hx0 : ix [h0, h1] 0 = h0 := rfl
        have hx1 : ix [h0, h1] 1 = h1 := rfl
        simp (config := { maxSteps := 1000000 }) only [hd, undef, push_cast, ↓Int.toNat_natCast, ↓Int.cast_ofNat_Int, Int.cast_ofNat_Int, ↓reduceIte, reduceCtorEq, Nat.reduceEqDiff, Nat.reduceLT, Nat.reduceLeDiff, Nat.reduceAdd, Nat.reduceSub, Nat.reduceMul, Int.reduceNeg, Int.reduceLE, Int.reduceLT, Int.reduceToNat, Int.reduceAdd, Int.reduceSub, Int.reduceMul, Int.reduceEq]
        (repeat (refine And.intro (by first | omega | decide) ?_))
        refine callG_v rfl cb34 rfl (atOK d) (dOk_lt rfl) ?_
        simp (config := { maxSteps := 1000000 }) only [hd, undef, push_cast, ↓Int.toNat_natCast, ↓Int.cast_ofNat_Int, Int.cast_ofNat_Int, ↓reduceIte, reduceCtorEq, Nat.reduceEqDiff, Nat.reduceLT, Nat.reduceLeDiff, Nat.reduceAdd, Nat.reduceSub, Nat.reduceMul, Int.reduceNeg, Int.reduceLE, Int.reduceLT, Int.reduceToNat, Int.reduceAdd, Int.reduceSub, Int.reduceMul, Int.reduceEq]
        (repeat (refine And.intro (by first | omega | decide) ?_))
        refine drawK_rule [3, 6] [(0, true), (1, true), (2, true), (4, true), (5, true), (7, true), (8, true), (10, true), (11, true), (3, false), (6, false), (9, false), (12, false), (13, false), (14, false), (15, true)] (by kernel_rfl) (by kernel_rfl) rfl (by kernel_rfl) ?_
        simp (config := { maxSteps := 1000000 }) only [hd, undef, push_cast, ↓Int.toNat_natCast, ↓Int.cast_ofNat_Int, Int.cast_ofNat_Int, ↓reduceIte, reduceCtorEq, Nat.reduceEqDiff, Nat.reduceLT, Nat.reduceLeDiff, Nat.reduceAdd, Nat.reduceSub, Nat.reduceMul, Int.reduceNeg, Int.reduceLE, Int.reduceLT, Int.reduceToNat, Int.reduceAdd, Int.reduceSub, Int.reduceMul, Int.reduceEq]
        (repeat (refine And.intro (by first | omega | decide) ?_))
        refine callK_v rfl cb73 rfl (polyEvalOK (c := fa) (atU d) lfa (shows_own rfl fun _ => rfl)) (dOk_lt rfl) ?_
        simp (config := { maxSteps := 1000000 }) only [hd, undef, push_cast, ↓Int.toNat_natCast, ↓Int.cast_ofNat_Int, Int.cast_ofNat_Int, ↓reduceIte, reduceCtorEq, Nat.reduceEqDiff, Nat.reduceLT, Nat.reduceLeDiff, Nat.reduceAdd, Nat.reduceSub, Nat.reduceMul, Int.reduceNeg, Int.reduceLE, Int.reduceLT, Int.reduceToNat, Int.reduceAdd, Int.reduceSub, Int.reduceMul, Int.reduceEq]
        (repeat (refine And.intro (by first | omega | decide) ?_))
        refine callK_v rfl cb72 rfl (fpAddK _ _) (dOk_lt rfl) ?_
        simp (config := { maxSteps := 1000000 }) only [hv0, hv1, hx0, hx1, undef, push_cast, ↓Int.toNat_natCast, ↓Int.cast_ofNat_Int, Int.cast_ofNat_Int, ↓reduceIte, reduceCtorEq, Nat.reduceEqDiff, Nat.reduceLT, Nat.reduceLeDiff, Nat.reduceAdd, Nat.reduceSub, Nat.reduceMul, Int.reduceNeg, Int.reduceLE, Int.reduceLT, Int.reduceToNat, Int.reduceAdd, Int.reduceSub, Int.reduceMul, Int.reduceEq]
        (repeat (refine And.intro (by first | omega | decide) ?_))
        refine callK_v rfl cb73 rfl (polyEvalOK (c := fb) (atU d) lfb (shows_own rfl fun _ => rfl)) (dOk_lt rfl) ?_
        simp (config := { maxSteps := 1000000 }) only [hv0, hv1, hx0, hx1, undef, push_cast, ↓Int.toNat_natCast, ↓Int.cast_ofNat_Int, Int.cast_ofNat_Int, ↓reduceIte, reduceCtorEq, Nat.reduceEqDiff, Nat.reduceLT, Nat.reduceLeDiff, Nat.reduceAdd, Nat.reduceSub, Nat.reduceMul, Int.reduceNeg, Int.reduceLE, Int.reduceLT, Int.reduceToNat, Int.reduceAdd, Int.reduceSub, Int.reduceMul, Int.reduceEq]
        (repeat (refine And.intro (by first | omega | decide) ?_))
        refine callK_v rfl cb72 rfl (fpAddK _ _) (dOk_lt rfl) ?_
        simp (config := { maxSteps := 1000000 }) only [hv0, hv1, hx0, hx1, hbl, hs, q1, q2, undef, push_cast, ↓Int.toNat_natCast, ↓Int.cast_ofNat_Int, Int.cast_ofNat_Int, ↓reduceIte, reduceCtorEq, Nat.reduceEqDiff, Nat.reduceLT, Nat.reduceLeDiff, Nat.reduceAdd, Nat.reduceSub, Nat.reduceMul, Int.reduceNeg, Int.reduceLE, Int.reduceLT, Int.reduceToNat, Int.reduceAdd, Int.reduceSub, Int.reduceMul, Int.reduceEq]
        (repeat (refine And.intro (by first | omega | decide) ?_))
        refine loopK_normal (i + 1) [0, 1, 2, 7] (by omega) (by omega) ?_
        simp (config := { maxSteps := 1000000 }) only [push_cast, ↓Int.toNat_natCast, ↓Int.cast_ofNat_Int, Int.cast_ofNat_Int, ↓reduceIte, reduceCtorEq, Nat.reduceEqDiff, Nat.reduceLT, Nat.reduceLeDiff, Nat.reduceAdd, Nat.reduceSub, Nat.reduceMul, Int.reduceNeg, Int.reduceLE, Int.reduceLT, Int.reduceToNat, Int.reduceAdd, Int.reduceSub, Int.reduceMul, Int.reduceEq]
    · have e : i = l.length := by omega
      subst e
      simp (config := { maxSteps := 1000000 }) only [hlt, n1, n2, undef, ownT2, ownT, push_cast, ↓Int.toNat_natCast, ↓Int.cast_ofNat_Int, Int.cast_ofNat_Int, ↓reduceIte, reduceCtorEq, Nat.reduceEqDiff, Nat.reduceLT, Nat.reduceLeDiff, Nat.reduceAdd, Nat.reduceSub, Nat.reduceMul, Int.reduceNeg, Int.reduceLE, Int.reduceLT, Int.reduceToNat, Int.reduceAdd, Int.reduceSub, Int.reduceMul, Int.reduceEq]
end Go.Proofs.YteiifdpikcnbgaaDoor
