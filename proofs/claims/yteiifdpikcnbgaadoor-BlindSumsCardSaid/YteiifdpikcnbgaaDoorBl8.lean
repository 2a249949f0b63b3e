/- The walk of law 10's BlindMoves. -/
import Derived.Test.YteiifdpikcnbgaaDoorBl7
namespace Go.Proofs.YteiifdpikcnbgaaDoor
open Go.RowKit
set_option linter.unusedSimpArgs false
/-! ### As much more as a row has, it has hidden -/
def hidR (d : Nat) (me : Int) (seed key : UInt64) (l : List Pr) (j : Nat) : UInt32 := ix (ownW seed d) j + ix (prOut me key l d) j
theorem brOut_length {x : List UInt32} {me : Int} {seed key : UInt64} {l : List Pr} (h : brOk me l x.length = true) : (brOut x me seed key l).length = x.length := by rw [brOut_yes h, sumR_length]
theorem brOut_get {x : List UInt32} {me : Int} {seed key : UInt64} {l : List Pr} (h : brOk me l x.length = true) {j : Nat} (hj : j < x.length) : ix (brOut x me seed key l) j = ix x j + hidR x.length me seed key l j := by
  rw [brOut_yes h]
  show ix (sumR x.length [x, ownW seed x.length, prOut me key l x.length] 3) j = _
  rw [sumR_succ, opTo_get _ _ _ _ _ hj, sumR_succ, opTo_get _ _ _ _ _ hj, sumR_succ, opTo_get _ _ _ _ _ hj, sumR_zero, zeros_get]
  show 0 + ix x j + ix (ownW seed x.length) j + ix (prOut me key l x.length) j = _
  unfold hidR
  rw [UInt32.zero_add, UInt32.add_assoc]
theorem moves_sub {x y : List UInt32} {me : Int} {seed key : UInt64} {l : List Pr} (hl : y.length = x.length) (h : brOk me l x.length = true) : opTo (· - ·) (brOut x me seed key l) (brOut y me seed key l) x.length = opTo (· - ·) x y x.length := by
  apply ext_ix
  · rw [opTo_length, opTo_length]
  · intro j hj
    rw [opTo_length] at hj
    rw [opTo_get _ _ _ _ _ hj, opTo_get _ _ _ _ _ hj, brOut_get h hj, brOut_get (by rw [hl]; exact h) (by rw [hl]; exact hj), hl]
    generalize ix x j = a
    generalize ix y j = b
    generalize hidR x.length me seed key l j = r
    grind
theorem moves_add {x z : List UInt32} {me : Int} {seed key : UInt64} {l : List Pr} (hl : z.length = x.length) (hz : ∀ j, ix z j = 0) (h : brOk me l x.length = true) : opTo (· + ·) (brOut z me seed key l) x x.length = brOut x me seed key l := by
  apply ext_ix
  · rw [opTo_length, brOut_length h]
  · intro j hj
    rw [opTo_length] at hj
    rw [opTo_get _ _ _ _ _ hj, brOut_get h hj, brOut_get (by rw [hl]; exact h) (by rw [hl]; exact hj), hl, hz, UInt32.zero_add, UInt32.add_comm]
theorem may14 (key seed : UInt64) : may [(1, powU 3 key), (4, powU 3 seed)] = true := may_list fun i hi => by
  match i, hi with
  | 0, _ => exact ⟨(show (-1 : Int) < 1 by decide), (show (1 : Int) < 64 by decide), key, rfl⟩
  | 1, _ => exact ⟨by show (1 : Int) < 4; decide, (show (4 : Int) < 64 by decide), seed, rfl⟩
theorem brOk14 (key seed : UInt64) : brOk 1 [(1, powU 3 key), (4, powU 3 seed)] 3 = true := by
  have h : prOk 1 [(1, powU 3 key), (4, powU 3 seed)] ((3 : Nat) : Int) = true := prOk_of (n := 3) (may14 key seed) (by omega) (by show foundTo 1 [(1, powU 3 key), (4, powU 3 seed)] 2 = true; simp [foundTo, ix])
  unfold brOk
  rw [h]
  rfl
attribute [local irreducible] prOut prOk may powU opOut opErr brOut brOk
attribute [local irreducible] Callable CallOK CallG CallM DrawG LoopG symR symM
set_option maxRecDepth 100000 in
set_option maxHeartbeats 4000000 in
theorem blindMoves_any (x y : List UInt32) (hx : x.length = 3) (hy : y.length = 3) (me : Int) (seed key : UInt64) (dim : Int) (AX AC AS AK : Option Addr) (nX cX nC cC nS cS nK cK : Nat) (w : World) (hk : LaidK 2 w) (hg : Handle w) :
    Calls Tryd.prog 5 (List.map (Sv.val []) [.x (.a32 x), .x (.a32 y), (.x (.g [.v (.int .i64 me), .v (.slice AX nX cX), .v (vU64 seed), .v (vU64 key), .v (.slice AC nC cC), .v (.slice AS nS cS), .v (.slice AK nK cK), .v (.int .i64 dim)]))]).toArray w fun e w' => e = .returned (.bool true) ∧ Below w.heap.size w w' := by
  have hb := brOk14 key seed
  have hbx : brOk 1 [(1, powU 3 key), (4, powU 3 seed)] x.length = true := by rw [hx]; exact hb
  have eb := brErr_yes hb
  have lx := brOut_length (seed := seed) (key := key) hbx
  have ly := brOut_length (x := y) (seed := seed) (key := key) (by rw [hy]; exact hb)
  have lz := brOut_length (x := [0, 0, 0]) (seed := seed) (key := key) hb
  have o1 : opOk (brOut x 1 seed key [(1, powU 3 key), (4, powU 3 seed)]) (brOut y 1 seed key [(1, powU 3 key), (4, powU 3 seed)]) = true := opOk_len (d := 3) (lx.trans hx) (ly.trans hy) (by omega)
  have o2 : opOk x y = true := opOk_len hx hy (by omega)
  have o3 : opOk (brOut [0, 0, 0] 1 seed key [(1, powU 3 key), (4, powU 3 seed)]) x = true := opOk_len (d := 3) lz hx (by omega)
  have e1 := opErr_yes o1
  have e2 := opErr_yes o2
  have e3 := opErr_yes o3
  have f1 : opOut (· - ·) (brOut x 1 seed key [(1, powU 3 key), (4, powU 3 seed)]) (brOut y 1 seed key [(1, powU 3 key), (4, powU 3 seed)]) = opTo (· - ·) x y 3 := by
    have := moves_sub (x := x) (y := y) (seed := seed) (key := key) (hy.trans hx.symm) hbx
    rw [hx] at this
    rw [opOut_yes o1, lx, hx, this]
  have f2 : opOut (· - ·) x y = opTo (· - ·) x y 3 := by rw [opOut_yes o2, hx]
  have f3 : opOut (· + ·) (brOut [0, 0, 0] 1 seed key [(1, powU 3 key), (4, powU 3 seed)]) x = brOut x 1 seed key [(1, powU 3 key), (4, powU 3 seed)] := by
    have := moves_add (x := x) (z := [0, 0, 0]) (seed := seed) (key := key) hx.symm (fun j => by match j with | 0 => rfl | 1 => rfl | 2 => rfl | j + 3 => rfl) hbx
    rw [opOut_yes o3, lz]
    show opTo _ _ _ 3 = _
    rw [← hx, this]
  have e4 : decide (opTo (· - ·) x y 3 = opTo (· - ·) x y 3) = true := by simp
  refine calls_v (n := 112) Tryd.func5 rfl Tryd.ntmps5 [.x (.a32 x), .x (.a32 y), (.x (.g [.v (.int .i64 me), .v (.slice AX nX cX), .v (vU64 seed), .v (vU64 key), .v (.slice AC nC cC), .v (.slice AS nS cS), .v (.slice AK nK cK), .v (.int .i64 dim)]))] (by simp) (.x (.a (.v (.bool true)))) (fun _ => rfl) ?_
  generalize hL : opTo (· - ·) x y 3 = W at *
  simp only [hx, hy, push_cast, ↓Int.toNat_natCast, ↓Int.cast_ofNat_Int, Int.cast_ofNat_Int, ↓reduceIte, reduceCtorEq, Nat.reduceEqDiff, Nat.reduceLT, Nat.reduceLeDiff, Nat.reduceAdd, Nat.reduceSub, Nat.reduceMul, Int.reduceNeg, Int.reduceLE, Int.reduceLT, Int.reduceToNat, Int.reduceAdd, Int.reduceSub, Int.reduceMul, Int.reduceEq]
  refine draw_rule [(0, true), (1, true), (4, true), (5, true), (2, false), (3, true), (6, false), (7, true), (8, false), (9, true)] (by kernel_rfl) (by kernel_rfl) rfl (by kernel_rfl) ?_
  simp (config := { maxSteps := 600000 }) only [hx, hy, eb, e1, e2, e3, e4, f1, f2, f3, undef, beq_self_eq_true, push_cast, ↓Int.toNat_natCast, ↓Int.cast_ofNat_Int, Int.cast_ofNat_Int, ↓reduceIte, reduceCtorEq, Nat.reduceEqDiff, Nat.reduceLT, Nat.reduceLeDiff, Nat.reduceAdd, Nat.reduceSub, Nat.reduceMul, Int.reduceNeg, Int.reduceLE, Int.reduceLT, Int.reduceToNat, Int.reduceAdd, Int.reduceSub, Int.reduceMul, Int.reduceEq]
  (repeat (refine And.intro (by first | omega | decide) ?_))
  refine callM_v rfl cb20 rfl (publicK _) (dOk_lt rfl) ?_
  simp (config := { maxSteps := 600000 }) only [hx, hy, eb, e1, e2, e3, e4, f1, f2, f3, undef, beq_self_eq_true, push_cast, ↓Int.toNat_natCast, ↓Int.cast_ofNat_Int, Int.cast_ofNat_Int, ↓reduceIte, reduceCtorEq, Nat.reduceEqDiff, Nat.reduceLT, Nat.reduceLeDiff, Nat.reduceAdd, Nat.reduceSub, Nat.reduceMul, Int.reduceNeg, Int.reduceLE, Int.reduceLT, Int.reduceToNat, Int.reduceAdd, Int.reduceSub, Int.reduceMul, Int.reduceEq]
  (repeat (refine And.intro (by first | omega | decide) ?_))
  refine callM_v rfl cb20 rfl (publicK _) (dOk_lt rfl) ?_
  simp (config := { maxSteps := 600000 }) only [hx, hy, eb, e1, e2, e3, e4, f1, f2, f3, undef, beq_self_eq_true, push_cast, ↓Int.toNat_natCast, ↓Int.cast_ofNat_Int, Int.cast_ofNat_Int, ↓reduceIte, reduceCtorEq, Nat.reduceEqDiff, Nat.reduceLT, Nat.reduceLeDiff, Nat.reduceAdd, Nat.reduceSub, Nat.reduceMul, Int.reduceNeg, Int.reduceLE, Int.reduceLT, Int.reduceToNat, Int.reduceAdd, Int.reduceSub, Int.reduceMul, Int.reduceEq]
  (repeat (refine And.intro (by first | omega | decide) ?_))
  refine draw_keep [3, 4, 5, 7, 80, 81, 84, 85, 88, 89, 92, 93, 96, 97, 100, 101, 102, 105, 106, 107, 110] ?_
  simp (config := { maxSteps := 600000 }) only [hx, hy, eb, e1, e2, e3, e4, f1, f2, f3, undef, beq_self_eq_true, push_cast, ↓Int.toNat_natCast, ↓Int.cast_ofNat_Int, Int.cast_ofNat_Int, ↓reduceIte, reduceCtorEq, Nat.reduceEqDiff, Nat.reduceLT, Nat.reduceLeDiff, Nat.reduceAdd, Nat.reduceSub, Nat.reduceMul, Int.reduceNeg, Int.reduceLE, Int.reduceLT, Int.reduceToNat, Int.reduceAdd, Int.reduceSub, Int.reduceMul, Int.reduceEq]
  refine draw_rule [(0, true), (1, true), (2, true), (3, true), (4, true), (5, true), (6, false), (7, true), (8, true), (9, true), (10, true), (11, true)] (by kernel_rfl) (by kernel_rfl) rfl (by kernel_rfl) ?_
  simp (config := { maxSteps := 600000 }) only [hx, hy, eb, e1, e2, e3, e4, f1, f2, f3, undef, beq_self_eq_true, push_cast, ↓Int.toNat_natCast, ↓Int.cast_ofNat_Int, Int.cast_ofNat_Int, ↓reduceIte, reduceCtorEq, Nat.reduceEqDiff, Nat.reduceLT, Nat.reduceLeDiff, Nat.reduceAdd, Nat.reduceSub, Nat.reduceMul, Int.reduceNeg, Int.reduceLE, Int.reduceLT, Int.reduceToNat, Int.reduceAdd, Int.reduceSub, Int.reduceMul, Int.reduceEq]
  (repeat (refine And.intro (by first | omega | decide) ?_))
  refine callM_x rfl cb10 rfl (blindRowOK (x := x) (l := [(1, powU 3 key), (4, powU 3 seed)]) 1 seed key (shows_blk_all rfl (fun _ => rfl) 3 3 (by simpa using hx) (by decide)) (showsR_onn rfl (fun _ => rfl) rfl) hk (by simp only [push_cast, ↓Int.toNat_natCast, ↓Int.cast_ofNat_Int, Int.cast_ofNat_Int, ↓reduceIte, reduceCtorEq, Nat.reduceEqDiff, Nat.reduceLT, Nat.reduceLeDiff, Nat.reduceAdd, Nat.reduceSub, Nat.reduceMul, Int.reduceNeg, Int.reduceLE, Int.reduceLT, Int.reduceToNat, Int.reduceAdd, Int.reduceSub, Int.reduceMul, Int.reduceEq])) (dOk_lt rfl) (by simp only [push_cast, ↓Int.toNat_natCast, ↓Int.cast_ofNat_Int, Int.cast_ofNat_Int, ↓reduceIte, reduceCtorEq, Nat.reduceEqDiff, Nat.reduceLT, Nat.reduceLeDiff, Nat.reduceAdd, Nat.reduceSub, Nat.reduceMul, Int.reduceNeg, Int.reduceLE, Int.reduceLT, Int.reduceToNat, Int.reduceAdd, Int.reduceSub, Int.reduceMul, Int.reduceEq]) ?_
  simp (config := { maxSteps := 600000 }) only [hx, hy, eb, e1, e2, e3, e4, f1, f2, f3, undef, beq_self_eq_true, push_cast, ↓Int.toNat_natCast, ↓Int.cast_ofNat_Int, Int.cast_ofNat_Int, ↓reduceIte, reduceCtorEq, Nat.reduceEqDiff, Nat.reduceLT, Nat.reduceLeDiff, Nat.reduceAdd, Nat.reduceSub, Nat.reduceMul, Int.reduceNeg, Int.reduceLE, Int.reduceLT, Int.reduceToNat, Int.reduceAdd, Int.reduceSub, Int.reduceMul, Int.reduceEq]
  (repeat (refine And.intro (by first | omega | decide) ?_))
  refine draw_keep [3, 4, 5, 7, 8, 9, 80, 81, 84, 85, 88, 89, 92, 93, 96, 97, 100, 101, 102, 105, 106, 107, 110] ?_
  simp (config := { maxSteps := 600000 }) only [hx, hy, eb, e1, e2, e3, e4, f1, f2, f3, undef, beq_self_eq_true, push_cast, ↓Int.toNat_natCast, ↓Int.cast_ofNat_Int, Int.cast_ofNat_Int, ↓reduceIte, reduceCtorEq, Nat.reduceEqDiff, Nat.reduceLT, Nat.reduceLeDiff, Nat.reduceAdd, Nat.reduceSub, Nat.reduceMul, Int.reduceNeg, Int.reduceLE, Int.reduceLT, Int.reduceToNat, Int.reduceAdd, Int.reduceSub, Int.reduceMul, Int.reduceEq]
  refine draw_rule [(0, true), (1, true), (2, true), (3, true), (4, true), (5, true), (6, false), (7, true), (8, true), (9, true), (10, true), (11, true)] (by kernel_rfl) (by kernel_rfl) rfl (by kernel_rfl) ?_
  simp (config := { maxSteps := 600000 }) only [hx, hy, eb, e1, e2, e3, e4, f1, f2, f3, undef, beq_self_eq_true, push_cast, ↓Int.toNat_natCast, ↓Int.cast_ofNat_Int, Int.cast_ofNat_Int, ↓reduceIte, reduceCtorEq, Nat.reduceEqDiff, Nat.reduceLT, Nat.reduceLeDiff, Nat.reduceAdd, Nat.reduceSub, Nat.reduceMul, Int.reduceNeg, Int.reduceLE, Int.reduceLT, Int.reduceToNat, Int.reduceAdd, Int.reduceSub, Int.reduceMul, Int.reduceEq]
  (repeat (refine And.intro (by first | omega | decide) ?_))
  refine callM_x rfl cb10 rfl (blindRowOK (x := y) (l := [(1, powU 3 key), (4, powU 3 seed)]) 1 seed key (shows_blk_all rfl (fun _ => rfl) 3 3 (by simpa using hy) (by decide)) (showsR_onn rfl (fun _ => rfl) rfl) hk (by simp only [push_cast, ↓Int.toNat_natCast, ↓Int.cast_ofNat_Int, Int.cast_ofNat_Int, ↓reduceIte, reduceCtorEq, Nat.reduceEqDiff, Nat.reduceLT, Nat.reduceLeDiff, Nat.reduceAdd, Nat.reduceSub, Nat.reduceMul, Int.reduceNeg, Int.reduceLE, Int.reduceLT, Int.reduceToNat, Int.reduceAdd, Int.reduceSub, Int.reduceMul, Int.reduceEq])) (dOk_lt rfl) (by simp only [push_cast, ↓Int.toNat_natCast, ↓Int.cast_ofNat_Int, Int.cast_ofNat_Int, ↓reduceIte, reduceCtorEq, Nat.reduceEqDiff, Nat.reduceLT, Nat.reduceLeDiff, Nat.reduceAdd, Nat.reduceSub, Nat.reduceMul, Int.reduceNeg, Int.reduceLE, Int.reduceLT, Int.reduceToNat, Int.reduceAdd, Int.reduceSub, Int.reduceMul, Int.reduceEq]) ?_
  simp (config := { maxSteps := 600000 }) only [hx, hy, eb, e1, e2, e3, e4, f1, f2, f3, undef, beq_self_eq_true, push_cast, ↓Int.toNat_natCast, ↓Int.cast_ofNat_Int, Int.cast_ofNat_Int, ↓reduceIte, reduceCtorEq, Nat.reduceEqDiff, Nat.reduceLT, Nat.reduceLeDiff, Nat.reduceAdd, Nat.reduceSub, Nat.reduceMul, Int.reduceNeg, Int.reduceLE, Int.reduceLT, Int.reduceToNat, Int.reduceAdd, Int.reduceSub, Int.reduceMul, Int.reduceEq]
  (repeat (refine And.intro (by first | omega | decide) ?_))
  refine callG_x rfl cb22 rfl (vecSubOK (shows_own rfl fun _ => rfl) (shows_own rfl fun _ => rfl) (by simp only [push_cast, ↓Int.toNat_natCast, ↓Int.cast_ofNat_Int, Int.cast_ofNat_Int, ↓reduceIte, reduceCtorEq, Nat.reduceEqDiff, Nat.reduceLT, Nat.reduceLeDiff, Nat.reduceAdd, Nat.reduceSub, Nat.reduceMul, Int.reduceNeg, Int.reduceLE, Int.reduceLT, Int.reduceToNat, Int.reduceAdd, Int.reduceSub, Int.reduceMul, Int.reduceEq])) (dOk_lt rfl) (by simp only [push_cast, ↓Int.toNat_natCast, ↓Int.cast_ofNat_Int, Int.cast_ofNat_Int, ↓reduceIte, reduceCtorEq, Nat.reduceEqDiff, Nat.reduceLT, Nat.reduceLeDiff, Nat.reduceAdd, Nat.reduceSub, Nat.reduceMul, Int.reduceNeg, Int.reduceLE, Int.reduceLT, Int.reduceToNat, Int.reduceAdd, Int.reduceSub, Int.reduceMul, Int.reduceEq]) ?_
  simp (config := { maxSteps := 600000 }) only [hx, hy, eb, e1, e2, e3, e4, f1, f2, f3, undef, beq_self_eq_true, push_cast, ↓Int.toNat_natCast, ↓Int.cast_ofNat_Int, Int.cast_ofNat_Int, ↓reduceIte, reduceCtorEq, Nat.reduceEqDiff, Nat.reduceLT, Nat.reduceLeDiff, Nat.reduceAdd, Nat.reduceSub, Nat.reduceMul, Int.reduceNeg, Int.reduceLE, Int.reduceLT, Int.reduceToNat, Int.reduceAdd, Int.reduceSub, Int.reduceMul, Int.reduceEq]
  (repeat (refine And.intro (by first | omega | decide) ?_))
  refine draw_keep [3, 4, 5, 7, 8, 9, 11, 12, 13, 80, 81, 84, 85, 88, 89, 92, 93, 96, 97, 100, 101, 102, 105, 106, 107, 110] ?_
  simp (config := { maxSteps := 600000 }) only [hx, hy, eb, e1, e2, e3, e4, f1, f2, f3, undef, beq_self_eq_true, push_cast, ↓Int.toNat_natCast, ↓Int.cast_ofNat_Int, Int.cast_ofNat_Int, ↓reduceIte, reduceCtorEq, Nat.reduceEqDiff, Nat.reduceLT, Nat.reduceLeDiff, Nat.reduceAdd, Nat.reduceSub, Nat.reduceMul, Int.reduceNeg, Int.reduceLE, Int.reduceLT, Int.reduceToNat, Int.reduceAdd, Int.reduceSub, Int.reduceMul, Int.reduceEq]
  refine draw_rule [(0, true), (1, true), (2, false), (3, true), (4, true), (5, true), (6, true), (7, true)] (by kernel_rfl) (by kernel_rfl) rfl (by kernel_rfl) ?_
  simp (config := { maxSteps := 600000 }) only [hx, hy, eb, e1, e2, e3, e4, f1, f2, f3, undef, beq_self_eq_true, push_cast, ↓Int.toNat_natCast, ↓Int.cast_ofNat_Int, Int.cast_ofNat_Int, ↓reduceIte, reduceCtorEq, Nat.reduceEqDiff, Nat.reduceLT, Nat.reduceLeDiff, Nat.reduceAdd, Nat.reduceSub, Nat.reduceMul, Int.reduceNeg, Int.reduceLE, Int.reduceLT, Int.reduceToNat, Int.reduceAdd, Int.reduceSub, Int.reduceMul, Int.reduceEq]
  (repeat (refine And.intro (by first | omega | decide) ?_))
  refine callM_x rfl cb22 rfl (vecSubOK (a := x) (b := y) (shows_blk_all rfl (fun _ => rfl) 3 3 (by simpa using hx) (by decide)) (shows_blk_all rfl (fun _ => rfl) 3 3 (by simpa using hy) (by decide)) (by simp only [push_cast, ↓Int.toNat_natCast, ↓Int.cast_ofNat_Int, Int.cast_ofNat_Int, ↓reduceIte, reduceCtorEq, Nat.reduceEqDiff, Nat.reduceLT, Nat.reduceLeDiff, Nat.reduceAdd, Nat.reduceSub, Nat.reduceMul, Int.reduceNeg, Int.reduceLE, Int.reduceLT, Int.reduceToNat, Int.reduceAdd, Int.reduceSub, Int.reduceMul, Int.reduceEq])) (dOk_lt rfl) (by simp only [push_cast, ↓Int.toNat_natCast, ↓Int.cast_ofNat_Int, Int.cast_ofNat_Int, ↓reduceIte, reduceCtorEq, Nat.reduceEqDiff, Nat.reduceLT, Nat.reduceLeDiff, Nat.reduceAdd, Nat.reduceSub, Nat.reduceMul, Int.reduceNeg, Int.reduceLE, Int.reduceLT, Int.reduceToNat, Int.reduceAdd, Int.reduceSub, Int.reduceMul, Int.reduceEq]) ?_
  simp (config := { maxSteps := 600000 }) only [hx, hy, eb, e1, e2, e3, e4, f1, f2, f3, undef, beq_self_eq_true, push_cast, ↓Int.toNat_natCast, ↓Int.cast_ofNat_Int, Int.cast_ofNat_Int, ↓reduceIte, reduceCtorEq, Nat.reduceEqDiff, Nat.reduceLT, Nat.reduceLeDiff, Nat.reduceAdd, Nat.reduceSub, Nat.reduceMul, Int.reduceNeg, Int.reduceLE, Int.reduceLT, Int.reduceToNat, Int.reduceAdd, Int.reduceSub, Int.reduceMul, Int.reduceEq]
  (repeat (refine And.intro (by first | omega | decide) ?_))
  refine callG_x rfl cb10 rfl (blindRowOK (x := [0, 0, 0]) (l := [(1, powU 3 key), (4, powU 3 seed)]) 1 seed key (shows_blk_all rfl (fun _ => rfl) 3 3 rfl (by decide)) (showsR_onn rfl (fun _ => rfl) rfl) hk (by simp only [push_cast, ↓Int.toNat_natCast, ↓Int.cast_ofNat_Int, Int.cast_ofNat_Int, ↓reduceIte, reduceCtorEq, Nat.reduceEqDiff, Nat.reduceLT, Nat.reduceLeDiff, Nat.reduceAdd, Nat.reduceSub, Nat.reduceMul, Int.reduceNeg, Int.reduceLE, Int.reduceLT, Int.reduceToNat, Int.reduceAdd, Int.reduceSub, Int.reduceMul, Int.reduceEq])) (dOk_lt rfl) (by simp only [push_cast, ↓Int.toNat_natCast, ↓Int.cast_ofNat_Int, Int.cast_ofNat_Int, ↓reduceIte, reduceCtorEq, Nat.reduceEqDiff, Nat.reduceLT, Nat.reduceLeDiff, Nat.reduceAdd, Nat.reduceSub, Nat.reduceMul, Int.reduceNeg, Int.reduceLE, Int.reduceLT, Int.reduceToNat, Int.reduceAdd, Int.reduceSub, Int.reduceMul, Int.reduceEq]) ?_
  simp (config := { maxSteps := 600000 }) only [hx, hy, eb, e1, e2, e3, e4, f1, f2, f3, undef, beq_self_eq_true, push_cast, ↓Int.toNat_natCast, ↓Int.cast_ofNat_Int, Int.cast_ofNat_Int, ↓reduceIte, reduceCtorEq, Nat.reduceEqDiff, Nat.reduceLT, Nat.reduceLeDiff, Nat.reduceAdd, Nat.reduceSub, Nat.reduceMul, Int.reduceNeg, Int.reduceLE, Int.reduceLT, Int.reduceToNat, Int.reduceAdd, Int.reduceSub, Int.reduceMul, Int.reduceEq]
  (repeat (refine And.intro (by first | omega | decide) ?_))
  refine callG_x rfl cb24 rfl (vecAddOK (b := x) (shows_own rfl fun _ => rfl) (shows_blk_all rfl (fun _ => rfl) 3 3 (by simpa using hx) (by decide)) (by simp only [push_cast, ↓Int.toNat_natCast, ↓Int.cast_ofNat_Int, Int.cast_ofNat_Int, ↓reduceIte, reduceCtorEq, Nat.reduceEqDiff, Nat.reduceLT, Nat.reduceLeDiff, Nat.reduceAdd, Nat.reduceSub, Nat.reduceMul, Int.reduceNeg, Int.reduceLE, Int.reduceLT, Int.reduceToNat, Int.reduceAdd, Int.reduceSub, Int.reduceMul, Int.reduceEq])) (dOk_lt rfl) (by simp only [push_cast, ↓Int.toNat_natCast, ↓Int.cast_ofNat_Int, Int.cast_ofNat_Int, ↓reduceIte, reduceCtorEq, Nat.reduceEqDiff, Nat.reduceLT, Nat.reduceLeDiff, Nat.reduceAdd, Nat.reduceSub, Nat.reduceMul, Int.reduceNeg, Int.reduceLE, Int.reduceLT, Int.reduceToNat, Int.reduceAdd, Int.reduceSub, Int.reduceMul, Int.reduceEq]) ?_
  simp (config := { maxSteps := 600000 }) only [hx, hy, eb, e1, e2, e3, e4, f1, f2, f3, undef, beq_self_eq_true, push_cast, ↓Int.toNat_natCast, ↓Int.cast_ofNat_Int, Int.cast_ofNat_Int, ↓reduceIte, reduceCtorEq, Nat.reduceEqDiff, Nat.reduceLT, Nat.reduceLeDiff, Nat.reduceAdd, Nat.reduceSub, Nat.reduceMul, Int.reduceNeg, Int.reduceLE, Int.reduceLT, Int.reduceToNat, Int.reduceAdd, Int.reduceSub, Int.reduceMul, Int.reduceEq]
  (repeat (refine And.intro (by first | omega | decide) ?_))
  refine callG_v rfl cb23 rfl (same32OK (a := W) (b := W) (by rw [← hL, opTo_length]; omega) (shows_own rfl fun _ => rfl) (shows_own rfl fun _ => rfl)) (dOk_lt rfl) ?_
  simp (config := { maxSteps := 600000 }) only [hx, hy, eb, e1, e2, e3, e4, f1, f2, f3, undef, beq_self_eq_true, push_cast, ↓Int.toNat_natCast, ↓Int.cast_ofNat_Int, Int.cast_ofNat_Int, ↓reduceIte, reduceCtorEq, Nat.reduceEqDiff, Nat.reduceLT, Nat.reduceLeDiff, Nat.reduceAdd, Nat.reduceSub, Nat.reduceMul, Int.reduceNeg, Int.reduceLE, Int.reduceLT, Int.reduceToNat, Int.reduceAdd, Int.reduceSub, Int.reduceMul, Int.reduceEq]
  (repeat (refine And.intro (by first | omega | decide) ?_))
  refine callG_v rfl cb23 rfl (same32OK (a := brOut x 1 seed key [(1, powU 3 key), (4, powU 3 seed)]) (b := brOut x 1 seed key [(1, powU 3 key), (4, powU 3 seed)]) (by rw [lx, hx]; omega) (shows_own rfl fun _ => rfl) (shows_own rfl fun _ => rfl)) (dOk_lt rfl) ?_
  simp (config := { maxSteps := 600000 }) only [hx, hy, eb, e1, e2, e3, e4, f1, f2, f3, undef, beq_self_eq_true, push_cast, ↓Int.toNat_natCast, ↓Int.cast_ofNat_Int, Int.cast_ofNat_Int, ↓reduceIte, reduceCtorEq, Nat.reduceEqDiff, Nat.reduceLT, Nat.reduceLeDiff, Nat.reduceAdd, Nat.reduceSub, Nat.reduceMul, Int.reduceNeg, Int.reduceLE, Int.reduceLT, Int.reduceToNat, Int.reduceAdd, Int.reduceSub, Int.reduceMul, Int.reduceEq]
  (repeat (refine And.intro (by first | omega | decide) ?_))
  refine callG_v rfl cb9 rfl (sure10OK hk hg) (dOk_lt rfl) ?_
  simp (config := { maxSteps := 600000 }) only [hx, hy, eb, e1, e2, e3, e4, f1, f2, f3, undef, beq_self_eq_true, push_cast, ↓Int.toNat_natCast, ↓Int.cast_ofNat_Int, Int.cast_ofNat_Int, ↓reduceIte, reduceCtorEq, Nat.reduceEqDiff, Nat.reduceLT, Nat.reduceLeDiff, Nat.reduceAdd, Nat.reduceSub, Nat.reduceMul, Int.reduceNeg, Int.reduceLE, Int.reduceLT, Int.reduceToNat, Int.reduceAdd, Int.reduceSub, Int.reduceMul, Int.reduceEq]
end Go.Proofs.YteiifdpikcnbgaaDoor
