import Derived.Test.YtiaeollemmkclaaDoorPk6
/- pack.Writer.All: all bytes (layer 13). -/
namespace Go.Proofs.YtiaeollemmkclaaDoor
open Go.RowKit
set_option linter.unusedSimpArgs false
set_option linter.unusedVariables false
theorem ChW.ptr {t : TypeId} {r : List (List UInt8)} {v : Value} {B : Nat → Prop} {w : World} (h : ChW t r v B w) : ∃ A, v = .pointer A := by
  cases r with
  | nil => exact ⟨none, h⟩
  | cons b r => obtain ⟨g, u, s, h1, _⟩ := h; exact ⟨_, h1⟩
/-- A variable of two cells that was there before. -/
structure Two (w : World) (A : Option Addr) (u v : Value) : Prop where
  some_ : A.isSome = true
  none_ : A.isNone = false
  c0 : cellOf w A = u
  o0 : rawOk w No A
  c1 : cellOf w (pAdd A 1) = v
  o1 : rawOk w No (pAdd A 1)
theorem Two.of {w : World} {g : Nat} {u v : Value} (h0 : w.cell? ⟨g, 0, none⟩ = some u) (h1 : w.cell? ⟨g, 1, none⟩ = some v) : Two w (some ⟨g, 0, none⟩) u v := by
  have hb : g < w.heap.size := block_lt_of_cell h0
  have e : pAdd (some ⟨g, 0, none⟩) 1 = some ⟨g, 1, none⟩ := rfl
  exact ⟨rfl, rfl, by simp [cellOf, h0], ⟨_, _, rfl, hb, fun h => h, h0⟩, by rw [e]; simp [cellOf, h1], ⟨_, _, e, hb, fun h => h, h1⟩⟩
theorem chain_next {t : TypeId} {b : List UInt8} {r : List (List UInt8)} {A : Option Addr} {B : Nat → Prop} {w : World} (h : ChW t (b :: r) (.pointer A) B w) :
    ∃ A1 A2 c, Two w A (.pointer A1) (.slice A2 b.length c) ∧ b.length ≤ c ∧ RdV w w.heap.size A2 (b.map vU8) ∧ ChW t r (.pointer A1) B w := by
  obtain ⟨g, u, s, h1, h2, h3, ⟨A2, c, rfl, h5, h6, h7, h8⟩, h9⟩ := h
  injection h1 with h1
  subst h1
  obtain ⟨A1, rfl⟩ := h9.ptr
  rw [List.length_map] at h3 h5
  exact ⟨A1, A2, c, Two.of (h3.cell 0) (h3.cell 1), h5, h7, h9⟩
attribute [local irreducible] Callable CallOK CallG CallM DrawG LoopG symR symM
set_option maxRecDepth 100000 in
set_option maxHeartbeats 1000000 in
theorem all_any {r : List (List UInt8)} {A A0 : Option Addr} {B : Nat → Prop} {w : World} (hn : totB r ≤ 1000000000) (hT : Two w A (.pointer A0) (.int .i64 (totB r : Int))) (hC : ChW 125 r (.pointer A0) B w) :
    Calls Tryd.prog 10 #[.pointer A] w fun e w' => ∃ x, e = .returned x ∧ Own w' w.heap.size 5 x ((allB r).map vU8) ∧ Below w.heap.size w w' := by
  refine calls_own (n := 43) Tryd.func10 rfl Tryd.ntmps10 [.x (.a (.v (.pointer A)))] (by simp) 5 (.u8 (allB r)) (fun _ => rfl) ?_
  obtain ⟨h1, h2, h3, h4, h5, h6⟩ := hT
  have k1 : (totB r : Int) ≤ 2 ^ 63 - 1 := by omega
  have k2 : totB r ≤ 2 ^ 63 - 1 := by omega
  have k3 : totB r ≤ 140737488355328 := by omega
  simp (config := { maxSteps := 1000000 }) only [h1, h2, h3, h4, h5, h6, k1, k2, k3, pAdd_zero, undef, push_cast, ↓Int.toNat_natCast, ↓Int.cast_ofNat_Int, Int.cast_ofNat_Int, ↓reduceIte, reduceCtorEq, Nat.reduceEqDiff, Nat.reduceLT, Nat.reduceLeDiff, Nat.reduceAdd, Nat.reduceSub, Nat.reduceMul, Int.reduceNeg, Int.reduceLE, Int.reduceLT, Int.reduceToNat, Int.reduceAdd, Int.reduceSub, Int.reduceMul, Int.reduceEq]
  (repeat (refine And.intro (by first | omega | decide) ?_))
  refine loop_rule (ι := List (List UInt8) × List (List UInt8) × Option Addr) (fun y => ⟨[(3, .x (.a (.o 0))), (4, .x (.a (.v (.int .i64 (totB y.2.1 : Int))))), (5, .x (.a (.v (.pointer y.2.2))))], [.own 5 (.u8 (List.replicate (totB y.2.1) 0 ++ allB y.1))]⟩) (fun y => r = y.1 ++ y.2.1 ∧ ChW 125 y.2.1 (.pointer y.2.2) B w) (fun y => y.2.1.length) ([], r, A0) [0] ⟨rfl, hC⟩ ?_ ?_
  · have e0 : allB [] = [] := rfl
    simp (config := { maxSteps := 1000000 }) only [e0, push_cast, ↓Int.toNat_natCast, ↓Int.cast_ofNat_Int, Int.cast_ofNat_Int, ↓reduceIte, reduceCtorEq, Nat.reduceEqDiff, Nat.reduceLT, Nat.reduceLeDiff, Nat.reduceAdd, Nat.reduceSub, Nat.reduceMul, Int.reduceNeg, Int.reduceLE, Int.reduceLT, Int.reduceToNat, Int.reduceAdd, Int.reduceSub, Int.reduceMul, Int.reduceEq]
    done
  rintro ⟨p, q, A1⟩ ⟨hr, hq⟩
  dsimp only at hr hq
  rcases q with _ | ⟨b, q⟩
  · obtain rfl : A1 = none := by injection hq
    obtain rfl : r = p := by rw [hr, List.append_nil]
    have e0 : totB [] = 0 := rfl
    simp (config := { maxSteps := 1000000 }) only [e0, List.replicate_zero, undef, push_cast, ↓Int.toNat_natCast, ↓Int.cast_ofNat_Int, Int.cast_ofNat_Int, ↓reduceIte, reduceCtorEq, Nat.reduceEqDiff, Nat.reduceLT, Nat.reduceLeDiff, Nat.reduceAdd, Nat.reduceSub, Nat.reduceMul, Int.reduceNeg, Int.reduceLE, Int.reduceLT, Int.reduceToNat, Int.reduceAdd, Int.reduceSub, Int.reduceMul, Int.reduceEq]
    done
  · obtain ⟨A2, A3, c, ⟨g1, g2, g3, g4, g5, g6⟩, hc, hR, hq'⟩ := chain_next hq
    have e1 := totB_cons b q
    have e2 := allB_cons
    have F := F8.of (FV.no hR)
    have hrd := F.rd
    have hrdo := F.rdOk
    have ht : totB r = (allB p).length + (b.length + totB q) := by rw [hr, ← allB_length, allB_app, List.length_append, allB_length, allB_length, totB_cons]; omega
    have j1 : ((b.length + totB q : Nat) : Int) - b.length = (totB q : Int) := by omega
    push_cast at j1
    have j2 : (totB q : Int) ≤ (b.length : Int) + totB q + (allB p).length := by omega
    have j3 : (0 : Int) ≤ totB q := by omega
    have j4 : -9223372036854775808 ≤ (totB q : Int) ∧ (totB q : Int) ≤ 9223372036854775807 := by omega
    obtain ⟨j5, j6⟩ := j4
    simp (config := { maxSteps := 1000000 }) only [e1, g1, g2, g3, g4, g5, g6, j1, j5, j6, pAdd_zero, undef, push_cast, ↓Int.toNat_natCast, ↓Int.cast_ofNat_Int, Int.cast_ofNat_Int, ↓reduceIte, reduceCtorEq, Nat.reduceEqDiff, Nat.reduceLT, Nat.reduceLeDiff, Nat.reduceAdd, Nat.reduceSub, Nat.reduceMul, Int.reduceNeg, Int.reduceLE, Int.reduceLT, Int.reduceToNat, Int.reduceAdd, Int.reduceSub, Int.reduceMul, Int.reduceEq]
    (repeat (refine And.intro (by first | omega | decide) ?_))
    refine drawT_rule 7 [(0, true), (1, true), (2, true), (3, true), (4, true), (5, true), (6, true)] (by kernel_rfl) (by kernel_rfl) ?_
    simp (config := { maxSteps := 1000000 }) only [e1, g1, g2, g3, g4, g5, g6, j1, j2, j3, j5, j6, pAdd_zero, undef, push_cast, ↓Int.toNat_natCast, ↓Int.cast_ofNat_Int, Int.cast_ofNat_Int, ↓reduceIte, reduceCtorEq, Nat.reduceEqDiff, Nat.reduceLT, Nat.reduceLeDiff, Nat.reduceAdd, Nat.reduceSub, Nat.reduceMul, Int.reduceNeg, Int.reduceLE, Int.reduceLT, Int.reduceToNat, Int.reduceAdd, Int.reduceSub, Int.reduceMul, Int.reduceEq]
    refine ⟨Int.le_refl _, ?_⟩
    have m1 : ((b.length : Int) + (totB q : Int) + ((allB p).length : Int)).toNat - totB q = b.length + (allB p).length := by omega
    have m2 : min b.length (b.length + (allB p).length) = b.length := by omega
    have m3 : (List.replicate (b.length + totB q) (0 : UInt8) ++ allB p).take (totB q) = List.replicate (totB q) 0 := by
      rw [List.take_append_of_le_length (by simp), List.take_replicate, Nat.min_eq_left (by omega)]
    have m4 : (List.replicate (b.length + totB q) (0 : UInt8) ++ allB p).drop (totB q + b.length) = allB p := by
      rw [List.drop_append_of_le_length (by simp; omega), List.drop_of_length_le (by simp; omega), List.nil_append]
    rw [m1]
    refine copyG rfl rfl rfl (by simp only [copyS, dstS, Cont.lay, hrd, m2, m3, m4, Res.with, push_cast, ↓Int.toNat_natCast, ↓Int.cast_ofNat_Int, Int.cast_ofNat_Int, ↓reduceIte, reduceCtorEq, Nat.reduceEqDiff, Nat.reduceLT, Nat.reduceLeDiff, Nat.reduceAdd, Nat.reduceSub, Nat.reduceMul, Int.reduceNeg, Int.reduceLE, Int.reduceLT, Int.reduceToNat, Int.reduceAdd, Int.reduceSub, Int.reduceMul, Int.reduceEq]; exact ⟨rfl, rfl, rfl⟩) ?_ (dOk_lt rfl) (by simp only [push_cast, ↓Int.toNat_natCast, ↓Int.cast_ofNat_Int, Int.cast_ofNat_Int, ↓reduceIte, reduceCtorEq, Nat.reduceEqDiff, Nat.reduceLT, Nat.reduceLeDiff, Nat.reduceAdd, Nat.reduceSub, Nat.reduceMul, Int.reduceNeg, Int.reduceLE, Int.reduceLT, Int.reduceToNat, Int.reduceAdd, Int.reduceSub, Int.reduceMul, Int.reduceEq]) ?_
    · simp (config := { maxSteps := 1000000 }) only [hrd, hrdo, push_cast, ↓Int.toNat_natCast, ↓Int.cast_ofNat_Int, Int.cast_ofNat_Int, ↓reduceIte, reduceCtorEq, Nat.reduceEqDiff, Nat.reduceLT, Nat.reduceLeDiff, Nat.reduceAdd, Nat.reduceSub, Nat.reduceMul, Int.reduceNeg, Int.reduceLE, Int.reduceLT, Int.reduceToNat, Int.reduceAdd, Int.reduceSub, Int.reduceMul, Int.reduceEq]
      omega
    simp (config := { maxSteps := 1000000 }) only [g1, g2, g3, g4, g5, g6, pAdd_zero, undef, push_cast, ↓Int.toNat_natCast, ↓Int.cast_ofNat_Int, Int.cast_ofNat_Int, ↓reduceIte, reduceCtorEq, Nat.reduceEqDiff, Nat.reduceLT, Nat.reduceLeDiff, Nat.reduceAdd, Nat.reduceSub, Nat.reduceMul, Int.reduceNeg, Int.reduceLE, Int.reduceLT, Int.reduceToNat, Int.reduceAdd, Int.reduceSub, Int.reduceMul, Int.reduceEq]
    (repeat (refine And.intro (by first | omega | decide) ?_))
    refine loopK_normal (p ++ [b], q, A2) [0] ⟨by rw [hr]; simp, hq'⟩ (by show q.length < q.length + 1; omega) ?_
    have e3 : allB (p ++ [b]) = b ++ allB p := by rw [allB_app]; simp [allB]
    simp (config := { maxSteps := 1000000 }) only [e3, push_cast, ↓Int.toNat_natCast, ↓Int.cast_ofNat_Int, Int.cast_ofNat_Int, ↓reduceIte, reduceCtorEq, Nat.reduceEqDiff, Nat.reduceLT, Nat.reduceLeDiff, Nat.reduceAdd, Nat.reduceSub, Nat.reduceMul, Int.reduceNeg, Int.reduceLE, Int.reduceLT, Int.reduceToNat, Int.reduceAdd, Int.reduceSub, Int.reduceMul, Int.reduceEq]
    done
section
variable {w0 : World} {ow : Nat → Prop} {hp : List Res} {k0 k1 : Nat} {r : List (List UInt8)}
theorem allK (hn : totB r ≤ 1000000000) (hbr : ∀ r ∈ hp, Res.bnd hp.length r) (hk : bview hp[k0]? = some (47, .c [.o k1, .v (.int .i64 (totB r : Int))])) (h1 : hp[k1]? = some (.abs (ChR 125 r))) :
    CallOK Tryd.prog w0 ow 10 [.x (.a (.p k0 0))] hp (.x (.a (.o hp.length))) (hp ++ [.own 5 (.u8 (allB r))]) := callOK_own hbr trivial fun γ w hS => by
  obtain ⟨_, _, hc⟩ := hS.holds k1 _ h1
  have hc : ChW 125 r (nmS γ k1) (nmM γ k1) w := hc
  obtain ⟨A0, e0⟩ := hc.ptr
  have d0 := hS.cellv hk (i := 0) (by show 0 < 2; omega)
  have d1 := hS.cellv hk (i := 1) (by show 1 < 2; omega)
  have d0 : w.cell? ⟨nmB γ k0, 0, none⟩ = some (nmS γ k1) := d0
  rw [e0] at d0 hc
  exact all_any hn (Two.of d0 d1) hc
set_option maxRecDepth 100000 in
theorem allNil_any (w : World) : Calls Tryd.prog 10 #[.pointer none] w fun e w' => e = .returned (.slice none 0 0) ∧ Below w.heap.size w w' := by
  refine calls_v (n := 43) Tryd.func10 rfl Tryd.ntmps10 [.x (.a (.v (.pointer none)))] (by simp) (.x (.a (.v (.slice none 0 0)))) (fun _ => rfl) ?_
  simp (config := { maxSteps := 1000000 }) only [undef, push_cast, ↓Int.toNat_natCast, ↓Int.cast_ofNat_Int, Int.cast_ofNat_Int, ↓reduceIte, reduceCtorEq, Nat.reduceEqDiff, Nat.reduceLT, Nat.reduceLeDiff, Nat.reduceAdd, Nat.reduceSub, Nat.reduceMul, Int.reduceNeg, Int.reduceLE, Int.reduceLT, Int.reduceToNat, Int.reduceAdd, Int.reduceSub, Int.reduceMul, Int.reduceEq]
theorem allNilK : CallOK Tryd.prog w0 ow 10 [.x (.a (.v (.pointer none)))] hp (.x (.a (.v (.slice none 0 0)))) hp := callOK_v fun _ w _ => allNil_any w
end
end Go.Proofs.YtiaeollemmkclaaDoor
