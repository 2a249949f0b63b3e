/- fate.Abort, fate.Done, where it ends: the receiver is turned. -/
import Derived.Test.YtohnlajccfnecaaDoorFt7
import Derived.Test.YtohnlajccfnecaaDoorFt8
namespace Go.Proofs.YtohnlajccfnecaaDoor
open Go.RowKit
set_option linter.unusedSimpArgs false
/-- Where a slice shows values that the call does not own; an empty one shows nothing. -/
structure FW (w0 : World) (ow : Nat → Prop) (A : Option Addr) (vs : List Value) : Prop where
  rd : RdV w0 w0.heap.size A vs
  far : 0 < vs.length → ∀ a, A = some a → ¬ ow a.block
theorem shows_fv {w0 : World} {ow : Nat → Prop} {hp : List Res} {A : Option Addr} {vs : List Value} (h : FW w0 ow A vs) (n cap : Nat) (hn : vs.length = n) (hc : n ≤ cap) : Shows w0 ow hp (.x (.a (.v (.slice A n cap)))) vs := fun γ w hS => by
  refine ⟨A, cap, by rw [hn]; rfl, by omega, fun hp => ?_⟩
  obtain ⟨b, off, h1, h2, h3⟩ := h.rd hp
  have hno := h.far hp _ h1
  exact ⟨b, off, h1, Nat.lt_of_lt_of_le h2 hS.keeps.size, fun j u hu => (World.cell?_of_block (hS.keeps.block b h2 hno)).trans (h3 j u hu)⟩
attribute [local irreducible] Callable CallOK CallG CallM DrawG LoopG symR symM
set_option maxRecDepth 100000 in
theorem abort_yes (n : Int) (h1 : 1 ≤ n) (h4 : n ≤ 4) {X : Nat → Prop} {γ : List Nm} {w : World} (g : Nat) (hS : Sat w X γ [.pin g 33 (.c [.v (.int .i64 0), .o 1, .o 2, .v (.int .i64 0)]), .own 3 (.i64 []), .own 46 (.u32 [])] w) :
    Calls Tryd.prog 9 (List.map (Sv.val γ) [.x (.a (.p 0 0)), .x (.a (.v (.int .i64 n)))]).toArray w fun e w' => ∃ γ1, e = .returned ((Sv.x (.a (.v (.bool true)))).val γ1) ∧ Sat w X γ1 [.pin g 33 (.c [.v (.int .i64 2), .o 1, .o 2, .v (.int .i64 n)]), .own 3 (.i64 []), .own 46 (.u32 [])] w' := by
  have g1 : ¬ n < 1 := by omega
  have g2 : ¬ 4 < n := by omega
  refine calls_fun (n := 29) Tryd.func9 rfl Tryd.ntmps9 _ hS (by simp) _ _ ?_
  simp (config := { maxSteps := 1000000 }) only [g1, g2, undef, push_cast, ↓Int.toNat_natCast, ↓Int.cast_ofNat_Int, Int.cast_ofNat_Int, ↓reduceIte, reduceCtorEq, Nat.reduceEqDiff, Nat.reduceLT, Nat.reduceLeDiff, Nat.reduceAdd, Nat.reduceSub, Nat.reduceMul, Int.reduceNeg, Int.reduceLE, Int.reduceLT, Int.reduceToNat, Int.reduceAdd, Int.reduceSub, Int.reduceMul, Int.reduceEq]
  (repeat (refine And.intro (by first | omega | decide) ?_))
  refine endsAs [0, 1, 2] ?_
  simp (config := { maxSteps := 1000000 }) only [push_cast, ↓Int.toNat_natCast, ↓Int.cast_ofNat_Int, Int.cast_ofNat_Int, ↓reduceIte, reduceCtorEq, Nat.reduceEqDiff, Nat.reduceLT, Nat.reduceLeDiff, Nat.reduceAdd, Nat.reduceSub, Nat.reduceMul, Int.reduceNeg, Int.reduceLE, Int.reduceLT, Int.reduceToNat, Int.reduceAdd, Int.reduceSub, Int.reduceMul, Int.reduceEq]
set_option maxRecDepth 100000 in
set_option maxHeartbeats 1000000 in
theorem done_yes (l : List Int) (x : List UInt32) (A2 : Option Addr) (c2 : Nat) (B2 : Option Addr) (d2 : Nat) (h1 : l ≠ []) (hs : setOk l = true) (hl : l.length ≤ 1000) (h3 : x.length ≤ 32) (hc : l.length ≤ c2) (hd : x.length ≤ d2) {X : Nat → Prop} {γ : List Nm} {w : World}
    (hR : FW w X A2 (l.map vI64)) (hR2 : FW w X B2 (x.map vU32)) (g : Nat) (hS : Sat w X γ [.pin g 33 (.c [.v (.int .i64 0), .o 1, .o 2, .v (.int .i64 0)]), .own 3 (.i64 []), .own 46 (.u32 [])] w) :
    Calls Tryd.prog 8 (List.map (Sv.val γ) [.x (.a (.p 0 0)), .x (.a (.v (.slice A2 l.length c2))), .x (.a (.v (.slice B2 x.length d2)))]).toArray w fun e w' => ∃ γ1, e = .returned ((Sv.x (.a (.v (.bool true)))).val γ1) ∧ Sat w X γ1 [.pin g 33 (.c [.v (.int .i64 1), .o 1, .o 2, .v (.int .i64 0)]), .own 3 (.i64 l), .own 46 (.u32 x)] w' := by
  have g1 : ¬ (l.length : Int) = 0 := fun e => h1 (List.length_eq_zero_iff.1 (by omega))
  have g3 : ¬ (32 : Int) < x.length := by omega
  refine calls_fun (n := 44) Tryd.func8 rfl Tryd.ntmps8 _ hS (by simp) _ _ ?_
  simp (config := { maxSteps := 1000000 }) only [g1, undef, push_cast, ↓Int.toNat_natCast, ↓Int.cast_ofNat_Int, Int.cast_ofNat_Int, ↓reduceIte, reduceCtorEq, Nat.reduceEqDiff, Nat.reduceLT, Nat.reduceLeDiff, Nat.reduceAdd, Nat.reduceSub, Nat.reduceMul, Int.reduceNeg, Int.reduceLE, Int.reduceLT, Int.reduceToNat, Int.reduceAdd, Int.reduceSub, Int.reduceMul, Int.reduceEq]
  (repeat (refine And.intro (by first | omega | decide) ?_))
  refine callG_v rfl cb27 rfl (check15OK (l := l) (by omega) (shows_fv hR _ _ (by simp) hc)) (dOk_lt rfl) ?_
  simp (config := { maxSteps := 1000000 }) only [setErr_yes hs, g1, g3, undef, push_cast, ↓Int.toNat_natCast, ↓Int.cast_ofNat_Int, Int.cast_ofNat_Int, ↓reduceIte, reduceCtorEq, Nat.reduceEqDiff, Nat.reduceLT, Nat.reduceLeDiff, Nat.reduceAdd, Nat.reduceSub, Nat.reduceMul, Int.reduceNeg, Int.reduceLE, Int.reduceLT, Int.reduceToNat, Int.reduceAdd, Int.reduceSub, Int.reduceMul, Int.reduceEq]
  (repeat (refine And.intro (by first | omega | decide) ?_))
  refine callG_x rfl cb25 rfl (cloneIOK (l := l) hl (shows_fv hR _ _ (by simp) hc) (by simp only [push_cast, ↓Int.toNat_natCast, ↓Int.cast_ofNat_Int, Int.cast_ofNat_Int, ↓reduceIte, reduceCtorEq, Nat.reduceEqDiff, Nat.reduceLT, Nat.reduceLeDiff, Nat.reduceAdd, Nat.reduceSub, Nat.reduceMul, Int.reduceNeg, Int.reduceLE, Int.reduceLT, Int.reduceToNat, Int.reduceAdd, Int.reduceSub, Int.reduceMul, Int.reduceEq])) (dOk_lt rfl) (by simp only [push_cast, ↓Int.toNat_natCast, ↓Int.cast_ofNat_Int, Int.cast_ofNat_Int, ↓reduceIte, reduceCtorEq, Nat.reduceEqDiff, Nat.reduceLT, Nat.reduceLeDiff, Nat.reduceAdd, Nat.reduceSub, Nat.reduceMul, Int.reduceNeg, Int.reduceLE, Int.reduceLT, Int.reduceToNat, Int.reduceAdd, Int.reduceSub, Int.reduceMul, Int.reduceEq]) ?_
  simp (config := { maxSteps := 1000000 }) only [undef, push_cast, ↓Int.toNat_natCast, ↓Int.cast_ofNat_Int, Int.cast_ofNat_Int, ↓reduceIte, reduceCtorEq, Nat.reduceEqDiff, Nat.reduceLT, Nat.reduceLeDiff, Nat.reduceAdd, Nat.reduceSub, Nat.reduceMul, Int.reduceNeg, Int.reduceLE, Int.reduceLT, Int.reduceToNat, Int.reduceAdd, Int.reduceSub, Int.reduceMul, Int.reduceEq]
  (repeat (refine And.intro (by first | omega | decide) ?_))
  refine callG_x rfl cb26 rfl (cloneUOK (l := x) (by omega) (shows_fv hR2 _ _ (by simp) hd) (by simp only [push_cast, ↓Int.toNat_natCast, ↓Int.cast_ofNat_Int, Int.cast_ofNat_Int, ↓reduceIte, reduceCtorEq, Nat.reduceEqDiff, Nat.reduceLT, Nat.reduceLeDiff, Nat.reduceAdd, Nat.reduceSub, Nat.reduceMul, Int.reduceNeg, Int.reduceLE, Int.reduceLT, Int.reduceToNat, Int.reduceAdd, Int.reduceSub, Int.reduceMul, Int.reduceEq])) (dOk_lt rfl) (by simp only [push_cast, ↓Int.toNat_natCast, ↓Int.cast_ofNat_Int, Int.cast_ofNat_Int, ↓reduceIte, reduceCtorEq, Nat.reduceEqDiff, Nat.reduceLT, Nat.reduceLeDiff, Nat.reduceAdd, Nat.reduceSub, Nat.reduceMul, Int.reduceNeg, Int.reduceLE, Int.reduceLT, Int.reduceToNat, Int.reduceAdd, Int.reduceSub, Int.reduceMul, Int.reduceEq]) ?_
  simp (config := { maxSteps := 1000000 }) only [undef, push_cast, ↓Int.toNat_natCast, ↓Int.cast_ofNat_Int, Int.cast_ofNat_Int, ↓reduceIte, reduceCtorEq, Nat.reduceEqDiff, Nat.reduceLT, Nat.reduceLeDiff, Nat.reduceAdd, Nat.reduceSub, Nat.reduceMul, Int.reduceNeg, Int.reduceLE, Int.reduceLT, Int.reduceToNat, Int.reduceAdd, Int.reduceSub, Int.reduceMul, Int.reduceEq]
  (repeat (refine And.intro (by first | omega | decide) ?_))
  refine endsAs [0, 3, 4] ?_
  simp (config := { maxSteps := 1000000 }) only [push_cast, ↓Int.toNat_natCast, ↓Int.cast_ofNat_Int, Int.cast_ofNat_Int, ↓reduceIte, reduceCtorEq, Nat.reduceEqDiff, Nat.reduceLT, Nat.reduceLeDiff, Nat.reduceAdd, Nat.reduceSub, Nat.reduceMul, Int.reduceNeg, Int.reduceLE, Int.reduceLT, Int.reduceToNat, Int.reduceAdd, Int.reduceSub, Int.reduceMul, Int.reduceEq]
end Go.Proofs.YtohnlajccfnecaaDoor
