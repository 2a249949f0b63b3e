/- Rows of whole numbers, compared (law 33's nums). -/
import Derived.Test.YtiaeollemmkclaaDoorSetA
import Derived.Test.YtiaeollemmkclaaDoorVs
namespace Go.Proofs.YtiaeollemmkclaaDoor
open Go.RowKit
set_option linter.unusedSimpArgs false
attribute [local irreducible] Callable CallOK CallG CallM DrawG LoopG symR symM
section
variable (a b : List UInt64) (A : Option Addr) (c : Nat) (A2 : Option Addr) (c2 : Nat) (w : World) (hm : a.length ≤ 100000) (hR : RdV w w.heap.size A (a.map vU64)) (hR2 : RdV w w.heap.size A2 (b.map vU64))
include hm hR hR2
set_option maxRecDepth 100000 in
theorem nums13_any : Calls Tryd.prog 72 #[.slice A a.length c, .slice A2 b.length c2] w fun e w' => e = .returned (.bool (decide (a = b))) ∧ Below w.heap.size w w' := by
  have F := FM.of hR
  have G := FM.of hR2
  refine calls_v (n := 26) Tryd.func72 rfl Tryd.ntmps72 [.x (.a (.v (.slice A a.length c))), .x (.a (.v (.slice A2 b.length c2)))] (by simp) (.x (.a (.v (.bool (decide (a = b)))))) (fun _ => rfl) ?_
  by_cases hl : (a.length : Int) = b.length
  · simp only [hl, push_cast, ↓Int.toNat_natCast, ↓Int.cast_ofNat_Int, Int.cast_ofNat_Int, ↓reduceIte, reduceCtorEq, Nat.reduceEqDiff, Nat.reduceLT, Nat.reduceLeDiff, Nat.reduceAdd, Nat.reduceSub, Nat.reduceMul, Int.reduceNeg, Int.reduceLE, Int.reduceLT, Int.reduceToNat, Int.reduceAdd, Int.reduceSub, Int.reduceMul, Int.reduceEq]
    refine loop_rule (ι := Nat) (fun k => ⟨[(0, .x (.a (.v (.slice A a.length c)))), (1, .x (.a (.v (.slice A2 b.length c2)))), (5, .x (.a (.v (.int .i64 k))))], []⟩) (fun k => k ≤ b.length ∧ ∀ j, j < k → ix a j = ix b j) (fun k => b.length - k) 0 [] ⟨by omega, fun j h => by omega⟩ ?_ ?_
    · simp only [push_cast, ↓Int.toNat_natCast, ↓Int.cast_ofNat_Int, Int.cast_ofNat_Int, ↓reduceIte, reduceCtorEq, Nat.reduceEqDiff, Nat.reduceLT, Nat.reduceLeDiff, Nat.reduceAdd, Nat.reduceSub, Nat.reduceMul, Int.reduceNeg, Int.reduceLE, Int.reduceLT, Int.reduceToNat, Int.reduceAdd, Int.reduceSub, Int.reduceMul, Int.reduceEq]
    · rintro k ⟨hk, hj⟩
      by_cases hlt : (k : Int) < a.length
      · have c0 := F.cell k (by omega)
        have o0 := F.ok k (by omega)
        have d0 := G.cell k (by omega)
        have p0 := G.ok k (by omega)
        have hA := F.some_ (by omega)
        have hA2 := G.some_ (by omega)
        have hlb : (k : Int) < b.length := by omega
        by_cases he : ix a k = ix b k
        · simp only [hlt, hlb, undef, push_cast, ↓Int.toNat_natCast, ↓Int.cast_ofNat_Int, Int.cast_ofNat_Int, ↓reduceIte, reduceCtorEq, Nat.reduceEqDiff, Nat.reduceLT, Nat.reduceLeDiff, Nat.reduceAdd, Nat.reduceSub, Nat.reduceMul, Int.reduceNeg, Int.reduceLE, Int.reduceLT, Int.reduceToNat, Int.reduceAdd, Int.reduceSub, Int.reduceMul, Int.reduceEq]
          (repeat (refine And.intro (by first | omega | decide) ?_))
          refine draw_rule [(0, true), (1, true), (2, true), (3, true), (4, true), (5, true), (6, true), (7, true), (8, true)] (by kernel_rfl) (by kernel_rfl) rfl (by kernel_rfl) ?_
          simp only [hlt, hlb, c0, o0, d0, p0, hA, hA2, he, undef, push_cast, ↓Int.toNat_natCast, ↓Int.cast_ofNat_Int, Int.cast_ofNat_Int, ↓reduceIte, reduceCtorEq, Nat.reduceEqDiff, Nat.reduceLT, Nat.reduceLeDiff, Nat.reduceAdd, Nat.reduceSub, Nat.reduceMul, Int.reduceNeg, Int.reduceLE, Int.reduceLT, Int.reduceToNat, Int.reduceAdd, Int.reduceSub, Int.reduceMul, Int.reduceEq]
          (repeat (refine And.intro (by first | omega | decide) ?_))
          refine loopK_normal (k + 1) [] ⟨by omega, fun j h => ?_⟩ (by omega) ?_
          · by_cases e : j = k
            · rw [e]; exact he
            · exact hj j (by omega)
          · simp only [push_cast, ↓Int.toNat_natCast, ↓Int.cast_ofNat_Int, Int.cast_ofNat_Int, ↓reduceIte, reduceCtorEq, Nat.reduceEqDiff, Nat.reduceLT, Nat.reduceLeDiff, Nat.reduceAdd, Nat.reduceSub, Nat.reduceMul, Int.reduceNeg, Int.reduceLE, Int.reduceLT, Int.reduceToNat, Int.reduceAdd, Int.reduceSub, Int.reduceMul, Int.reduceEq]
        · have hne : ¬ a = b := fun e => he (by rw [e])
          simp only [hlt, hlb, undef, push_cast, ↓Int.toNat_natCast, ↓Int.cast_ofNat_Int, Int.cast_ofNat_Int, ↓reduceIte, reduceCtorEq, Nat.reduceEqDiff, Nat.reduceLT, Nat.reduceLeDiff, Nat.reduceAdd, Nat.reduceSub, Nat.reduceMul, Int.reduceNeg, Int.reduceLE, Int.reduceLT, Int.reduceToNat, Int.reduceAdd, Int.reduceSub, Int.reduceMul, Int.reduceEq]
          (repeat (refine And.intro (by first | omega | decide) ?_))
          refine draw_rule [(0, true), (1, true), (2, true), (3, true), (4, true), (5, true), (6, true), (7, true), (8, true)] (by kernel_rfl) (by kernel_rfl) rfl (by kernel_rfl) ?_
          simp only [hlt, hlb, c0, o0, d0, p0, hA, hA2, he, hne, undef, push_cast, ↓Int.toNat_natCast, ↓Int.cast_ofNat_Int, Int.cast_ofNat_Int, ↓reduceIte, reduceCtorEq, Nat.reduceEqDiff, Nat.reduceLT, Nat.reduceLeDiff, Nat.reduceAdd, Nat.reduceSub, Nat.reduceMul, Int.reduceNeg, Int.reduceLE, Int.reduceLT, Int.reduceToNat, Int.reduceAdd, Int.reduceSub, Int.reduceMul, Int.reduceEq]
          all_goals omega
      · have hab : a = b := ext_ix (by omega) fun j h => hj j (by omega)
        have hd : decide (a = b) = true := decide_eq_true hab
        simp only [hlt, hd, undef, push_cast, ↓Int.toNat_natCast, ↓Int.cast_ofNat_Int, Int.cast_ofNat_Int, ↓reduceIte, reduceCtorEq, Nat.reduceEqDiff, Nat.reduceLT, Nat.reduceLeDiff, Nat.reduceAdd, Nat.reduceSub, Nat.reduceMul, Int.reduceNeg, Int.reduceLE, Int.reduceLT, Int.reduceToNat, Int.reduceAdd, Int.reduceSub, Int.reduceMul, Int.reduceEq]
  · have hne := len_ne hl
    simp only [hl, hne, push_cast, ↓Int.toNat_natCast, ↓Int.cast_ofNat_Int, Int.cast_ofNat_Int, ↓reduceIte, reduceCtorEq, Nat.reduceEqDiff, Nat.reduceLT, Nat.reduceLeDiff, Nat.reduceAdd, Nat.reduceSub, Nat.reduceMul, Int.reduceNeg, Int.reduceLE, Int.reduceLT, Int.reduceToNat, Int.reduceAdd, Int.reduceSub, Int.reduceMul, Int.reduceEq]
end
theorem nums13OK {w0 : World} {hp : List Res} {s1 s2 : Sv} {a b : List UInt64} (hm : a.length ≤ 100000) (h1 : Shows w0 No hp s1 (a.map vU64)) (h2 : Shows w0 No hp s2 (b.map vU64)) : CallOK Tryd.prog w0 No 72 [s1, s2] hp (.x (.a (.v (.bool (decide (a = b)))))) hp := callOK_v fun γ w hS => by
  obtain ⟨A, c, e1, b1, q1⟩ := h1 γ w hS
  obtain ⟨A2, c2, e2, b2, q2⟩ := h2 γ w hS
  rw [List.length_map] at e1 e2
  show Calls _ _ #[s1.val γ, s2.val γ] w _
  rw [e1, e2]
  exact nums13_any a b A c A2 c2 w hm q1 q2
end Go.Proofs.YtiaeollemmkclaaDoor
