/- Rows of numbers, and lots, compared (law 24). -/
import Derived.Test.YtohnlajccfnecaaDoorHand
import Derived.Test.YtohnlajccfnecaaDoorTy
namespace Go.Proofs.YtohnlajccfnecaaDoor
open Go.RowKit
set_option linter.unusedSimpArgs false
theorem ext_ix {α : Type} [Inhabited α] {a b : List α} (hl : a.length = b.length) (h : ∀ j, j < a.length → ix a j = ix b j) : a = b := by
  apply List.ext_getElem hl
  intro i h1 h2
  have := h i h1
  simpa [ix, List.getD_eq_getElem?_getD, List.getElem?_eq_getElem h1, List.getElem?_eq_getElem h2] using this
theorem len_ne {α : Type} {a b : List α} (h : ¬ ((a.length : Int) = b.length)) : ¬ a = b := fun e => h (by rw [e])
structure F64 (w0 : World) (ow : Nat → Prop) (A : Option Addr) (l : List UInt64) : Prop where
  some_ : 0 < l.length → A.isSome = true
  cell : ∀ i, i < l.length → cellOf w0 (pAdd A i) = vU64 (ix l i)
  ok : ∀ i, i < l.length → rawOk w0 ow (pAdd A i)
theorem F64.of2 {w0 : World} {ow : Nat → Prop} {A : Option Addr} {l : List UInt64} (hR : RdV w0 w0.heap.size A (l.map vU64)) (hn : 0 < l.length → ∀ b off, A = some ⟨b, off, none⟩ → ¬ ow b) : F64 w0 ow A l := by
  have hc : ∀ i, i < l.length → ∃ b off, A = some ⟨b, off, none⟩ ∧ b < w0.heap.size ∧ w0.cell? ⟨b, off + i, none⟩ = some (vU64 (ix l i)) := fun i hi => by
    obtain ⟨b, off, h1, h2, h3⟩ := hR (by rw [List.length_map]; omega)
    exact ⟨b, off, h1, h2, h3 i _ (ix_map vU64 l i hi)⟩
  refine ⟨fun h => ?_, fun i hi => ?_, fun i hi => ?_⟩
  · obtain ⟨b, off, rfl, _⟩ := hc 0 h; rfl
  · obtain ⟨b, off, rfl, h2, h3⟩ := hc i hi
    simp only [cellOf, pAdd, Option.map_some, add_plain, h3, Option.getD_some]
  · obtain ⟨b, off, rfl, h2, h3⟩ := hc i hi
    exact ⟨⟨b, off + i, none⟩, _, by simp only [pAdd, Option.map_some, add_plain], h2, hn (by omega) b off rfl, h3⟩
section
variable (a b : List UInt64) (A : Option Addr) (c : Nat) (A2 : Option Addr) (c2 : Nat) (w : World) (hm : a.length ≤ 100000) (hR : RdV w w.heap.size A (a.map vU64)) (hR2 : RdV w w.heap.size A2 (b.map vU64))
include hm hR hR2
set_option maxRecDepth 100000 in
theorem nums24_any : Calls Tryd.prog 24 #[.slice A a.length c, .slice A2 b.length c2] w fun e w' => e = .returned (.bool (decide (a = b))) ∧ Below w.heap.size w w' := by
  have F := F64.of2 (ow := No) hR (fun _ _ _ _ h => h.elim)
  have G := F64.of2 (ow := No) hR2 (fun _ _ _ _ h => h.elim)
  refine calls_v (n := 26) Tryd.func24 rfl Tryd.ntmps24 [.x (.a (.v (.slice A a.length c))), .x (.a (.v (.slice A2 b.length c2)))] (by simp) (.x (.a (.v (.bool (decide (a = b)))))) (fun _ => rfl) ?_
  by_cases hl : (a.length : Int) = b.length
  · simp only [hl, push_cast, ↓Int.toNat_natCast, ↓Int.cast_ofNat_Int, Int.cast_ofNat_Int, ↓reduceIte, reduceCtorEq, Nat.reduceEqDiff, Nat.reduceLT, Nat.reduceLeDiff, Nat.reduceAdd, Nat.reduceSub, Nat.reduceMul, Int.reduceNeg, Int.reduceLE, Int.reduceLT, Int.reduceToNat, Int.reduceAdd, Int.reduceSub, Int.reduceMul, Int.reduceEq]
    refine loop_rule (ι := Nat) (fun k => ⟨[(0, .x (.a (.v (.slice A a.length c)))), (1, .x (.a (.v (.slice A2 b.length c2)))), (5, .x (.a (.v (.int .i64 k))))], []⟩) (fun k => k ≤ b.length ∧ ∀ j, j < k → ix a j = ix b j) (fun k => b.length - k) 0 [] ⟨by omega, fun j h => by omega⟩ ?_ ?_
    · simp only [push_cast, ↓Int.toNat_natCast, ↓Int.cast_ofNat_Int, Int.cast_ofNat_Int, ↓reduceIte, reduceCtorEq, Nat.reduceEqDiff, Nat.reduceLT, Nat.reduceLeDiff, Nat.reduceAdd, Nat.reduceSub, Nat.reduceMul, Int.reduceNeg, Int.reduceLE, Int.reduceLT, Int.reduceToNat, Int.reduceAdd, Int.reduceSub, Int.reduceMul, Int.reduceEq]
    · rintro k ⟨hk, hj⟩
      by_cases hlt : (k : Int) < a.length
      · have c0 := F.cell k (by omega)
        have o0 := F.ok k (by omega)
        have d0 := G.cell k (by omega)
        have p0 := G.ok k (by omega)
        have hA := F.some_ (by omega)
        have hA2 := G.some_ (by omega)
        have hlb : (k : Int) < b.length := by omega
        by_cases he : ix a k = ix b k
        · simp only [hlt, hlb, undef, push_cast, ↓Int.toNat_natCast, ↓Int.cast_ofNat_Int, Int.cast_ofNat_Int, ↓reduceIte, reduceCtorEq, Nat.reduceEqDiff, Nat.reduceLT, Nat.reduceLeDiff, Nat.reduceAdd, Nat.reduceSub, Nat.reduceMul, Int.reduceNeg, Int.reduceLE, Int.reduceLT, Int.reduceToNat, Int.reduceAdd, Int.reduceSub, Int.reduceMul, Int.reduceEq]
          (repeat (refine And.intro (by first | omega | decide) ?_))
          refine draw_rule [(0, true), (1, true), (2, true), (3, true), (4, true), (5, true), (6, true), (7, true), (8, true)] (by kernel_rfl) (by kernel_rfl) rfl (by kernel_rfl) ?_
          simp only [hlt, hlb, c0, o0, d0, p0, hA, hA2, he, undef, push_cast, ↓Int.toNat_natCast, ↓Int.cast_ofNat_Int, Int.cast_ofNat_Int, ↓reduceIte, reduceCtorEq, Nat.reduceEqDiff, Nat.reduceLT, Nat.reduceLeDiff, Nat.reduceAdd, Nat.reduceSub, Nat.reduceMul, Int.reduceNeg, Int.reduceLE, Int.reduceLT, Int.reduceToNat, Int.reduceAdd, Int.reduceSub, Int.reduceMul, Int.reduceEq]
          (repeat (refine And.intro (by first | omega | decide) ?_))
          refine loopK_normal (k + 1) [] ⟨by omega, fun j h => ?_⟩ (by omega) ?_
          · by_cases e : j = k
            · rw [e]; exact he
            · exact hj j (by omega)
          · simp only [push_cast, ↓Int.toNat_natCast, ↓Int.cast_ofNat_Int, Int.cast_ofNat_Int, ↓reduceIte, reduceCtorEq, Nat.reduceEqDiff, Nat.reduceLT, Nat.reduceLeDiff, Nat.reduceAdd, Nat.reduceSub, Nat.reduceMul, Int.reduceNeg, Int.reduceLE, Int.reduceLT, Int.reduceToNat, Int.reduceAdd, Int.reduceSub, Int.reduceMul, Int.reduceEq]
        · have hne : ¬ a = b := fun e => he (by rw [e])
          simp only [hlt, hlb, undef, push_cast, ↓Int.toNat_natCast, ↓Int.cast_ofNat_Int, Int.cast_ofNat_Int, ↓reduceIte, reduceCtorEq, Nat.reduceEqDiff, Nat.reduceLT, Nat.reduceLeDiff, Nat.reduceAdd, Nat.reduceSub, Nat.reduceMul, Int.reduceNeg, Int.reduceLE, Int.reduceLT, Int.reduceToNat, Int.reduceAdd, Int.reduceSub, Int.reduceMul, Int.reduceEq]
          (repeat (refine And.intro (by first | omega | decide) ?_))
          refine draw_rule [(0, true), (1, true), (2, true), (3, true), (4, true), (5, true), (6, true), (7, true), (8, true)] (by kernel_rfl) (by kernel_rfl) rfl (by kernel_rfl) ?_
          simp only [hlt, hlb, c0, o0, d0, p0, hA, hA2, he, hne, undef, push_cast, ↓Int.toNat_natCast, ↓Int.cast_ofNat_Int, Int.cast_ofNat_Int, ↓reduceIte, reduceCtorEq, Nat.reduceEqDiff, Nat.reduceLT, Nat.reduceLeDiff, Nat.reduceAdd, Nat.reduceSub, Nat.reduceMul, Int.reduceNeg, Int.reduceLE, Int.reduceLT, Int.reduceToNat, Int.reduceAdd, Int.reduceSub, Int.reduceMul, Int.reduceEq]
          all_goals omega
      · have hab : a = b := ext_ix (by omega) fun j h => hj j (by omega)
        have hd : decide (a = b) = true := decide_eq_true hab
        simp only [hlt, hd, undef, push_cast, ↓Int.toNat_natCast, ↓Int.cast_ofNat_Int, Int.cast_ofNat_Int, ↓reduceIte, reduceCtorEq, Nat.reduceEqDiff, Nat.reduceLT, Nat.reduceLeDiff, Nat.reduceAdd, Nat.reduceSub, Nat.reduceMul, Int.reduceNeg, Int.reduceLE, Int.reduceLT, Int.reduceToNat, Int.reduceAdd, Int.reduceSub, Int.reduceMul, Int.reduceEq]
  · have hne := len_ne hl
    simp only [hl, hne, push_cast, ↓Int.toNat_natCast, ↓Int.cast_ofNat_Int, Int.cast_ofNat_Int, ↓reduceIte, reduceCtorEq, Nat.reduceEqDiff, Nat.reduceLT, Nat.reduceLeDiff, Nat.reduceAdd, Nat.reduceSub, Nat.reduceMul, Int.reduceNeg, Int.reduceLE, Int.reduceLT, Int.reduceToNat, Int.reduceAdd, Int.reduceSub, Int.reduceMul, Int.reduceEq]
end
theorem nums24OK {w0 : World} {hp : List Res} {s1 s2 : Sv} {a b : List UInt64} (hm : a.length ≤ 100000) (h1 : Shows w0 No hp s1 (a.map vU64)) (h2 : Shows w0 No hp s2 (b.map vU64)) : CallOK Tryd.prog w0 No 24 [s1, s2] hp (.x (.a (.v (.bool (decide (a = b)))))) hp := callOK_v fun γ w hS => by
  obtain ⟨A, c, e1, b1, q1⟩ := h1 γ w hS
  obtain ⟨A2, c2, e2, b2, q2⟩ := h2 γ w hS
  rw [List.length_map] at e1 e2
  show Calls _ _ #[s1.val γ, s2.val γ] w _
  rw [e1, e2]
  exact nums24_any a b A c A2 c2 w hm q1 q2
set_option maxRecDepth 100000 in
theorem isLot_same (a b : UInt64) (l1 l2 : List UInt64) (hm1 : l1.length ≤ 100000) (hm2 : l2.length ≤ 100000) (A1 A2 B1 B2 : Option Addr) (c1 c2 d1 d2 : Nat) (w : World) (g1 : l1.length ≤ c1) (g2 : l2.length ≤ c2) (g3 : l1.length ≤ d1) (g4 : l2.length ≤ d2)
    (h1 : RdV w w.heap.size A1 (l1.map vU64)) (h2 : RdV w w.heap.size A2 (l2.map vU64)) (h3 : RdV w w.heap.size B1 (l1.map vU64)) (h4 : RdV w w.heap.size B2 (l2.map vU64)) :
    Calls Tryd.prog 21 #[.agg #[vU64 a, vU64 b, .slice A1 l1.length c1, .slice A2 l2.length c2], .agg #[vU64 a, vU64 b, .slice B1 l1.length d1, .slice B2 l2.length d2]] w fun e w' => e = .returned (.bool true) ∧ Below w.heap.size w w' := by
  refine calls_v (n := 31) Tryd.func21 rfl Tryd.ntmps21 [.x (.g [.v (vU64 a), .v (vU64 b), .v (.slice A1 l1.length c1), .v (.slice A2 l2.length c2)]), .x (.g [.v (vU64 a), .v (vU64 b), .v (.slice B1 l1.length d1), .v (.slice B2 l2.length d2)])] (by simp) (.x (.a (.v (.bool true)))) (fun _ => rfl) ?_
  simp only [push_cast, ↓Int.toNat_natCast, ↓Int.cast_ofNat_Int, Int.cast_ofNat_Int, ↓reduceIte, reduceCtorEq, Nat.reduceEqDiff, Nat.reduceLT, Nat.reduceLeDiff, Nat.reduceAdd, Nat.reduceSub, Nat.reduceMul, Int.reduceNeg, Int.reduceLE, Int.reduceLT, Int.reduceToNat, Int.reduceAdd, Int.reduceSub, Int.reduceMul, Int.reduceEq]
  (repeat (refine And.intro (by first | omega | decide) ?_))
  refine callG_v rfl cb24 rfl (nums24OK hm1 (shows_raw h1 _ _ (by simp) (by simpa using g1)) (shows_raw h3 _ _ (by simp) (by simpa using g3))) (dOk_lt rfl) ?_
  simp only [push_cast, ↓Int.toNat_natCast, ↓Int.cast_ofNat_Int, Int.cast_ofNat_Int, ↓reduceIte, reduceCtorEq, Nat.reduceEqDiff, Nat.reduceLT, Nat.reduceLeDiff, Nat.reduceAdd, Nat.reduceSub, Nat.reduceMul, Int.reduceNeg, Int.reduceLE, Int.reduceLT, Int.reduceToNat, Int.reduceAdd, Int.reduceSub, Int.reduceMul, Int.reduceEq]
  (repeat (refine And.intro (by first | omega | decide) ?_))
  refine callG_v rfl cb24 rfl (nums24OK hm2 (shows_raw h2 _ _ (by simp) (by simpa using g2)) (shows_raw h4 _ _ (by simp) (by simpa using g4))) (dOk_lt rfl) ?_
  simp only [push_cast, ↓Int.toNat_natCast, ↓Int.cast_ofNat_Int, Int.cast_ofNat_Int, ↓reduceIte, reduceCtorEq, Nat.reduceEqDiff, Nat.reduceLT, Nat.reduceLeDiff, Nat.reduceAdd, Nat.reduceSub, Nat.reduceMul, Int.reduceNeg, Int.reduceLE, Int.reduceLT, Int.reduceToNat, Int.reduceAdd, Int.reduceSub, Int.reduceMul, Int.reduceEq]
theorem isLotOK {w0 : World} {hp : List Res} (a b : UInt64) (s1 s2 r1 r2 : At) (l1 l2 : List UInt64) (hm1 : l1.length ≤ 100000) (hm2 : l2.length ≤ 100000) (h1 : Shows w0 No hp (.x (.a s1)) (l1.map vU64)) (h2 : Shows w0 No hp (.x (.a s2)) (l2.map vU64)) (h3 : Shows w0 No hp (.x (.a r1)) (l1.map vU64)) (h4 : Shows w0 No hp (.x (.a r2)) (l2.map vU64)) :
    CallOK Tryd.prog w0 No 21 [.x (.g [.v (vU64 a), .v (vU64 b), s1, s2]), .x (.g [.v (vU64 a), .v (vU64 b), r1, r2])] hp (.x (.a (.v (.bool true)))) hp := callOK_v fun γ w hS => by
  obtain ⟨A1, c1, e1, b1, q1⟩ := h1 γ w hS
  obtain ⟨A2, c2, e2, b2, q2⟩ := h2 γ w hS
  obtain ⟨A3, c3, e3, b3, q3⟩ := h3 γ w hS
  obtain ⟨A4, c4, e4, b4, q4⟩ := h4 γ w hS
  rw [List.length_map] at e1 e2 e3 e4 b1 b2 b3 b4
  show Calls _ _ #[.agg #[vU64 a, vU64 b, (Sv.x (.a s1)).val γ, (Sv.x (.a s2)).val γ], .agg #[vU64 a, vU64 b, (Sv.x (.a r1)).val γ, (Sv.x (.a r2)).val γ]] w _
  rw [e1, e2, e3, e4]
  exact isLot_same a b l1 l2 hm1 hm2 A1 A2 A3 A4 c1 c2 c3 c4 w b1 b2 b3 b4 q1 q2 q3 q4
end Go.Proofs.YtohnlajccfnecaaDoor
