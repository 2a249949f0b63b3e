/- How it ends (fate): Kind, Reason, Sum. -/
import Derived.Test.YtohnlajccfnecaaDoorFt1
import Derived.Test.YtohnlajccfnecaaDoorFt2
import Derived.Test.YtohnlajccfnecaaDoorDrT
namespace Go.Proofs.YtohnlajccfnecaaDoor
open Go.RowKit
set_option linter.unusedSimpArgs false
/-- A fate, in memory. -/
structure FtB (w : World) (b : Nat) (k r : Int) (ids : List Int) (row : List UInt32) : Prop where
  c0 : w.cell? ⟨b, 0, none⟩ = some (.int .i64 k)
  c1 : ∃ A c, w.cell? ⟨b, 1, none⟩ = some (.slice A ids.length c) ∧ ids.length ≤ c ∧ RdV w w.heap.size A (ids.map vI64)
  c2 : ∃ A c, w.cell? ⟨b, 2, none⟩ = some (.slice A row.length c) ∧ row.length ≤ c ∧ RdV w w.heap.size A (row.map vU32)
  c3 : w.cell? ⟨b, 3, none⟩ = some (.int .i64 r)
theorem FtB.later {w w' : World} {b : Nat} {k r : Int} {ids : List Int} {row : List UInt32} (h : FtB w b k r ids row) (hb : Below w.heap.size w w') : FtB w' b k r ids row := by
  have hlt : b < w.heap.size := block_lt_of_cell h.c0
  have he := hb.block b hlt
  obtain ⟨A, c, h1, h2, h3⟩ := h.c1
  obtain ⟨B, d, g1, g2, g3⟩ := h.c2
  exact ⟨(World.cell?_of_block he).trans h.c0, ⟨A, c, (World.cell?_of_block he).trans h1, h2, (h3.below hb).more hb.size⟩, ⟨B, d, (World.cell?_of_block he).trans g1, g2, (g3.below hb).more hb.size⟩, (World.cell?_of_block he).trans h.c3⟩
theorem cellOf_plain {w : World} {b i : Nat} {v : Value} (h : w.cell? ⟨b, i, none⟩ = some v) : cellOf w (some ⟨b, i, none⟩) = v ∧ rawOk w No (some ⟨b, i, none⟩) :=
  ⟨by show (w.cell? _).getD undef = _; rw [h]; rfl, ⟨⟨b, i, none⟩, _, rfl, block_lt_of_cell h, fun h => h, h⟩⟩
/-- The same, as a walk reads it. -/
structure FtP (w : World) (P : Option Addr) (k r : Int) (n : Nat) (A : Option Addr) (c m : Nat) (B : Option Addr) (d : Nat) : Prop where
  ok : P.isSome = true
  nn : P.isNone = false
  c0 : cellOf w P = .int .i64 k
  r0 : rawOk w No P
  c1 : cellOf w (pAdd P 1) = .slice A n c
  r1 : rawOk w No (pAdd P 1)
  c2 : cellOf w (pAdd P 2) = .slice B m d
  r2 : rawOk w No (pAdd P 2)
  c3 : cellOf w (pAdd P 3) = .int .i64 r
  r3 : rawOk w No (pAdd P 3)
theorem FtB.p {w : World} {b : Nat} {k r : Int} {ids : List Int} {row : List UInt32} (h : FtB w b k r ids row) :
    ∃ A c B d, FtP w (some (⟨b, 0, none⟩ : Addr)) k r ids.length A c row.length B d ∧ ids.length ≤ c ∧ RdV w w.heap.size A (ids.map vI64) ∧ row.length ≤ d ∧ RdV w w.heap.size B (row.map vU32) := by
  obtain ⟨A, c, h1, h2, h3⟩ := h.c1
  obtain ⟨B, d, g1, g2, g3⟩ := h.c2
  have e : ∀ i, pAdd (some (⟨b, 0, none⟩ : Addr)) i = some ⟨b, i, none⟩ := fun i => by simp only [pAdd, Option.map_some, add_plain, Nat.zero_add]
  refine ⟨A, c, B, d, ⟨rfl, rfl, (cellOf_plain h.c0).1, (cellOf_plain h.c0).2, ?_, ?_, ?_, ?_, ?_, ?_⟩, h2, h3, g2, g3⟩
  · rw [e]; exact (cellOf_plain h1).1
  · rw [e]; exact (cellOf_plain h1).2
  · rw [e]; exact (cellOf_plain g1).1
  · rw [e]; exact (cellOf_plain g1).2
  · rw [e]; exact (cellOf_plain h.c3).1
  · rw [e]; exact (cellOf_plain h.c3).2
attribute [local irreducible] Callable CallOK CallG CallM DrawG LoopG symR symM
section
variable {k r : Int} {ids : List Int} {row : List UInt32}
set_option maxRecDepth 100000 in
theorem kind_any (b : Nat) (w : World) (h : FtB w b k r ids row) : Calls Tryd.prog 10 #[.pointer (some (⟨b, 0, none⟩ : Addr))] w fun e w' => e = .returned (.int .i64 k) ∧ Below w.heap.size w w' := by
  obtain ⟨A, c, B, d, F, _⟩ := h.p
  generalize (some (⟨b, 0, none⟩ : Addr)) = P at *
  have f0 := F.ok
  have fn := F.nn
  have f1 := F.c0
  have f2 := F.r0
  refine calls_v (n := 9) Tryd.func10 rfl Tryd.ntmps10 [(.x (.a (.v (.pointer P))))] (by simp) (.x (.a (.v (.int .i64 k)))) (fun _ => rfl) ?_
  simp only [f0, fn, f1, f2, pAdd_zero, undef, push_cast, ↓Int.toNat_natCast, ↓Int.cast_ofNat_Int, Int.cast_ofNat_Int, ↓reduceIte, reduceCtorEq, Nat.reduceEqDiff, Nat.reduceLT, Nat.reduceLeDiff, Nat.reduceAdd, Nat.reduceSub, Nat.reduceMul, Int.reduceNeg, Int.reduceLE, Int.reduceLT, Int.reduceToNat, Int.reduceAdd, Int.reduceSub, Int.reduceMul, Int.reduceEq]
set_option maxRecDepth 100000 in
theorem reason_any (b : Nat) (w : World) (h : FtB w b k r ids row) : Calls Tryd.prog 11 #[.pointer (some (⟨b, 0, none⟩ : Addr))] w fun e w' => e = .returned (.int .i64 r) ∧ Below w.heap.size w w' := by
  obtain ⟨A, c, B, d, F, _⟩ := h.p
  generalize (some (⟨b, 0, none⟩ : Addr)) = P at *
  have f0 := F.ok
  have fn := F.nn
  have f1 := F.c3
  have f2 := F.r3
  refine calls_v (n := 9) Tryd.func11 rfl Tryd.ntmps11 [(.x (.a (.v (.pointer P))))] (by simp) (.x (.a (.v (.int .i64 r)))) (fun _ => rfl) ?_
  simp only [f0, fn, f1, f2, pAdd_zero, undef, push_cast, ↓Int.toNat_natCast, ↓Int.cast_ofNat_Int, Int.cast_ofNat_Int, ↓reduceIte, reduceCtorEq, Nat.reduceEqDiff, Nat.reduceLT, Nat.reduceLeDiff, Nat.reduceAdd, Nat.reduceSub, Nat.reduceMul, Int.reduceNeg, Int.reduceLE, Int.reduceLT, Int.reduceToNat, Int.reduceAdd, Int.reduceSub, Int.reduceMul, Int.reduceEq]
set_option maxRecDepth 100000 in
theorem sum_no (b : Nat) (w : World) (hk : ¬ k = 1) (h : FtB w b k r ids row) : Calls Tryd.prog 7 #[.pointer (some (⟨b, 0, none⟩ : Addr))] w fun e w' => e = .returned (.tuple #[.slice none 0 0, .slice none 0 0, .bool false]) ∧ Below w.heap.size w w' := by
  obtain ⟨A, c, B, d, F, _⟩ := h.p
  generalize (some (⟨b, 0, none⟩ : Addr)) = P at *
  have f0 := F.ok
  have fn := F.nn
  have f1 := F.c0
  have f2 := F.r0
  refine calls_v (n := 24) Tryd.func7 rfl Tryd.ntmps7 [(.x (.a (.v (.pointer P))))] (by simp) (.t [.a (.v (.slice none 0 0)), .a (.v (.slice none 0 0)), .a (.v (.bool false))]) (fun _ => rfl) ?_
  simp only [f0, fn, f1, f2, hk, pAdd_zero, undef, push_cast, ↓Int.toNat_natCast, ↓Int.cast_ofNat_Int, Int.cast_ofNat_Int, ↓reduceIte, reduceCtorEq, Nat.reduceEqDiff, Nat.reduceLT, Nat.reduceLeDiff, Nat.reduceAdd, Nat.reduceSub, Nat.reduceMul, Int.reduceNeg, Int.reduceLE, Int.reduceLT, Int.reduceToNat, Int.reduceAdd, Int.reduceSub, Int.reduceMul, Int.reduceEq]
set_option maxRecDepth 100000 in
theorem sum_yes (b : Nat) (w : World) (hl : ids.length ≤ 1000) (hl2 : row.length ≤ 1000) (h : FtB w b 1 r ids row) : Calls Tryd.prog 7 #[.pointer (some (⟨b, 0, none⟩ : Addr))] w fun e w' => ∃ γ1, e = .returned ((Sv.t [.a (.o 0), .a (.o 1), .a (.v (.bool true))]).val γ1) ∧ Sat w No γ1 [.own 3 (.i64 ids), .own 46 (.u32 row)] w' := by
  obtain ⟨A, c, B, d, F, b1, r1, b2, r2⟩ := h.p
  generalize (some (⟨b, 0, none⟩ : Addr)) = P at *
  have f0 := F.ok
  have fn := F.nn
  have f1 := F.c0
  have f2 := F.r0
  have f3 := F.c1
  have f4 := F.r1
  have f5 := F.c2
  have f6 := F.r2
  refine calls_fun (n := 24) Tryd.func7 rfl Tryd.ntmps7 [(.x (.a (.v (.pointer P))))] (Sat.init w No) (by simp) _ _ ?_
  simp (config := { maxSteps := 1000000 }) only [f0, fn, f1, f2, pAdd_zero, undef, push_cast, ↓Int.toNat_natCast, ↓Int.cast_ofNat_Int, Int.cast_ofNat_Int, ↓reduceIte, reduceCtorEq, Nat.reduceEqDiff, Nat.reduceLT, Nat.reduceLeDiff, Nat.reduceAdd, Nat.reduceSub, Nat.reduceMul, Int.reduceNeg, Int.reduceLE, Int.reduceLT, Int.reduceToNat, Int.reduceAdd, Int.reduceSub, Int.reduceMul, Int.reduceEq]
  (repeat (refine And.intro (by first | omega | decide) ?_))
  refine draw_rule [(0, true), (1, true), (2, true), (3, true), (5, true), (6, true), (7, true), (8, true), (4, false), (9, false), (10, true), (11, true), (12, true)] (by kernel_rfl) (by kernel_rfl) rfl (by kernel_rfl) ?_
  simp (config := { maxSteps := 1000000 }) only [f0, fn, f1, f2, f3, f4, f5, f6, pAdd_zero, undef, push_cast, ↓Int.toNat_natCast, ↓Int.cast_ofNat_Int, Int.cast_ofNat_Int, ↓reduceIte, reduceCtorEq, Nat.reduceEqDiff, Nat.reduceLT, Nat.reduceLeDiff, Nat.reduceAdd, Nat.reduceSub, Nat.reduceMul, Int.reduceNeg, Int.reduceLE, Int.reduceLT, Int.reduceToNat, Int.reduceAdd, Int.reduceSub, Int.reduceMul, Int.reduceEq]
  (repeat (refine And.intro (by first | omega | decide) ?_))
  refine callM_x rfl cb25 rfl (cloneIOK (l := ids) hl (shows_raw r1 _ _ (by simp) b1) (by simp only [push_cast, ↓Int.toNat_natCast, ↓Int.cast_ofNat_Int, Int.cast_ofNat_Int, ↓reduceIte, reduceCtorEq, Nat.reduceEqDiff, Nat.reduceLT, Nat.reduceLeDiff, Nat.reduceAdd, Nat.reduceSub, Nat.reduceMul, Int.reduceNeg, Int.reduceLE, Int.reduceLT, Int.reduceToNat, Int.reduceAdd, Int.reduceSub, Int.reduceMul, Int.reduceEq])) (dOk_lt rfl) (by simp only [push_cast, ↓Int.toNat_natCast, ↓Int.cast_ofNat_Int, Int.cast_ofNat_Int, ↓reduceIte, reduceCtorEq, Nat.reduceEqDiff, Nat.reduceLT, Nat.reduceLeDiff, Nat.reduceAdd, Nat.reduceSub, Nat.reduceMul, Int.reduceNeg, Int.reduceLE, Int.reduceLT, Int.reduceToNat, Int.reduceAdd, Int.reduceSub, Int.reduceMul, Int.reduceEq]) ?_
  simp (config := { maxSteps := 1000000 }) only [f0, fn, f1, f2, f3, f4, f5, f6, pAdd_zero, undef, push_cast, ↓Int.toNat_natCast, ↓Int.cast_ofNat_Int, Int.cast_ofNat_Int, ↓reduceIte, reduceCtorEq, Nat.reduceEqDiff, Nat.reduceLT, Nat.reduceLeDiff, Nat.reduceAdd, Nat.reduceSub, Nat.reduceMul, Int.reduceNeg, Int.reduceLE, Int.reduceLT, Int.reduceToNat, Int.reduceAdd, Int.reduceSub, Int.reduceMul, Int.reduceEq]
  (repeat (refine And.intro (by first | omega | decide) ?_))
  refine callM_x rfl cb26 rfl (cloneUOK (l := row) hl2 (shows_raw r2 _ _ (by simp) b2) (by simp only [push_cast, ↓Int.toNat_natCast, ↓Int.cast_ofNat_Int, Int.cast_ofNat_Int, ↓reduceIte, reduceCtorEq, Nat.reduceEqDiff, Nat.reduceLT, Nat.reduceLeDiff, Nat.reduceAdd, Nat.reduceSub, Nat.reduceMul, Int.reduceNeg, Int.reduceLE, Int.reduceLT, Int.reduceToNat, Int.reduceAdd, Int.reduceSub, Int.reduceMul, Int.reduceEq])) (dOk_lt rfl) (by simp only [push_cast, ↓Int.toNat_natCast, ↓Int.cast_ofNat_Int, Int.cast_ofNat_Int, ↓reduceIte, reduceCtorEq, Nat.reduceEqDiff, Nat.reduceLT, Nat.reduceLeDiff, Nat.reduceAdd, Nat.reduceSub, Nat.reduceMul, Int.reduceNeg, Int.reduceLE, Int.reduceLT, Int.reduceToNat, Int.reduceAdd, Int.reduceSub, Int.reduceMul, Int.reduceEq]) ?_
  simp (config := { maxSteps := 1000000 }) only [undef, push_cast, ↓Int.toNat_natCast, ↓Int.cast_ofNat_Int, Int.cast_ofNat_Int, ↓reduceIte, reduceCtorEq, Nat.reduceEqDiff, Nat.reduceLT, Nat.reduceLeDiff, Nat.reduceAdd, Nat.reduceSub, Nat.reduceMul, Int.reduceNeg, Int.reduceLE, Int.reduceLT, Int.reduceToNat, Int.reduceAdd, Int.reduceSub, Int.reduceMul, Int.reduceEq]
  (repeat (refine And.intro (by first | omega | decide) ?_))
  refine endsAs [0, 1] ?_
  simp (config := { maxSteps := 1000000 }) only [push_cast, ↓Int.toNat_natCast, ↓Int.cast_ofNat_Int, Int.cast_ofNat_Int, ↓reduceIte, reduceCtorEq, Nat.reduceEqDiff, Nat.reduceLT, Nat.reduceLeDiff, Nat.reduceAdd, Nat.reduceSub, Nat.reduceMul, Int.reduceNeg, Int.reduceLE, Int.reduceLT, Int.reduceToNat, Int.reduceAdd, Int.reduceSub, Int.reduceMul, Int.reduceEq]
end
end Go.Proofs.YtohnlajccfnecaaDoor
