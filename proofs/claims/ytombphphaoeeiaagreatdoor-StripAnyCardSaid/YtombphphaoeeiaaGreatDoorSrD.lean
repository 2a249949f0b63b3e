import Derived.Test.YtombphphaoeeiaaGreatDoorSrC
import Derived.Test.YtombphphaoeeiaaGreatDoorGy
/- StripAny: in whatever order two groups are told, the same is left. -/
namespace Go.Proofs.YtombphphaoeeiaaGreatDoor
open Go.RowKit
set_option linter.unusedSimpArgs false
set_option linter.unusedVariables false
attribute [local irreducible] Callable CallOK CallG CallM DrawG LoopG symR symM
attribute [local irreducible] rowN rowO Gr.err greatF mclE
set_option maxRecDepth 100000 in
set_option maxHeartbeats 8000000 in
theorem stripAny_any (l : List RfG) (A : Option Addr) (c : Nat) (row : List UInt32) (w : World) (hrow : row.length = 2) (hc : l.length ≤ c) (hR : RdV w w.heap.size A (rfVs l)) (hok : ∀ g ∈ l, g.Ok w) (hk : LaidK 1 w) (hg : Handle w) :
    Calls Tryz.prog 3 (List.map (Sv.val []) [.x (.a (.v (.slice A l.length c))), .x (.a32 row)]).toArray w fun e w' => e = .returned (.bool true) ∧ Below w.heap.size w w' := by
  refine calls_v (n := 94) Tryz.func3 rfl Tryz.ntmps3 [.x (.a (.v (.slice A l.length c))), .x (.a32 row)] (by simp) (.x (.a (.v (.bool true)))) (fun _ => rfl) ?_
  simp (config := { maxSteps := 1000000 }) only [push_cast, ↓reduceIte, reduceCtorEq, Nat.reduceLT]
  (repeat (refine And.intro (by first | omega | decide) ?_))
  refine callG_v rfl cb4 rfl (great32K hR hok) (dOk_lt rfl) ?_
  cases hgr : greatF l
  · by_cases h2 : (l.length : Int) = 2
    · obtain ⟨_, hfew⟩ := great_few hgr
      obtain ⟨r1, r2, rfl⟩ : ∃ r1 r2, l = [r1, r2] := by
        match l, (by omega : l.length = 2) with
        | [a, b], _ => exact ⟨a, b, rfl⟩
      have F := FRf.of hR
      have l0 : 0 < [r1, r2].length := Nat.zero_lt_succ _
      have l1 : 1 < [r1, r2].length := Nat.succ_lt_succ (Nat.zero_lt_succ _)
      have c0 : cellOf w (pAdd A 0) = .slice r1.pA r1.ps.length r1.pc := F.c0 0 l0
      have c1 : cellOf w (pAdd A 1) = .slice r1.cA r1.cm.length r1.cc := F.c1 0 l0
      have c2 : cellOf w (pAdd A 2) = .int .i64 r1.nd := F.c2 0 l0
      have c3 : cellOf w (pAdd A 3) = .slice r1.gA r1.gs.length r1.gc := F.c3 0 l0
      have c4 : cellOf w (pAdd A 4) = .slice r2.pA r2.ps.length r2.pc := F.c0 1 l1
      have c5 : cellOf w (pAdd A 5) = .slice r2.cA r2.cm.length r2.cc := F.c1 1 l1
      have c6 : cellOf w (pAdd A 6) = .int .i64 r2.nd := F.c2 1 l1
      have c7 : cellOf w (pAdd A 7) = .slice r2.gA r2.gs.length r2.gc := F.c3 1 l1
      have o0 : rawOk w No (pAdd A 0) := F.o0 0 l0
      have o1 : rawOk w No (pAdd A 1) := F.o1 0 l0
      have o2 : rawOk w No (pAdd A 2) := F.o2 0 l0
      have o3 : rawOk w No (pAdd A 3) := F.o3 0 l0
      have o4 : rawOk w No (pAdd A 4) := F.o0 1 l1
      have o5 : rawOk w No (pAdd A 5) := F.o1 1 l1
      have o6 : rawOk w No (pAdd A 6) := F.o2 1 l1
      have o7 : rawOk w No (pAdd A 7) := F.o3 1 l1
      have hA := F.some_ l0
      rw [pAdd_zero] at c0 o0
      have k1 := hok r1 (by simp)
      have k2 := hok r2 (by simp)
      have w1 := hfew r1 (by simp)
      have w2 := hfew r2 (by simp)
      have h2' := eq_true h2
      clear F
      simp (config := { maxSteps := 1000000 }) only [not_true_eq_false, decide_false, Bool.false_eq_true, push_cast, ↓Int.cast_ofNat_Int, Int.cast_ofNat_Int, ↓reduceIte, reduceCtorEq, Nat.reduceEqDiff, Nat.reduceLT, Nat.reduceAdd]
      (repeat (refine And.intro (by first | omega | decide) ?_))
      refine drawVX_rule (ι := (Grp × List Fct) × (Grp × List Fct)) (fun i => GivOk i.1.2 i.1.1 ∧ GivOk i.2.2 i.2.1) 1 [] 10 (.rd 0 (.rd 1 (.rd 2 (.rd 4 (.rd 5 (.rd 6 (.f3 3 (.f3 7 (.fk 8 (.wr 9 .nil) 9 (.wr 8 .nil)) 8 (.fk 7 (.wr 9 .nil) 9 (.wr 7 .nil)) 9 (.fk 7 (.wr 8 .nil) 8 (.wr 7 .nil))) 8 (.fk 3 (.fk 7 (.wr 9 .nil) 9 (.wr 7 .nil)) 9 (.wr 3 (.wr 7 .nil))) 9 (.fk 3 (.fk 7 (.wr 8 .nil) 8 (.wr 7 .nil)) 8 (.wr 3 (.wr 7 .nil)))))))))) (fun i => ⟨[(3, .x (.a (.p 0 0))), (28, .x (.g [.v (.slice i.1.1.pA i.1.1.ps.length i.1.1.pc), .v (.slice i.1.1.cA i.1.1.cm.length i.1.1.cc), .v (.int .i64 i.1.1.nd), .o 1])), (32, .x (.g [.v (.slice i.2.1.pA i.2.1.ps.length i.2.1.pc), .v (.slice i.2.1.cA i.2.1.cm.length i.2.1.cc), .v (.int .i64 i.2.1.nd), .o 3])), (5, .x (.a (.p 5 0))), (6, .x (.a (.p 6 0)))], [.blk 24 (.u32 row), .mp .i64 (mclE i.1.1.gv), .abs (fctRep i.1.2), .mp .i64 (mclE i.2.1.gv), .abs (fctRep i.2.2), .blk 31 (.c [.v (.slice none 0 0), .v (.slice none 0 0), .v (.int .i64 0), .v (.map none)]), .blk 31 (.c [.v (.slice none 0 0), .v (.slice none 0 0), .v (.int .i64 0), .v (.map none)])]⟩) (by kernel_rfl) (by kernel_rfl) (by show 1 ≤ 1; omega) ?_ ?_
      · simp (config := { maxSteps := 1000000 }) only [hA, c0, c1, c2, c3, c4, c5, c6, c7, o0, o1, o2, o3, o4, o5, o6, o7, pAdd_zero, pAdd_add, pAdd_isSome, push_cast, ↓Int.cast_ofNat_Int, Int.cast_ofNat_Int, ↓reduceIte, reduceCtorEq, Nat.reduceLT, Nat.reduceAdd, Nat.reduceSub, Nat.reduceMul, Int.reduceLE, Int.reduceLT, Int.reduceToNat]
        (repeat (refine And.intro (by first | omega | decide) ?_))
        refine ⟨?_, ?_, ?_⟩
        · refine callQ_ex (fun x => GivOk x.2 x.1) (fun x : Grp × List Fct => grSv 1 x.1) (fun x => [.mp .i64 (mclE x.1.gv), .abs (fctRep x.2)]) rfl cb6 rfl (giveGC (sv := .x (.g r1.cells)) (fun _ => rfl) k1 w1 (by simp (config := { maxSteps := 1000000 }) only [push_cast])) (dOk_lt rfl) (by simp (config := { maxSteps := 1000000 }) only [push_cast, Nat.reduceLT]) (fun _ => rfl) ?_
          intro x hx
          simp (config := { maxSteps := 1000000 }) only [grSv, mclE_bnd, push_cast, ↓reduceIte, Nat.reduceLT, Nat.reduceAdd]
          refine ⟨?_, ?_, ?_⟩
          · refine callQ_ex (fun x => GivOk x.2 x.1) (fun x : Grp × List Fct => grSv 3 x.1) (fun x => [.mp .i64 (mclE x.1.gv), .abs (fctRep x.2)]) rfl cb6 rfl (giveGC (sv := .x (.g r2.cells)) (fun _ => rfl) k2 w2 (by simp (config := { maxSteps := 1000000 }) only [mclE_bnd, push_cast, Nat.reduceAdd])) (dOk_lt rfl) (by simp (config := { maxSteps := 1000000 }) only [mclE_bnd, push_cast, Nat.reduceLT, Nat.reduceAdd]) (fun _ => rfl) ?_
            intro y hy
            simp (config := { maxSteps := 1000000 }) only [grSv, mclE_bnd, push_cast, ↓reduceIte, Nat.reduceLT, Nat.reduceAdd]
            refine ⟨?_, ?_⟩
            · refine ⟨(x, y), ⟨hx, hy⟩, leads_le [0, 1, 2, 3, 4, 5, 6] ?_⟩
              simp (config := { maxSteps := 1000000 }) only [mclE_bnd, mclE_ren, push_cast, ↓reduceIte, reduceCtorEq, Nat.reduceEqDiff, Nat.reduceLT, Nat.reduceAdd]
            · refine ⟨(x, y), ⟨hx, hy⟩, leads_le [0, 1, 2, 3, 4, 6, 5] ?_⟩
              simp (config := { maxSteps := 1000000 }) only [mclE_bnd, mclE_ren, push_cast, ↓reduceIte, reduceCtorEq, Nat.reduceEqDiff, Nat.reduceLT, Nat.reduceAdd]
          · refine ⟨?_, ?_⟩
            · refine callQ_ex (fun x => GivOk x.2 x.1) (fun x : Grp × List Fct => grSv 4 x.1) (fun x => [.mp .i64 (mclE x.1.gv), .abs (fctRep x.2)]) rfl cb6 rfl (giveGC (sv := .x (.g r2.cells)) (fun _ => rfl) k2 w2 (by simp (config := { maxSteps := 1000000 }) only [mclE_bnd, push_cast, Nat.reduceAdd])) (dOk_lt rfl) (by simp (config := { maxSteps := 1000000 }) only [mclE_bnd, push_cast, Nat.reduceLT, Nat.reduceAdd]) (fun _ => rfl) ?_
              intro y hy
              simp (config := { maxSteps := 1000000 }) only [grSv, mclE_bnd, push_cast, ↓reduceIte, Nat.reduceLT, Nat.reduceAdd]
              refine ⟨(x, y), ⟨hx, hy⟩, leads_le [0, 1, 2, 4, 5, 3, 6] ?_⟩
              simp (config := { maxSteps := 1000000 }) only [mclE_bnd, mclE_ren, push_cast, ↓reduceIte, reduceCtorEq, Nat.reduceEqDiff, Nat.reduceLT, Nat.reduceAdd]
            · refine callQ_ex (fun x => GivOk x.2 x.1) (fun x : Grp × List Fct => grSv 5 x.1) (fun x => [.mp .i64 (mclE x.1.gv), .abs (fctRep x.2)]) rfl cb6 rfl (giveGC (sv := .x (.g r2.cells)) (fun _ => rfl) k2 w2 (by simp (config := { maxSteps := 1000000 }) only [mclE_bnd, push_cast, Nat.reduceAdd])) (dOk_lt rfl) (by simp (config := { maxSteps := 1000000 }) only [mclE_bnd, push_cast, Nat.reduceLT, Nat.reduceAdd]) (fun _ => rfl) ?_
              intro y hy
              simp (config := { maxSteps := 1000000 }) only [grSv, push_cast]
              refine ⟨(x, y), ⟨hx, hy⟩, leads_le [0, 1, 2, 5, 6, 3, 4] ?_⟩
              simp (config := { maxSteps := 1000000 }) only [mclE_bnd, mclE_ren, push_cast, ↓reduceIte, reduceCtorEq, Nat.reduceEqDiff, Nat.reduceLT, Nat.reduceAdd]
          · refine ⟨?_, ?_⟩
            · refine callQ_ex (fun x => GivOk x.2 x.1) (fun x : Grp × List Fct => grSv 4 x.1) (fun x => [.mp .i64 (mclE x.1.gv), .abs (fctRep x.2)]) rfl cb6 rfl (giveGC (sv := .x (.g r2.cells)) (fun _ => rfl) k2 w2 (by simp (config := { maxSteps := 1000000 }) only [mclE_bnd, push_cast, Nat.reduceAdd])) (dOk_lt rfl) (by simp (config := { maxSteps := 1000000 }) only [mclE_bnd, push_cast, Nat.reduceLT, Nat.reduceAdd]) (fun _ => rfl) ?_
              intro y hy
              simp (config := { maxSteps := 1000000 }) only [grSv, mclE_bnd, push_cast, ↓reduceIte, Nat.reduceLT, Nat.reduceAdd]
              refine ⟨(x, y), ⟨hx, hy⟩, leads_le [0, 1, 2, 4, 5, 6, 3] ?_⟩
              simp (config := { maxSteps := 1000000 }) only [mclE_bnd, mclE_ren, push_cast, ↓reduceIte, reduceCtorEq, Nat.reduceEqDiff, Nat.reduceLT, Nat.reduceAdd]
            · refine callQ_ex (fun x => GivOk x.2 x.1) (fun x : Grp × List Fct => grSv 5 x.1) (fun x => [.mp .i64 (mclE x.1.gv), .abs (fctRep x.2)]) rfl cb6 rfl (giveGC (sv := .x (.g r2.cells)) (fun _ => rfl) k2 w2 (by simp (config := { maxSteps := 1000000 }) only [mclE_bnd, push_cast, Nat.reduceAdd])) (dOk_lt rfl) (by simp (config := { maxSteps := 1000000 }) only [mclE_bnd, push_cast, Nat.reduceLT, Nat.reduceAdd]) (fun _ => rfl) ?_
              intro y hy
              simp (config := { maxSteps := 1000000 }) only [grSv, push_cast]
              refine ⟨(x, y), ⟨hx, hy⟩, leads_le [0, 1, 2, 5, 6, 4, 3] ?_⟩
              simp (config := { maxSteps := 1000000 }) only [mclE_bnd, mclE_ren, push_cast, ↓reduceIte, reduceCtorEq, Nat.reduceEqDiff, Nat.reduceLT, Nat.reduceAdd]
        · refine ⟨?_, ?_⟩
          · refine callQ_ex (fun x => GivOk x.2 x.1) (fun x : Grp × List Fct => grSv 2 x.1) (fun x => [.mp .i64 (mclE x.1.gv), .abs (fctRep x.2)]) rfl cb6 rfl (giveGC (sv := .x (.g r1.cells)) (fun _ => rfl) k1 w1 (by simp (config := { maxSteps := 1000000 }) only [push_cast, Nat.reduceAdd])) (dOk_lt rfl) (by simp (config := { maxSteps := 1000000 }) only [push_cast, Nat.reduceLT, Nat.reduceAdd]) (fun _ => rfl) ?_
            intro x hx
            simp (config := { maxSteps := 1000000 }) only [grSv, mclE_bnd, push_cast, ↓reduceIte, Nat.reduceLT, Nat.reduceAdd]
            refine ⟨?_, ?_⟩
            · refine callQ_ex (fun x => GivOk x.2 x.1) (fun x : Grp × List Fct => grSv 4 x.1) (fun x => [.mp .i64 (mclE x.1.gv), .abs (fctRep x.2)]) rfl cb6 rfl (giveGC (sv := .x (.g r2.cells)) (fun _ => rfl) k2 w2 (by simp (config := { maxSteps := 1000000 }) only [mclE_bnd, push_cast, Nat.reduceAdd])) (dOk_lt rfl) (by simp (config := { maxSteps := 1000000 }) only [mclE_bnd, push_cast, Nat.reduceLT, Nat.reduceAdd]) (fun _ => rfl) ?_
              intro y hy
              simp (config := { maxSteps := 1000000 }) only [grSv, mclE_bnd, push_cast, ↓reduceIte, Nat.reduceLT, Nat.reduceAdd]
              refine ⟨(x, y), ⟨hx, hy⟩, leads_le [0, 2, 3, 4, 5, 1, 6] ?_⟩
              simp (config := { maxSteps := 1000000 }) only [mclE_bnd, mclE_ren, push_cast, ↓reduceIte, reduceCtorEq, Nat.reduceEqDiff, Nat.reduceLT, Nat.reduceAdd]
            · refine callQ_ex (fun x => GivOk x.2 x.1) (fun x : Grp × List Fct => grSv 5 x.1) (fun x => [.mp .i64 (mclE x.1.gv), .abs (fctRep x.2)]) rfl cb6 rfl (giveGC (sv := .x (.g r2.cells)) (fun _ => rfl) k2 w2 (by simp (config := { maxSteps := 1000000 }) only [mclE_bnd, push_cast, Nat.reduceAdd])) (dOk_lt rfl) (by simp (config := { maxSteps := 1000000 }) only [mclE_bnd, push_cast, Nat.reduceLT, Nat.reduceAdd]) (fun _ => rfl) ?_
              intro y hy
              simp (config := { maxSteps := 1000000 }) only [grSv, push_cast]
              refine ⟨(x, y), ⟨hx, hy⟩, leads_le [0, 2, 3, 5, 6, 1, 4] ?_⟩
              simp (config := { maxSteps := 1000000 }) only [mclE_bnd, mclE_ren, push_cast, ↓reduceIte, reduceCtorEq, Nat.reduceEqDiff, Nat.reduceLT, Nat.reduceAdd]
          · refine callQ_ex (fun x => GivOk x.2 x.1) (fun x : Grp × List Fct => grSv 3 x.1) (fun x => [.mp .i64 (mclE x.1.gv), .abs (fctRep x.2)]) rfl cb6 rfl (giveGC (sv := .x (.g r1.cells)) (fun _ => rfl) k1 w1 (by simp (config := { maxSteps := 1000000 }) only [push_cast, Nat.reduceAdd])) (dOk_lt rfl) (by simp (config := { maxSteps := 1000000 }) only [push_cast, Nat.reduceLT, Nat.reduceAdd]) (fun _ => rfl) ?_
            intro x hx
            simp (config := { maxSteps := 1000000 }) only [grSv, push_cast, ↓reduceIte]
            refine callQ_ex (fun x => GivOk x.2 x.1) (fun x : Grp × List Fct => grSv 5 x.1) (fun x => [.mp .i64 (mclE x.1.gv), .abs (fctRep x.2)]) rfl cb6 rfl (giveGC (sv := .x (.g r2.cells)) (fun _ => rfl) k2 w2 (by simp (config := { maxSteps := 1000000 }) only [mclE_bnd, push_cast, Nat.reduceAdd])) (dOk_lt rfl) (by simp (config := { maxSteps := 1000000 }) only [mclE_bnd, push_cast, Nat.reduceLT, Nat.reduceAdd]) (fun _ => rfl) ?_
            intro y hy
            simp (config := { maxSteps := 1000000 }) only [grSv, push_cast]
            refine ⟨(x, y), ⟨hx, hy⟩, leads_le [0, 3, 4, 5, 6, 1, 2] ?_⟩
            simp (config := { maxSteps := 1000000 }) only [mclE_bnd, mclE_ren, push_cast, ↓reduceIte, reduceCtorEq, Nat.reduceEqDiff, Nat.reduceLT, Nat.reduceAdd]
        · refine ⟨?_, ?_⟩
          · refine callQ_ex (fun x => GivOk x.2 x.1) (fun x : Grp × List Fct => grSv 2 x.1) (fun x => [.mp .i64 (mclE x.1.gv), .abs (fctRep x.2)]) rfl cb6 rfl (giveGC (sv := .x (.g r1.cells)) (fun _ => rfl) k1 w1 (by simp (config := { maxSteps := 1000000 }) only [push_cast, Nat.reduceAdd])) (dOk_lt rfl) (by simp (config := { maxSteps := 1000000 }) only [push_cast, Nat.reduceLT, Nat.reduceAdd]) (fun _ => rfl) ?_
            intro x hx
            simp (config := { maxSteps := 1000000 }) only [grSv, mclE_bnd, push_cast, ↓reduceIte, Nat.reduceLT, Nat.reduceAdd]
            refine ⟨?_, ?_⟩
            · refine callQ_ex (fun x => GivOk x.2 x.1) (fun x : Grp × List Fct => grSv 4 x.1) (fun x => [.mp .i64 (mclE x.1.gv), .abs (fctRep x.2)]) rfl cb6 rfl (giveGC (sv := .x (.g r2.cells)) (fun _ => rfl) k2 w2 (by simp (config := { maxSteps := 1000000 }) only [mclE_bnd, push_cast, Nat.reduceAdd])) (dOk_lt rfl) (by simp (config := { maxSteps := 1000000 }) only [mclE_bnd, push_cast, Nat.reduceLT, Nat.reduceAdd]) (fun _ => rfl) ?_
              intro y hy
              simp (config := { maxSteps := 1000000 }) only [grSv, mclE_bnd, push_cast, ↓reduceIte, Nat.reduceLT, Nat.reduceAdd]
              refine ⟨(x, y), ⟨hx, hy⟩, leads_le [0, 2, 3, 4, 5, 6, 1] ?_⟩
              simp (config := { maxSteps := 1000000 }) only [mclE_bnd, mclE_ren, push_cast, ↓reduceIte, reduceCtorEq, Nat.reduceEqDiff, Nat.reduceLT, Nat.reduceAdd]
            · refine callQ_ex (fun x => GivOk x.2 x.1) (fun x : Grp × List Fct => grSv 5 x.1) (fun x => [.mp .i64 (mclE x.1.gv), .abs (fctRep x.2)]) rfl cb6 rfl (giveGC (sv := .x (.g r2.cells)) (fun _ => rfl) k2 w2 (by simp (config := { maxSteps := 1000000 }) only [mclE_bnd, push_cast, Nat.reduceAdd])) (dOk_lt rfl) (by simp (config := { maxSteps := 1000000 }) only [mclE_bnd, push_cast, Nat.reduceLT, Nat.reduceAdd]) (fun _ => rfl) ?_
              intro y hy
              simp (config := { maxSteps := 1000000 }) only [grSv, push_cast]
              refine ⟨(x, y), ⟨hx, hy⟩, leads_le [0, 2, 3, 5, 6, 4, 1] ?_⟩
              simp (config := { maxSteps := 1000000 }) only [mclE_bnd, mclE_ren, push_cast, ↓reduceIte, reduceCtorEq, Nat.reduceEqDiff, Nat.reduceLT, Nat.reduceAdd]
          · refine callQ_ex (fun x => GivOk x.2 x.1) (fun x : Grp × List Fct => grSv 3 x.1) (fun x => [.mp .i64 (mclE x.1.gv), .abs (fctRep x.2)]) rfl cb6 rfl (giveGC (sv := .x (.g r1.cells)) (fun _ => rfl) k1 w1 (by simp (config := { maxSteps := 1000000 }) only [push_cast, Nat.reduceAdd])) (dOk_lt rfl) (by simp (config := { maxSteps := 1000000 }) only [push_cast, Nat.reduceLT, Nat.reduceAdd]) (fun _ => rfl) ?_
            intro x hx
            simp (config := { maxSteps := 1000000 }) only [grSv, push_cast, ↓reduceIte]
            refine callQ_ex (fun x => GivOk x.2 x.1) (fun x : Grp × List Fct => grSv 5 x.1) (fun x => [.mp .i64 (mclE x.1.gv), .abs (fctRep x.2)]) rfl cb6 rfl (giveGC (sv := .x (.g r2.cells)) (fun _ => rfl) k2 w2 (by simp (config := { maxSteps := 1000000 }) only [mclE_bnd, push_cast, Nat.reduceAdd])) (dOk_lt rfl) (by simp (config := { maxSteps := 1000000 }) only [mclE_bnd, push_cast, Nat.reduceLT, Nat.reduceAdd]) (fun _ => rfl) ?_
            intro y hy
            simp (config := { maxSteps := 1000000 }) only [grSv, push_cast]
            refine ⟨(x, y), ⟨hx, hy⟩, leads_le [0, 3, 4, 5, 6, 2, 1] ?_⟩
            simp (config := { maxSteps := 1000000 }) only [mclE_bnd, mclE_ren, push_cast, ↓reduceIte, reduceCtorEq, Nat.reduceEqDiff, Nat.reduceLT, Nat.reduceAdd]
      · rintro ⟨⟨G1, F1⟩, ⟨G2, F2⟩⟩ ⟨v1, v2⟩
        dsimp only at v1 v2 ⊢
        simp (config := { maxSteps := 1000000 }) only [undef, push_cast, ↓reduceIte, Nat.reduceEqDiff, Nat.reduceLT, Nat.reduceAdd]
        (repeat (refine And.intro (by first | omega | decide) ?_))
        have e1 := fun γ : List Nm => (rfl : (Cont.u32 row).vals γ = row.map vU32)
        refine draw_rule [(0, true), (1, true), (3, true), (2, false), (4, false), (5, true), (6, true), (7, true), (8, true), (9, true)] (by kernel_rfl) (by kernel_rfl) rfl (by kernel_rfl) ?_
        simp (config := { maxSteps := 1000000 }) only [mclE_bnd, push_cast, ↓Int.cast_ofNat_Int, Int.cast_ofNat_Int, ↓reduceIte, Nat.reduceEqDiff, Nat.reduceLT, Nat.reduceLeDiff, Nat.reduceAdd, Nat.reduceSub, Nat.reduceMul, Int.reduceLE, Int.reduceLT, Int.reduceToNat]
        (repeat (refine And.intro (by first | omega | decide) ?_))
        refine callM_x rfl cb7 rfl (row32K (l := [G1.gr, G2.gr]) (row := row) (by omega) (showsGs_two (cs := [.v (.slice G1.pA G1.ps.length G1.pc), .v (.slice G1.cA G1.cm.length G1.cc), .v (.int .i64 G1.nd), .o 1]) (ds := [.v (.slice G2.pA G2.ps.length G2.pc), .v (.slice G2.cA G2.cm.length G2.cc), .v (.int .i64 G2.nd), .o 3]) rfl (showsG_own (kf := 2) v1 rfl rfl) (showsG_own (kf := 4) v2 rfl rfl)) (shows_blk_all (vs := row.map vU32) rfl (fun _ => rfl) 2 2 (by rw [List.length_map, hrow]) (by decide)) hk (by simp (config := { maxSteps := 1000000 }) only [mclE_bnd, push_cast, Nat.reduceLT, Nat.reduceAdd])) (dOk_lt rfl) (by simp (config := { maxSteps := 1000000 }) only [mclE_bnd, push_cast, Nat.reduceLT, Nat.reduceAdd]) ?_
        simp (config := { maxSteps := 1000000 }) only [push_cast, ↓reduceIte, Nat.reduceEqDiff, Nat.reduceLT, Nat.reduceAdd]
        (repeat (refine And.intro (by first | omega | decide) ?_))
        refine draw_rule [(0, true), (1, true), (3, true), (2, false), (4, false), (5, true), (6, true), (7, true), (8, true), (9, true)] (by kernel_rfl) (by kernel_rfl) rfl (by kernel_rfl) ?_
        simp (config := { maxSteps := 1000000 }) only [mclE_bnd, push_cast, ↓Int.cast_ofNat_Int, Int.cast_ofNat_Int, ↓reduceIte, Nat.reduceEqDiff, Nat.reduceLT, Nat.reduceLeDiff, Nat.reduceAdd, Nat.reduceSub, Nat.reduceMul, Int.reduceLE, Int.reduceLT, Int.reduceToNat]
        (repeat (refine And.intro (by first | omega | decide) ?_))
        refine callM_x rfl cb7 rfl (row32K (l := [G2.gr, G1.gr]) (row := row) (by omega) (showsGs_two (cs := [.v (.slice G2.pA G2.ps.length G2.pc), .v (.slice G2.cA G2.cm.length G2.cc), .v (.int .i64 G2.nd), .o 3]) (ds := [.v (.slice G1.pA G1.ps.length G1.pc), .v (.slice G1.cA G1.cm.length G1.cc), .v (.int .i64 G1.nd), .o 1]) rfl (showsG_own (kf := 4) v2 rfl rfl) (showsG_own (kf := 2) v1 rfl rfl)) (shows_blk_all (vs := row.map vU32) rfl (fun _ => rfl) 2 2 (by rw [List.length_map, hrow]) (by decide)) hk (by simp (config := { maxSteps := 1000000 }) only [mclE_bnd, push_cast, Nat.reduceLT, Nat.reduceAdd])) (dOk_lt rfl) (by simp (config := { maxSteps := 1000000 }) only [mclE_bnd, push_cast, Nat.reduceLT, Nat.reduceAdd]) ?_
        simp (config := { maxSteps := 1000000 }) only [push_cast, ↓reduceIte, Nat.reduceEqDiff, Nat.reduceLT, Nat.reduceAdd]
        (repeat (refine And.intro (by first | omega | decide) ?_))
        have bs1 := fun n => G1.gr.sd_bnd n G1.gr.ps.length
        have bk1 := fun n => G1.gr.ky_bnd n G1.gr.ps.length
        have bs2 := fun n => G2.gr.sd_bnd n G2.gr.ps.length
        have bk2 := fun n => G2.gr.ky_bnd n G2.gr.ps.length
        obtain ⟨sw1, sw2⟩ := row_swap G1.gr G2.gr row
        by_cases h : rowN [G1.gr, G2.gr] row = 0
        · obtain ⟨ro, x1, x2⟩ := sw2 h
          have h' := sw1.1 h
          have ez : erV 0 = .nilIface := rfl
          have hz : rowN [G1.gr, G2.gr] row = 0 := h
          have hz' : rowN [G2.gr, G1.gr] row = 0 := h'
          have rl : (rowO [G2.gr, G1.gr] row).length ≤ 100000 := by rw [rowO_yes h', rwTo_len]; omega
          rw [ro]
          refine callG_rule rfl cb8 rfl (secretsYes (g := G1.gr) (showsG_own (kf := 2) v1 rfl rfl) x1 (by simp (config := { maxSteps := 1000000 }) only [mclE_bnd, push_cast, Nat.reduceLT, Nat.reduceAdd])) (dOk_lt rfl) (fun _ => (by simp (config := { maxSteps := 1000000 }) only [mclE_bnd, push_cast, Nat.reduceLT, Nat.reduceAdd])) ?_
          simp (config := { maxSteps := 1000000 }) only [List.nil_append, List.cons_append, push_cast, ↓reduceIte, Nat.reduceEqDiff, Nat.reduceLT, Nat.reduceAdd]
          (repeat (refine And.intro (by first | omega | decide) ?_))
          refine callG_rule rfl cb8 rfl (secretsYes (g := G2.gr) (showsG_own (kf := 4) v2 rfl rfl) x2 (by simp (config := { maxSteps := 1000000 }) only [mclE_bnd, bs1, bk1, push_cast, Nat.reduceLT, Nat.reduceAdd])) (dOk_lt rfl) (fun _ => (by simp (config := { maxSteps := 1000000 }) only [mclE_bnd, bs1, bk1, push_cast, Nat.reduceLT, Nat.reduceAdd])) ?_
          simp (config := { maxSteps := 1000000 }) only [List.nil_append, List.cons_append, ez, hz, hz', push_cast, ↓reduceIte, Nat.reduceEqDiff, Nat.reduceLT, Nat.reduceAdd]
          (repeat (refine And.intro (by first | omega | decide) ?_))
          refine callG_v rfl cb9 rfl (same32OK (a := rowO [G2.gr, G1.gr] row) (b := rowO [G2.gr, G1.gr] row) rl (shows_own rfl fun _ => rfl) (shows_own rfl fun _ => rfl)) (dOk_lt rfl) ?_
          simp (config := { maxSteps := 1000000 }) only [decide_true, push_cast, ↓reduceIte, Nat.reduceEqDiff, Nat.reduceLT, Nat.reduceAdd]
          (repeat (refine And.intro (by first | omega | decide) ?_))
          refine callG_v rfl cb5 rfl (sure32K hk hg) (dOk_lt rfl) ?_
          simp (config := { maxSteps := 1000000 }) only [push_cast, ↓reduceIte, Nat.reduceEqDiff, Nat.reduceLT, Nat.reduceAdd]
        · have h' : ¬ rowN [G2.gr, G1.gr] row = 0 := fun x => h (sw1.2 x)
          have r0 := rowO_no h
          have r0' := rowO_no h'
          have ez := erV_ne h
          have hz := erV_ne h'
          have hz' := hz
          rw [r0, r0']
          by_cases x1 : G1.gr.err = 0
          · refine callG_rule rfl cb8 rfl (secretsYes (g := G1.gr) (showsG_own (kf := 2) v1 rfl rfl) x1 (by simp (config := { maxSteps := 1000000 }) only [mclE_bnd, push_cast, Nat.reduceLT, Nat.reduceAdd])) (dOk_lt rfl) (fun _ => (by simp (config := { maxSteps := 1000000 }) only [mclE_bnd, push_cast, Nat.reduceLT, Nat.reduceAdd])) ?_
            simp (config := { maxSteps := 1000000 }) only [List.nil_append, List.cons_append, push_cast, ↓reduceIte, Nat.reduceEqDiff, Nat.reduceLT, Nat.reduceAdd]
            (repeat (refine And.intro (by first | omega | decide) ?_))
            by_cases x2 : G2.gr.err = 0
            · refine callG_rule rfl cb8 rfl (secretsYes (g := G2.gr) (showsG_own (kf := 4) v2 rfl rfl) x2 (by simp (config := { maxSteps := 1000000 }) only [mclE_bnd, bs1, bk1, push_cast, Nat.reduceLT, Nat.reduceAdd])) (dOk_lt rfl) (fun _ => (by simp (config := { maxSteps := 1000000 }) only [mclE_bnd, bs1, bk1, push_cast, Nat.reduceLT, Nat.reduceAdd])) ?_
              simp (config := { maxSteps := 1000000 }) only [List.nil_append, List.cons_append, decide_true, ez, hz, push_cast, ↓Int.cast_ofNat_Int, Int.cast_ofNat_Int, ↓reduceIte, Nat.reduceEqDiff, Nat.reduceLT, Nat.reduceAdd, Int.reduceNeg, Int.reduceLE, Int.reduceAdd]
              (repeat (refine And.intro (by first | omega | decide) ?_))
              refine callG_v rfl cb5 rfl (sure32K hk hg) (dOk_lt rfl) ?_
              simp (config := { maxSteps := 1000000 }) only [push_cast, ↓reduceIte, Nat.reduceEqDiff, Nat.reduceLT, Nat.reduceAdd]
            · refine callG_v rfl cb8 rfl (secretsNo (g := G2.gr) (showsG_own (kf := 4) v2 rfl rfl) x2) (dOk_lt rfl) ?_
              simp (config := { maxSteps := 1000000 }) only [decide_true, ez, hz, push_cast, ↓Int.cast_ofNat_Int, Int.cast_ofNat_Int, ↓reduceIte, Nat.reduceEqDiff, Nat.reduceLT, Nat.reduceAdd, Int.reduceNeg, Int.reduceLE, Int.reduceAdd]
              (repeat (refine And.intro (by first | omega | decide) ?_))
              refine callG_v rfl cb5 rfl (sure32K hk hg) (dOk_lt rfl) ?_
              simp (config := { maxSteps := 1000000 }) only [push_cast, ↓reduceIte, Nat.reduceEqDiff, Nat.reduceLT, Nat.reduceAdd]
          · refine callG_v rfl cb8 rfl (secretsNo (g := G1.gr) (showsG_own (kf := 2) v1 rfl rfl) x1) (dOk_lt rfl) ?_
            simp (config := { maxSteps := 1000000 }) only [push_cast, ↓reduceIte, Nat.reduceEqDiff, Nat.reduceLT, Nat.reduceAdd]
            (repeat (refine And.intro (by first | omega | decide) ?_))
            by_cases x2 : G2.gr.err = 0
            · refine callG_rule rfl cb8 rfl (secretsYes (g := G2.gr) (showsG_own (kf := 4) v2 rfl rfl) x2 (by simp (config := { maxSteps := 1000000 }) only [mclE_bnd, push_cast, Nat.reduceLT, Nat.reduceAdd])) (dOk_lt rfl) (fun _ => (by simp (config := { maxSteps := 1000000 }) only [mclE_bnd, push_cast, Nat.reduceLT, Nat.reduceAdd])) ?_
              simp (config := { maxSteps := 1000000 }) only [List.nil_append, List.cons_append, decide_true, ez, hz, push_cast, ↓Int.cast_ofNat_Int, Int.cast_ofNat_Int, ↓reduceIte, Nat.reduceEqDiff, Nat.reduceLT, Nat.reduceAdd, Int.reduceNeg, Int.reduceLE, Int.reduceAdd]
              (repeat (refine And.intro (by first | omega | decide) ?_))
              refine callG_v rfl cb5 rfl (sure32K hk hg) (dOk_lt rfl) ?_
              simp (config := { maxSteps := 1000000 }) only [push_cast, ↓reduceIte, Nat.reduceEqDiff, Nat.reduceLT, Nat.reduceAdd]
            · refine callG_v rfl cb8 rfl (secretsNo (g := G2.gr) (showsG_own (kf := 4) v2 rfl rfl) x2) (dOk_lt rfl) ?_
              simp (config := { maxSteps := 1000000 }) only [decide_true, ez, hz, push_cast, ↓Int.cast_ofNat_Int, Int.cast_ofNat_Int, ↓reduceIte, Nat.reduceEqDiff, Nat.reduceLT, Nat.reduceAdd, Int.reduceNeg, Int.reduceLE, Int.reduceAdd]
              (repeat (refine And.intro (by first | omega | decide) ?_))
              refine callG_v rfl cb5 rfl (sure32K hk hg) (dOk_lt rfl) ?_
              simp (config := { maxSteps := 1000000 }) only [push_cast, ↓reduceIte, Nat.reduceEqDiff, Nat.reduceLT, Nat.reduceAdd]
    · simp (config := { maxSteps := 1000000 }) only [h2, not_false_eq_true, decide_true, push_cast, ↓reduceIte, reduceCtorEq, Nat.reduceEqDiff, Nat.reduceLT]
      refine callG_v rfl cb5 rfl (sure32K hk hg) (dOk_lt rfl) ?_
      simp (config := { maxSteps := 1000000 }) only [push_cast, ↓reduceIte, Nat.reduceLT]
  · simp (config := { maxSteps := 1000000 }) only [undef, push_cast, ↓reduceIte, Nat.reduceEqDiff, Nat.reduceLT]
    refine callG_v rfl cb5 rfl (sure32K hk hg) (dOk_lt rfl) ?_
    simp (config := { maxSteps := 1000000 }) only [push_cast, ↓reduceIte, Nat.reduceLT]
end Go.Proofs.YtombphphaoeeiaaGreatDoor
