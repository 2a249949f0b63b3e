import Derived.Test.YtiaeollemmkclaaDoorTs1
/- Law 22's giveConf, bigConf. -/
namespace Go.Proofs.YtiaeollemmkclaaDoor
open Go.RowKit
set_option linter.unusedSimpArgs false
set_option linter.unusedVariables false
/-- One that came in, however long its rows are. -/
structure CfR.Wide (c : CfR) (w : World) : Prop where
  plen : c.ps.l.length ≤ c.ps.c
  pw : c.ps.l.length * 24 ≤ 140737488351232
  prd : RdV w w.heap.size c.ps.A (c.ps.l.flatMap plV)
  glen : c.gs.l.length ≤ c.gs.c
  gw : c.gs.l.length * 40 ≤ 140737488351232
  grd : RdV w w.heap.size c.gs.A (c.gs.l.flatMap grV)
  ids : ∀ g ∈ c.gs.l, g.ids.l.length ≤ g.ids.c ∧ g.ids.l.length * 8 ≤ 140737488351232 ∧ RdV w w.heap.size g.ids.A (g.ids.l.map (Value.int .i64))
def plTo (c : CfR) (i : Nat) : List Value := (c.ps.l.take i).flatMap plV
theorem plTo_succ {c : CfR} {i : Nat} (h : i < c.ps.l.length) : vC (plTo c (i + 1)) = vC (plTo c i) ++ [.v (.int .i64 (ix c.ps.l i).parent), .v (.int .i64 (ix c.ps.l i).spare), .v (.int .i64 (ix c.ps.l i).need)] := by
  unfold plTo
  rw [List.take_add_one, List.getElem?_eq_getElem h, Option.toList_some, List.flatMap_append, vC_app, List.flatMap_cons, List.flatMap_nil, List.append_nil, ix, List.getD_eq_getElem?_getD, List.getElem?_eq_getElem h]
  rfl
theorem plTo_len {c : CfR} {i : Nat} (h : i ≤ c.ps.l.length) : (plTo c i).length = i * 3 := by
  unfold plTo
  rw [flat_len plV_len, List.length_take, Nat.min_eq_left h]
theorem plTo_all (c : CfR) : plTo c c.ps.l.length = c.ps.l.flatMap plV := by unfold plTo; rw [List.take_length]
attribute [local irreducible] Callable CallOK CallG CallM DrawG LoopG symR symM
attribute [local irreducible] plTo vC
section
set_option maxRecDepth 100000 in
set_option maxHeartbeats 1000000 in
theorem give22_sym (c : CfR) (w : World) (hc : c.Wide w) : Calls Tryd.prog 26 #[.agg (cfV c).toArray] w fun e w' => ∃ γ1, e = .returned ((Sv.x (.g [.v (.int .i64 c.dim), .o 0, .o 1, .v (.int .i64 c.least), .v (.int .i64 c.term)])).val γ1) ∧ Sat w No γ1 [.onn 79 3 (.c (vC (c.ps.l.flatMap plV))), .abs (GrRep (c.gs.l.map GrR.gr))] w' := by
  have F := FLm.of plV_len (by decide) hc.prd
  have G := FLm.of grV_len (by decide) hc.grd
  have hpw := hc.pw
  have hgw := hc.gw
  refine calls_sym Tryd.func26 rfl Tryd.ntmps26 [.x (.g [.v (.int .i64 c.dim), .v (.slice c.ps.A c.ps.l.length c.ps.c), .v (.slice c.gs.A c.gs.l.length c.gs.c), .v (.int .i64 c.least), .v (.int .i64 c.term)])] (Sat.init w No) (by simp) (fun sv hp => ∃ (gR : List GrR) (Fs : List Fct), gR.map GrR.gr = c.gs.l.map GrR.gr ∧ (∀ g ∈ gR, idsFct g ∈ Fs) ∧ EndsAs (.x (.g [.v (.int .i64 c.dim), .o 0, .o 1, .v (.int .i64 c.least), .v (.int .i64 c.term)])) [.onn 79 3 (.c (vC (c.ps.l.flatMap plV))), .onn 148 3 (.c (vC (gR.flatMap grV))), .abs (fctRep Fs)] sv hp) (fun γ sv hp' w' hS ⟨gR, Fs, h1, h2, ρ, h3, h4, h5, h6⟩ => ?_) ?_
  · obtain ⟨hS2, hρ⟩ := hS.sel h4 h5 h6.2
    obtain ⟨γ', e1, e2, hS3⟩ := sat_groups hS2 h2
    rw [h1] at hS3
    refine ⟨γ', ?_, hS3⟩
    have e : sv = (Sv.x (.g [.v (.int .i64 c.dim), .o 0, .o 1, .v (.int .i64 c.least), .v (.int .i64 c.term)])).ren ρ := by
      have := h3.1
      simp only [Fr.get, if_true, Option.some.injEq] at this
      exact this
    have hlen : ρ.length = 3 := (leHp_get h4).1
    have hv := Sv.re hρ (x := .x (.g [.v (.int .i64 c.dim), .o 0, .o 1, .v (.int .i64 c.least), .v (.int .i64 c.term)])) (by rw [hlen]; simp only [push_cast, ↓Int.toNat_natCast, ↓Int.cast_ofNat_Int, Int.cast_ofNat_Int, ↓reduceIte, reduceCtorEq, Nat.reduceEqDiff, Nat.reduceLT, Nat.reduceLeDiff, Nat.reduceAdd, Nat.reduceSub, Nat.reduceMul, Int.reduceNeg, Int.reduceLE, Int.reduceLT, Int.reduceToNat, Int.reduceAdd, Int.reduceSub, Int.reduceMul, Int.reduceEq])
    rw [e, ← hv]
    show Ending.returned (Value.agg [_, nmS _ 0, nmS _ 1, _, _].toArray) = Ending.returned (Value.agg [_, nmS γ' 0, nmS γ' 1, _, _].toArray)
    rw [e1, e2]
    rfl
  simp (config := { maxSteps := 1000000 }) only [undef, push_cast, ↓Int.toNat_natCast, ↓Int.cast_ofNat_Int, Int.cast_ofNat_Int, ↓reduceIte, reduceCtorEq, Nat.reduceEqDiff, Nat.reduceLT, Nat.reduceLeDiff, Nat.reduceAdd, Nat.reduceSub, Nat.reduceMul, Int.reduceNeg, Int.reduceLE, Int.reduceLT, Int.reduceToNat, Int.reduceAdd, Int.reduceSub, Int.reduceMul, Int.reduceEq]
  refine loop_ghostCN 2 1 65 79 3 _ (.c []) (by omega) rfl rfl rfl (by simp (config := { maxSteps := 1000000 }) only [push_cast, ↓Int.toNat_natCast, ↓Int.cast_ofNat_Int, Int.cast_ofNat_Int, ↓reduceIte, reduceCtorEq, Nat.reduceEqDiff, Nat.reduceLT, Nat.reduceLeDiff, Nat.reduceAdd, Nat.reduceSub, Nat.reduceMul, Int.reduceNeg, Int.reduceLE, Int.reduceLT, Int.reduceToNat, Int.reduceAdd, Int.reduceSub, Int.reduceMul, Int.reduceEq]) ?_
  simp (config := { maxSteps := 1000000 }) only [undef, push_cast, ↓Int.toNat_natCast, ↓Int.cast_ofNat_Int, Int.cast_ofNat_Int, ↓reduceIte, reduceCtorEq, Nat.reduceEqDiff, Nat.reduceLT, Nat.reduceLeDiff, Nat.reduceAdd, Nat.reduceSub, Nat.reduceMul, Int.reduceNeg, Int.reduceLE, Int.reduceLT, Int.reduceToNat, Int.reduceAdd, Int.reduceSub, Int.reduceMul, Int.reduceEq]
  refine loop_rule (ι := Nat) (fun i => ⟨[(1, .x (.a (.p 0 0))), (2, .x (.a (.p 1 0))), (3, .x (.a (.p 2 0))), (4, .x (.a (.v (.int .i64 i))))], [.blk 61 (.c [.v (.int .i64 c.dim), .v (.slice c.ps.A c.ps.l.length c.ps.c), .v (.slice c.gs.A c.gs.l.length c.gs.c), .v (.int .i64 c.least), .v (.int .i64 c.term)]), .blk 65 (.c [.v (.int .i64 0), .v (.slice none 0 0), .v (.slice none 0 0), .v (.int .i64 0), .v (.int .i64 0)]), .blk 65 (.c [.v (.int .i64 c.dim), .o 3, .v (.slice none 0 0), .v (.int .i64 c.least), .v (.int .i64 c.term)]), .onn 79 3 (.c (vC (plTo c i)))]⟩) (fun i => i ≤ c.ps.l.length) (fun i => c.ps.l.length - i) 0 [0, 1, 2, 3] (Nat.zero_le _) ?_ ?_
  · have e0 : vC (plTo c 0) = [] := by unfold vC plTo; rfl
    simp (config := { maxSteps := 1000000 }) only [e0, push_cast, ↓Int.toNat_natCast, ↓Int.cast_ofNat_Int, Int.cast_ofNat_Int, ↓reduceIte, reduceCtorEq, Nat.reduceEqDiff, Nat.reduceLT, Nat.reduceLeDiff, Nat.reduceAdd, Nat.reduceSub, Nat.reduceMul, Int.reduceNeg, Int.reduceLE, Int.reduceLT, Int.reduceToNat, Int.reduceAdd, Int.reduceSub, Int.reduceMul, Int.reduceEq]
    done
  intro i hi
  by_cases hlt : (i : Int) < c.ps.l.length
  · have hil : i < c.ps.l.length := by omega
    have i0 : (0 : Int) ≤ i := by omega
    obtain ⟨w1, w2⟩ := F.whole i hil
    have hA := F.some_ (by omega)
    have hs := plTo_succ hil
    have hl := plTo_len (c := c) hi
    have e3 : i * 3 / 3 = i := Nat.mul_div_cancel _ (by omega)
    have b1 : (i + 1) * 24 ≤ 140737488355328 := by omega
    have b2 : i + 1 ≤ 2 ^ 63 - 1 := by omega
    generalize ix c.ps.l i = x at *
    have w1 : rawL w (pAdd c.ps.A (i * 3)) 3 0 = [.v (.int .i64 x.parent), .v (.int .i64 x.spare), .v (.int .i64 x.need)] := w1
    simp (config := { maxSteps := 1000000 }) only [hlt, undef, push_cast, ↓Int.toNat_natCast, ↓Int.cast_ofNat_Int, Int.cast_ofNat_Int, ↓reduceIte, reduceCtorEq, Nat.reduceEqDiff, Nat.reduceLT, Nat.reduceLeDiff, Nat.reduceAdd, Nat.reduceSub, Nat.reduceMul, Int.reduceNeg, Int.reduceLE, Int.reduceLT, Int.reduceToNat, Int.reduceAdd, Int.reduceSub, Int.reduceMul, Int.reduceEq]
    (repeat (refine And.intro (by first | omega | decide) ?_))
    refine drawVT_rule 4 [3] 10 (.rd 0 (.rd 1 (.rd 2 (.rd 3 (.rd 4 (.rd 5 (.rd 6 (.wr 7 (.wr 8 (.rd 9 .nil)))))))))) ⟨[(1, .x (.a (.p 0 0))), (2, .x (.a (.p 1 0))), (3, .x (.a (.p 2 0))), (4, .x (.a (.v (.int .i64 i)))), (28, .x (.a (.o 4))), (29, .x (.a (.p 2 1)))], [.blk 61 (.c [.v (.int .i64 c.dim), .v (.slice c.ps.A c.ps.l.length c.ps.c), .v (.slice c.gs.A c.gs.l.length c.gs.c), .v (.int .i64 c.least), .v (.int .i64 c.term)]), .blk 65 (.c [.v (.int .i64 0), .v (.slice none 0 0), .v (.slice none 0 0), .v (.int .i64 0), .v (.int .i64 0)]), .blk 65 (.c [.v (.int .i64 c.dim), .o 3, .v (.slice none 0 0), .v (.int .i64 c.least), .v (.int .i64 c.term)]), .gone, .onn 79 3 (.c (vC (plTo c i) ++ [.v (.int .i64 x.parent), .v (.int .i64 x.spare), .v (.int .i64 x.need)]))]⟩ (by kernel_rfl) (by kernel_rfl) (Nat.le_refl 4) ?_ ?_
    · simp (config := { maxSteps := 1000000 }) only [hlt, i0, w1, w2, hA, hl, e3, b1, b2, pAdd_add, pAdd_isSome, undef, push_cast, ↓Int.toNat_natCast, ↓Int.cast_ofNat_Int, Int.cast_ofNat_Int, ↓reduceIte, reduceCtorEq, Nat.reduceEqDiff, Nat.reduceLT, Nat.reduceLeDiff, Nat.reduceAdd, Nat.reduceSub, Nat.reduceMul, Int.reduceNeg, Int.reduceLE, Int.reduceLT, Int.reduceToNat, Int.reduceAdd, Int.reduceSub, Int.reduceMul, Int.reduceEq]
      (repeat (refine And.intro (by first | omega | decide) ?_))
      refine leads_le [0, 1, 2, 3, 5] ?_
      simp (config := { maxSteps := 1000000 }) only [push_cast, ↓Int.toNat_natCast, ↓Int.cast_ofNat_Int, Int.cast_ofNat_Int, ↓reduceIte, reduceCtorEq, Nat.reduceEqDiff, Nat.reduceLT, Nat.reduceLeDiff, Nat.reduceAdd, Nat.reduceSub, Nat.reduceMul, Int.reduceNeg, Int.reduceLE, Int.reduceLT, Int.reduceToNat, Int.reduceAdd, Int.reduceSub, Int.reduceMul, Int.reduceEq]
      done
    · simp (config := { maxSteps := 1000000 }) only [undef, push_cast, ↓Int.toNat_natCast, ↓Int.cast_ofNat_Int, Int.cast_ofNat_Int, ↓reduceIte, reduceCtorEq, Nat.reduceEqDiff, Nat.reduceLT, Nat.reduceLeDiff, Nat.reduceAdd, Nat.reduceSub, Nat.reduceMul, Int.reduceNeg, Int.reduceLE, Int.reduceLT, Int.reduceToNat, Int.reduceAdd, Int.reduceSub, Int.reduceMul, Int.reduceEq]
      (repeat (refine And.intro (by first | omega | decide) ?_))
      refine loopK_normal (i + 1) [0, 1, 2, 4] (by show i + 1 ≤ _; omega) (by show c.ps.l.length - (i + 1) < c.ps.l.length - i; omega) ?_
      simp (config := { maxSteps := 1000000 }) only [hs, push_cast, ↓Int.toNat_natCast, ↓Int.cast_ofNat_Int, Int.cast_ofNat_Int, ↓reduceIte, reduceCtorEq, Nat.reduceEqDiff, Nat.reduceLT, Nat.reduceLeDiff, Nat.reduceAdd, Nat.reduceSub, Nat.reduceMul, Int.reduceNeg, Int.reduceLE, Int.reduceLT, Int.reduceToNat, Int.reduceAdd, Int.reduceSub, Int.reduceMul, Int.reduceEq]
      done
  obtain rfl : i = c.ps.l.length := by omega
  simp (config := { maxSteps := 1000000 }) only [hlt, plTo_all, undef, push_cast, ↓Int.toNat_natCast, ↓Int.cast_ofNat_Int, Int.cast_ofNat_Int, ↓reduceIte, reduceCtorEq, Nat.reduceEqDiff, Nat.reduceLT, Nat.reduceLeDiff, Nat.reduceAdd, Nat.reduceSub, Nat.reduceMul, Int.reduceNeg, Int.reduceLE, Int.reduceLT, Int.reduceToNat, Int.reduceAdd, Int.reduceSub, Int.reduceMul, Int.reduceEq]
  refine loop_ghostCN 2 2 65 148 3 _ (.c []) (by omega) rfl rfl rfl (by simp (config := { maxSteps := 1000000 }) only [push_cast, ↓Int.toNat_natCast, ↓Int.cast_ofNat_Int, Int.cast_ofNat_Int, ↓reduceIte, reduceCtorEq, Nat.reduceEqDiff, Nat.reduceLT, Nat.reduceLeDiff, Nat.reduceAdd, Nat.reduceSub, Nat.reduceMul, Int.reduceNeg, Int.reduceLE, Int.reduceLT, Int.reduceToNat, Int.reduceAdd, Int.reduceSub, Int.reduceMul, Int.reduceEq]) ?_
  simp (config := { maxSteps := 1000000 }) only [undef, push_cast, ↓Int.toNat_natCast, ↓Int.cast_ofNat_Int, Int.cast_ofNat_Int, ↓reduceIte, reduceCtorEq, Nat.reduceEqDiff, Nat.reduceLT, Nat.reduceLeDiff, Nat.reduceAdd, Nat.reduceSub, Nat.reduceMul, Int.reduceNeg, Int.reduceLE, Int.reduceLT, Int.reduceToNat, Int.reduceAdd, Int.reduceSub, Int.reduceMul, Int.reduceEq]
  refine loop_fct (by simp (config := { maxSteps := 1000000 }) only [push_cast, ↓Int.toNat_natCast, ↓Int.cast_ofNat_Int, Int.cast_ofNat_Int, ↓reduceIte, reduceCtorEq, Nat.reduceEqDiff, Nat.reduceLT, Nat.reduceLeDiff, Nat.reduceAdd, Nat.reduceSub, Nat.reduceMul, Int.reduceNeg, Int.reduceLE, Int.reduceLT, Int.reduceToNat, Int.reduceAdd, Int.reduceSub, Int.reduceMul, Int.reduceEq]) ?_
  simp (config := { maxSteps := 1000000 }) only [undef, push_cast, ↓Int.toNat_natCast, ↓Int.cast_ofNat_Int, Int.cast_ofNat_Int, ↓reduceIte, reduceCtorEq, Nat.reduceEqDiff, Nat.reduceLT, Nat.reduceLeDiff, Nat.reduceAdd, Nat.reduceSub, Nat.reduceMul, Int.reduceNeg, Int.reduceLE, Int.reduceLT, Int.reduceToNat, Int.reduceAdd, Int.reduceSub, Int.reduceMul, Int.reduceEq]
  refine loop_rule (ι := Nat × List GrR × List Fct) (fun x => ⟨[(1, .x (.a (.p 0 0))), (2, .x (.a (.p 1 0))), (3, .x (.a (.p 2 0))), (5, .x (.a (.v (.int .i64 (x.1 : Nat)))))], [.blk 61 (.c [.v (.int .i64 c.dim), .v (.slice c.ps.A c.ps.l.length c.ps.c), .v (.slice c.gs.A c.gs.l.length c.gs.c), .v (.int .i64 c.least), .v (.int .i64 c.term)]), .blk 65 (.c [.v (.int .i64 0), .v (.slice none 0 0), .v (.slice none 0 0), .v (.int .i64 0), .v (.int .i64 0)]), .blk 65 (.c [.v (.int .i64 c.dim), .o 3, .o 4, .v (.int .i64 c.least), .v (.int .i64 c.term)]), .onn 79 3 (.c (vC (c.ps.l.flatMap plV))), .onn 148 3 (.c (vC (x.2.1.flatMap grV))), .abs (fctRep x.2.2)]⟩)
    (fun x => x.1 ≤ c.gs.l.length ∧ x.2.1.length = x.1 ∧ x.2.1.map GrR.gr = (c.gs.l.take x.1).map GrR.gr ∧ ∀ g ∈ x.2.1, idsFct g ∈ x.2.2) (fun x => c.gs.l.length - x.1) (0, [], []) [0, 1, 2, 3, 4, 5] ⟨Nat.zero_le _, rfl, rfl, fun g hg => by cases hg⟩ ?_ ?_
  · have e0 : vC (([] : List GrR).flatMap grV) = [] := by unfold vC; rfl
    simp (config := { maxSteps := 1000000 }) only [e0, push_cast, ↓Int.toNat_natCast, ↓Int.cast_ofNat_Int, Int.cast_ofNat_Int, ↓reduceIte, reduceCtorEq, Nat.reduceEqDiff, Nat.reduceLT, Nat.reduceLeDiff, Nat.reduceAdd, Nat.reduceSub, Nat.reduceMul, Int.reduceNeg, Int.reduceLE, Int.reduceLT, Int.reduceToNat, Int.reduceAdd, Int.reduceSub, Int.reduceMul, Int.reduceEq]
    done
  rintro ⟨i, gR, Fs⟩ ⟨hi, hgl, hgr, hF⟩
  dsimp only at hi hgl hgr hF
  by_cases hlt : (i : Int) < c.gs.l.length
  · have hil : i < c.gs.l.length := by omega
    have i0 : (0 : Int) ≤ i := by omega
    have hA := G.some_ (by omega)
    have ht : (c.gs.l.take (i + 1)).map GrR.gr = (c.gs.l.take i).map GrR.gr ++ [(ix c.gs.l i).gr] := by
      rw [List.take_add_one, List.getElem?_eq_getElem hil, Option.toList_some, List.map_append, ix, List.getD_eq_getElem?_getD, List.getElem?_eq_getElem hil]
      rfl
    obtain ⟨k1, k2, k3⟩ := hc.ids _ (ix_mem hil)
    obtain ⟨c0, o0⟩ := G.cell i 0 _ hil rfl
    obtain ⟨c1, o1⟩ := G.cell i 1 _ hil rfl
    obtain ⟨c2, o2⟩ := G.cell i 2 _ hil rfl
    rw [Nat.add_zero] at c0 o0
    generalize ix c.gs.l i = g at *
    have c1 : cellOf w (pAdd c.gs.A (i * 3 + 1)) = .slice g.ids.A g.ids.l.length g.ids.c := c1
    obtain ⟨r1, r2⟩ := rdI_of (FV.no k3)
    have e3 : i * 3 / 3 = i := Nat.mul_div_cancel _ (by omega)
    have hvl : (gR.flatMap grV).length = i * 3 := by rw [flat_len grV_len, hgl]
    have b1 : (i + 1) * 40 ≤ 140737488355328 := by omega
    have b2 : i + 1 ≤ 2 ^ 63 - 1 := by omega
    have b3 : g.ids.l.length * 8 ≤ 140737488355328 := by omega
    have b4 : g.ids.l.length ≤ 2 ^ 63 - 1 := by omega
    simp (config := { maxSteps := 1000000 }) only [hlt, undef, push_cast, ↓Int.toNat_natCast, ↓Int.cast_ofNat_Int, Int.cast_ofNat_Int, ↓reduceIte, reduceCtorEq, Nat.reduceEqDiff, Nat.reduceLT, Nat.reduceLeDiff, Nat.reduceAdd, Nat.reduceSub, Nat.reduceMul, Int.reduceNeg, Int.reduceLE, Int.reduceLT, Int.reduceToNat, Int.reduceAdd, Int.reduceSub, Int.reduceMul, Int.reduceEq]
    (repeat (refine And.intro (by first | omega | decide) ?_))
    refine drawVT_rule 6 [4] 26 (.rd 0 (.rd 1 (.rd 2 (.rd 3 (.rd 4 (.rd 5 (.rd 6 (.rd 7 (.rd 9 (.rd 10 (.rd 11 (.rd 12 (.rd 13 (.rd 14 (.rd 16 (.rd 17 (.rd 18 (.rd 19 (.rd 20 (.rd 21 (.wr 8 (.wr 15 (.wr 22 (.wr 23 (.wr 24 (.rd 25 .nil)))))))))))))))))))))))))) ⟨[(1, .x (.a (.p 0 0))), (2, .x (.a (.p 1 0))), (3, .x (.a (.p 2 0))), (5, .x (.a (.v (.int .i64 i)))), (61, .x (.a (.o 7))), (62, .x (.a (.p 2 2)))], [.blk 61 (.c [.v (.int .i64 c.dim), .v (.slice c.ps.A c.ps.l.length c.ps.c), .v (.slice c.gs.A c.gs.l.length c.gs.c), .v (.int .i64 c.least), .v (.int .i64 c.term)]), .blk 65 (.c [.v (.int .i64 0), .v (.slice none 0 0), .v (.slice none 0 0), .v (.int .i64 0), .v (.int .i64 0)]), .blk 65 (.c [.v (.int .i64 c.dim), .o 3, .o 4, .v (.int .i64 c.least), .v (.int .i64 c.term)]), .onn 79 3 (.c (vC (c.ps.l.flatMap plV))), .gone, .abs (fctRep Fs), .own 3 (.i64 g.ids.l), .onn 148 3 (.c (vC (gR.flatMap grV) ++ [.v (.int .i64 g.place), .o 6, .v (.int .i64 g.need)]))]⟩ (by kernel_rfl) (by kernel_rfl) (Nat.le_refl 6) ?_ ?_
    · simp (config := { maxSteps := 1000000 }) only [hlt, i0, c0, o0, c1, o1, c2, o2, hA, hvl, e3, r1, r2, b1, b2, b3, b4, pAdd_add, pAdd_isSome, undef, push_cast, ↓Int.toNat_natCast, ↓Int.cast_ofNat_Int, Int.cast_ofNat_Int, ↓reduceIte, reduceCtorEq, Nat.reduceEqDiff, Nat.reduceLT, Nat.reduceLeDiff, Nat.reduceAdd, Nat.reduceSub, Nat.reduceMul, Int.reduceNeg, Int.reduceLE, Int.reduceLT, Int.reduceToNat, Int.reduceAdd, Int.reduceSub, Int.reduceMul, Int.reduceEq]
      (repeat (refine And.intro (by first | omega | decide) ?_))
      refine leads_le [0, 1, 2, 3, 4, 5, 7, 9] ?_
      simp (config := { maxSteps := 1000000 }) only [push_cast, ↓Int.toNat_natCast, ↓Int.cast_ofNat_Int, Int.cast_ofNat_Int, ↓reduceIte, reduceCtorEq, Nat.reduceEqDiff, Nat.reduceLT, Nat.reduceLeDiff, Nat.reduceAdd, Nat.reduceSub, Nat.reduceMul, Int.reduceNeg, Int.reduceLE, Int.reduceLT, Int.reduceToNat, Int.reduceAdd, Int.reduceSub, Int.reduceMul, Int.reduceEq]
      done
    · simp (config := { maxSteps := 1000000 }) only [undef, push_cast, ↓Int.toNat_natCast, ↓Int.cast_ofNat_Int, Int.cast_ofNat_Int, ↓reduceIte, reduceCtorEq, Nat.reduceEqDiff, Nat.reduceLT, Nat.reduceLeDiff, Nat.reduceAdd, Nat.reduceSub, Nat.reduceMul, Int.reduceNeg, Int.reduceLE, Int.reduceLT, Int.reduceToNat, Int.reduceAdd, Int.reduceSub, Int.reduceMul, Int.reduceEq]
      (repeat (refine And.intro (by first | omega | decide) ?_))
      refine loopK_absorb 6 5 (vs := g.ids.l.map (Value.int .i64)) rfl (fun _ => rfl) rfl (by decide) fun A1 cap1 h1 h2 => ?_
      rw [List.length_map]
      obtain ⟨g', hg'⟩ : ∃ g' : GrR, g' = ⟨g.place, ⟨A1, cap1, g.ids.l⟩, g.need⟩ := ⟨_, rfl⟩
      have hap : vC ((gR ++ [g']).flatMap grV) = vC (gR.flatMap grV) ++ [.v (.int .i64 g.place), .v (.slice A1 g.ids.l.length cap1), .v (.int .i64 g.need)] := by
        rw [List.flatMap_append, vC_app, hg']; unfold vC; rfl
      refine loopK_normal (i + 1, gR ++ [g'], Fs ++ [⟨.slice A1 g.ids.l.length cap1, g.ids.l.length, g.ids.l.map (Value.int .i64)⟩]) [0, 1, 2, 3, 7, 5] ⟨by show i + 1 ≤ _; omega, by show (gR ++ [_]).length = _; rw [List.length_append, hgl]; rfl, ?_, fun x hx => ?_⟩ (by show c.gs.l.length - (i + 1) < c.gs.l.length - i; omega) ?_
      · show (gR ++ [_]).map GrR.gr = _
        rw [List.map_append, hgr, ht, hg']
        rfl
      · rcases List.mem_append.1 hx with hx | hx
        · exact List.mem_append_left _ (hF x hx)
        · rw [List.mem_singleton.1 hx, hg']
          exact List.mem_append_right _ (List.mem_singleton.2 rfl)
      · simp (config := { maxSteps := 1000000 }) only [hap, push_cast, ↓Int.toNat_natCast, ↓Int.cast_ofNat_Int, Int.cast_ofNat_Int, ↓reduceIte, reduceCtorEq, Nat.reduceEqDiff, Nat.reduceLT, Nat.reduceLeDiff, Nat.reduceAdd, Nat.reduceSub, Nat.reduceMul, Int.reduceNeg, Int.reduceLE, Int.reduceLT, Int.reduceToNat, Int.reduceAdd, Int.reduceSub, Int.reduceMul, Int.reduceEq]
        done
  obtain rfl : i = c.gs.l.length := by omega
  rw [List.take_length] at hgr
  simp (config := { maxSteps := 1000000 }) only [hlt, undef, push_cast, ↓Int.toNat_natCast, ↓Int.cast_ofNat_Int, Int.cast_ofNat_Int, ↓reduceIte, reduceCtorEq, Nat.reduceEqDiff, Nat.reduceLT, Nat.reduceLeDiff, Nat.reduceAdd, Nat.reduceSub, Nat.reduceMul, Int.reduceNeg, Int.reduceLE, Int.reduceLT, Int.reduceToNat, Int.reduceAdd, Int.reduceSub, Int.reduceMul, Int.reduceEq]
  refine ⟨gR, Fs, hgr, hF, ?_⟩
  refine endsAs [3, 4, 5] ?_
  simp (config := { maxSteps := 1000000 }) only [push_cast, ↓Int.toNat_natCast, ↓Int.cast_ofNat_Int, Int.cast_ofNat_Int, ↓reduceIte, reduceCtorEq, Nat.reduceEqDiff, Nat.reduceLT, Nat.reduceLeDiff, Nat.reduceAdd, Nat.reduceSub, Nat.reduceMul, Int.reduceNeg, Int.reduceLE, Int.reduceLT, Int.reduceToNat, Int.reduceAdd, Int.reduceSub, Int.reduceMul, Int.reduceEq]
  done
end
end Go.Proofs.YtiaeollemmkclaaDoor
