import Derived.Test.YtiaeollemmkclaaDoorCf1
/- Layer 21: conf.grouped. -/
namespace Go.Proofs.YtiaeollemmkclaaDoor
open Go.RowKit
set_option linter.unusedSimpArgs false
set_option linter.unusedVariables false
theorem tdiv2 (n : Nat) : (n : Int).tdiv 2 = (n : Int) / 2 := Int.tdiv_eq_ediv_of_nonneg (by omega)
theorem both_len (a b : List Int) : (bothF a b).length ≤ 64 := from_len _
theorem either_len (a b : List Int) : (eitherF a b).length ≤ 64 := from_len _
theorem fitF_eq (n : Int) (g : GrS) (last : Int) (seen : List Int) : fitF n g last seen = (decide (last < g.place) && decide (g.place < n) && wiF g.ids.length 1 12 && chkS (-1) g.ids && decide (((bothF seen g.ids).length : Int) = 0) && wiF g.need ((g.ids.length : Int) / 2 + 1) g.ids.length) := by
  unfold fitF
  have e : decide ((bothF seen g.ids).length = 0) = decide (((bothF seen g.ids).length : Int) = 0) := decide_eq_decide.2 (by omega)
  rw [e, Bool.decide_and]
attribute [local irreducible] Callable CallOK CallG CallM DrawG LoopG symR symM
attribute [local irreducible] wiF chkS bothF eitherF fitF okV grGo
section
set_option maxRecDepth 100000 in
set_option maxHeartbeats 1000000 in
theorem fits_any (g : GrR) (c : CfR) (last : Int) (seen : SlV Int) (A1 A2 A3 : Option Addr) (w : World) (h1 : Vr w A1 [.int .i64 last]) (h2 : Vr w A2 (cfV c)) (h3 : Vr w A3 [seen.val]) (hs : seen.l.length ≤ 64) (hsc : seen.l.length ≤ seen.c) (hsr : RdV w w.heap.size seen.A (seen.l.map (Value.int .i64))) (hg : g.Ok w) :
    Calls Tryd.prog 118 #[.agg (grV g).toArray, .pointer A1, .pointer A2, .pointer A3] w fun e w' => e = .returned (.bool (fitF c.ps.l.length g.gr last seen.l)) ∧ Below w.heap.size w w' := by
  refine calls_v (n := 49) Tryd.func118 rfl Tryd.ntmps118 [.x (.g [.v (.int .i64 g.place), .v (.slice g.ids.A g.ids.l.length g.ids.c), .v (.int .i64 g.need)]), .x (.a (.v (.pointer A1))), .x (.a (.v (.pointer A2))), .x (.a (.v (.pointer A3)))] (by simp) (.x (.a (.v (.bool (fitF c.ps.l.length g.gr last seen.l))))) (fun _ => rfl) ?_
  obtain ⟨q, hq⟩ : ∃ q, q = fitF c.ps.l.length g.gr last seen.l := ⟨_, rfl⟩
  rw [← hq]
  rw [fitF_eq] at hq
  have hq : q = (decide (last < g.place) && decide (g.place < (c.ps.l.length : Int)) && wiF g.ids.l.length 1 12 && chkS (-1) g.ids.l && decide (((bothF seen.l g.ids.l).length : Int) = 0) && wiF g.need ((g.ids.l.length : Int) / 2 + 1) g.ids.l.length) := hq
  obtain ⟨n1, n2, n3⟩ := h1
  obtain ⟨c1, o1⟩ := n3 0 _ rfl
  obtain ⟨m1, m2, m3⟩ := h2
  obtain ⟨c2, o2⟩ := m3 1 _ rfl
  obtain ⟨q1, q2, q3⟩ := h3
  obtain ⟨c3, o3⟩ := q3 0 _ rfl
  rw [pAdd_zero] at c1 o1 c3 o3
  have t2 := tdiv2 g.ids.l.length
  have hgl := hg.few
  have b1 : -9223372036854775808 ≤ (g.ids.l.length : Int) / 2 + 1 ∧ (g.ids.l.length : Int) / 2 + 1 ≤ 9223372036854775807 := by omega
  have b2 : -9223372036854775808 ≤ (g.ids.l.length : Int) / 2 ∧ (g.ids.l.length : Int) / 2 ≤ 9223372036854775807 := by omega
  by_cases k1 : last < g.place
  · by_cases k2 : g.place < (c.ps.l.length : Int)
    · rw [decide_eq_true k1, decide_eq_true k2, Bool.true_and, Bool.true_and] at hq
      simp (config := { maxSteps := 1000000 }) only [n1, n2, c1, o1, m1, m2, c2, o2, q1, q2, c3, o3, k1, k2, SlV.val, pAdd_zero, pAdd_isSome, undef, push_cast, ↓Int.toNat_natCast, ↓Int.cast_ofNat_Int, Int.cast_ofNat_Int, ↓reduceIte, reduceCtorEq, Nat.reduceEqDiff, Nat.reduceLT, Nat.reduceLeDiff, Nat.reduceAdd, Nat.reduceSub, Nat.reduceMul, Int.reduceNeg, Int.reduceLE, Int.reduceLT, Int.reduceToNat, Int.reduceAdd, Int.reduceSub, Int.reduceMul, Int.reduceEq]
      (repeat (refine And.intro (by first | omega | decide) ?_))
      refine callG_v rfl cb75 rfl (withinK _ _ _) (dOk_lt rfl) ?_
      cases k3 : wiF g.ids.l.length 1 12 with
      | false =>
        rw [k3] at hq
        simp only [Bool.false_and] at hq
        simp (config := { maxSteps := 1000000 }) only [k3, hq, undef, push_cast, ↓Int.toNat_natCast, ↓Int.cast_ofNat_Int, Int.cast_ofNat_Int, ↓reduceIte, reduceCtorEq, Nat.reduceEqDiff, Nat.reduceLT, Nat.reduceLeDiff, Nat.reduceAdd, Nat.reduceSub, Nat.reduceMul, Int.reduceNeg, Int.reduceLE, Int.reduceLT, Int.reduceToNat, Int.reduceAdd, Int.reduceSub, Int.reduceMul, Int.reduceEq]
        done
      | true =>
        rw [k3, Bool.true_and] at hq
        simp (config := { maxSteps := 1000000 }) only [k3, undef, push_cast, ↓Int.toNat_natCast, ↓Int.cast_ofNat_Int, Int.cast_ofNat_Int, ↓reduceIte, reduceCtorEq, Nat.reduceEqDiff, Nat.reduceLT, Nat.reduceLeDiff, Nat.reduceAdd, Nat.reduceSub, Nat.reduceMul, Int.reduceNeg, Int.reduceLE, Int.reduceLT, Int.reduceToNat, Int.reduceAdd, Int.reduceSub, Int.reduceMul, Int.reduceEq]
        (repeat (refine And.intro (by first | omega | decide) ?_))
        refine callG_v rfl cb119 rfl (checkK hgl (shows_raw hg.rd _ _ (by simp) hg.len)) (dOk_lt rfl) ?_
        cases k4 : chkS (-1) g.ids.l with
        | false =>
          rw [k4] at hq
          simp only [Bool.false_and] at hq
          have hf := okV_false 1
          simp (config := { maxSteps := 1000000 }) only [hf, hq, undef, push_cast, ↓Int.toNat_natCast, ↓Int.cast_ofNat_Int, Int.cast_ofNat_Int, ↓reduceIte, reduceCtorEq, Nat.reduceEqDiff, Nat.reduceLT, Nat.reduceLeDiff, Nat.reduceAdd, Nat.reduceSub, Nat.reduceMul, Int.reduceNeg, Int.reduceLE, Int.reduceLT, Int.reduceToNat, Int.reduceAdd, Int.reduceSub, Int.reduceMul, Int.reduceEq]
          done
        | true =>
          rw [k4, Bool.true_and] at hq
          have hf := okV_true 1
          simp (config := { maxSteps := 1000000 }) only [hf, n1, n2, c1, o1, m1, m2, c2, o2, q1, q2, c3, o3, k1, k2, SlV.val, pAdd_zero, pAdd_isSome, undef, push_cast, ↓Int.toNat_natCast, ↓Int.cast_ofNat_Int, Int.cast_ofNat_Int, ↓reduceIte, reduceCtorEq, Nat.reduceEqDiff, Nat.reduceLT, Nat.reduceLeDiff, Nat.reduceAdd, Nat.reduceSub, Nat.reduceMul, Int.reduceNeg, Int.reduceLE, Int.reduceLT, Int.reduceToNat, Int.reduceAdd, Int.reduceSub, Int.reduceMul, Int.reduceEq]
          (repeat (refine And.intro (by first | omega | decide) ?_))
          refine callG_x rfl cb120 rfl (bothK (a := seen.l) (b := g.ids.l) (by omega) hgl (shows_raw hsr _ _ (by simp) hsc) (shows_raw hg.rd _ _ (by simp) hg.len) (by simp only [push_cast, ↓Int.toNat_natCast, ↓Int.cast_ofNat_Int, Int.cast_ofNat_Int, ↓reduceIte, reduceCtorEq, Nat.reduceEqDiff, Nat.reduceLT, Nat.reduceLeDiff, Nat.reduceAdd, Nat.reduceSub, Nat.reduceMul, Int.reduceNeg, Int.reduceLE, Int.reduceLT, Int.reduceToNat, Int.reduceAdd, Int.reduceSub, Int.reduceMul, Int.reduceEq])) (dOk_lt rfl) (by simp only [push_cast, ↓Int.toNat_natCast, ↓Int.cast_ofNat_Int, Int.cast_ofNat_Int, ↓reduceIte, reduceCtorEq, Nat.reduceEqDiff, Nat.reduceLT, Nat.reduceLeDiff, Nat.reduceAdd, Nat.reduceSub, Nat.reduceMul, Int.reduceNeg, Int.reduceLE, Int.reduceLT, Int.reduceToNat, Int.reduceAdd, Int.reduceSub, Int.reduceMul, Int.reduceEq]) ?_
          by_cases k5 : ((bothF seen.l g.ids.l).length : Int) = 0
          · rw [decide_eq_true k5, Bool.true_and] at hq
            simp (config := { maxSteps := 1000000 }) only [k5, b1, b2, t2, undef, push_cast, ↓Int.toNat_natCast, ↓Int.cast_ofNat_Int, Int.cast_ofNat_Int, ↓reduceIte, reduceCtorEq, Nat.reduceEqDiff, Nat.reduceLT, Nat.reduceLeDiff, Nat.reduceAdd, Nat.reduceSub, Nat.reduceMul, Int.reduceNeg, Int.reduceLE, Int.reduceLT, Int.reduceToNat, Int.reduceAdd, Int.reduceSub, Int.reduceMul, Int.reduceEq]
            (repeat (refine And.intro (by first | omega | decide) ?_))
            refine callG_v rfl cb75 rfl (withinK _ _ _) (dOk_lt rfl) ?_
            simp (config := { maxSteps := 1000000 }) only [hq, undef, push_cast, ↓Int.toNat_natCast, ↓Int.cast_ofNat_Int, Int.cast_ofNat_Int, ↓reduceIte, reduceCtorEq, Nat.reduceEqDiff, Nat.reduceLT, Nat.reduceLeDiff, Nat.reduceAdd, Nat.reduceSub, Nat.reduceMul, Int.reduceNeg, Int.reduceLE, Int.reduceLT, Int.reduceToNat, Int.reduceAdd, Int.reduceSub, Int.reduceMul, Int.reduceEq]
            done
          · rw [decide_eq_false k5, Bool.false_and] at hq
            simp (config := { maxSteps := 1000000 }) only [k5, hq, undef, push_cast, ↓Int.toNat_natCast, ↓Int.cast_ofNat_Int, Int.cast_ofNat_Int, ↓reduceIte, reduceCtorEq, Nat.reduceEqDiff, Nat.reduceLT, Nat.reduceLeDiff, Nat.reduceAdd, Nat.reduceSub, Nat.reduceMul, Int.reduceNeg, Int.reduceLE, Int.reduceLT, Int.reduceToNat, Int.reduceAdd, Int.reduceSub, Int.reduceMul, Int.reduceEq]
            done
    · rw [decide_eq_false k2] at hq
      simp only [Bool.and_false, Bool.false_and] at hq
      simp (config := { maxSteps := 1000000 }) only [n1, n2, c1, o1, m1, m2, c2, o2, q1, q2, c3, o3, k1, k2, hq, SlV.val, pAdd_zero, pAdd_isSome, undef, push_cast, ↓Int.toNat_natCast, ↓Int.cast_ofNat_Int, Int.cast_ofNat_Int, ↓reduceIte, reduceCtorEq, Nat.reduceEqDiff, Nat.reduceLT, Nat.reduceLeDiff, Nat.reduceAdd, Nat.reduceSub, Nat.reduceMul, Int.reduceNeg, Int.reduceLE, Int.reduceLT, Int.reduceToNat, Int.reduceAdd, Int.reduceSub, Int.reduceMul, Int.reduceEq]
      done
  · rw [decide_eq_false k1] at hq
    simp only [Bool.and_false, Bool.false_and] at hq
    simp (config := { maxSteps := 1000000 }) only [n1, n2, c1, o1, m1, m2, c2, o2, q1, q2, c3, o3, k1, hq, SlV.val, pAdd_zero, pAdd_isSome, undef, push_cast, ↓Int.toNat_natCast, ↓Int.cast_ofNat_Int, Int.cast_ofNat_Int, ↓reduceIte, reduceCtorEq, Nat.reduceEqDiff, Nat.reduceLT, Nat.reduceLeDiff, Nat.reduceAdd, Nat.reduceSub, Nat.reduceMul, Int.reduceNeg, Int.reduceLE, Int.reduceLT, Int.reduceToNat, Int.reduceAdd, Int.reduceSub, Int.reduceMul, Int.reduceEq]
    done
/-- As its caller sees it: what it captured are the caller's variables. -/
theorem fitsK {w0 : World} {hp : List Res} {g : GrR} {c : CfR} {last : Int} {seen : List Int} {k1 k2 k3 j : Nat} {t1 t2 t3 : TypeId} (h1 : bview hp[k1]? = some (t1, .c [.v (.int .i64 last)])) (h2 : bview hp[k2]? = some (t2, .c (cfA c))) (h3 : bview hp[k3]? = some (t3, .c [.o j])) (hj : hp[j]? = some (.own 3 (.i64 seen))) (hs : seen.length ≤ 64) (hg : g.Ok w0) :
    CallOK Tryd.prog w0 No 118 [.x (.g (grA g)), .x (.a (.p k1 0)), .x (.a (.p k2 0)), .x (.a (.p k3 0))] hp (.x (.a (.v (.bool (fitF c.ps.l.length g.gr last seen))))) hp := callOK_v fun γ w hS => by
  obtain ⟨A, cap, e1, e2, _, e4⟩ := hS.rdOwn hj
  have v1 := vr_sat (vs := [.int .i64 last]) hS h1 rfl
  have v2 := vr_sat (vs := cfV c) hS h2 rfl
  have v3 := vr_sat (vs := [(⟨A, cap, seen⟩ : SlV Int).val]) hS h3 (by show [nmS γ j] = _; rw [e1]; rfl)
  exact fits_any g c last ⟨A, cap, seen⟩ _ _ _ w v1 v2 v3 hs e2 e4 ⟨hg.len, hg.few, rd_later hg.rd hS⟩
set_option maxRecDepth 100000 in
set_option maxHeartbeats 1000000 in
theorem grouped_any (c : CfR) (w : World) (hc : c.Ok w) : Calls Tryd.prog 77 #[.agg (cfV c).toArray] w fun e w' => e = .returned (.bool (grF c.cf)) ∧ Below w.heap.size w w' := by
  have F := FLm.of grV_len (by decide) hc.grd
  have hgf := hc.gfew
  have hpf := hc.pfew
  refine calls_v (n := 45) Tryd.func77 rfl Tryd.ntmps77 [.x (.g [.v (.int .i64 c.dim), .v (.slice c.ps.A c.ps.l.length c.ps.c), .v (.slice c.gs.A c.gs.l.length c.gs.c), .v (.int .i64 c.least), .v (.int .i64 c.term)])] (by simp) (.x (.a (.v (.bool (grF c.cf))))) (fun _ => rfl) ?_
  obtain ⟨q, hq⟩ : ∃ q, q = grF c.cf := ⟨_, rfl⟩
  rw [← hq]
  unfold grF at hq
  have hq : q = if 1 ≤ (c.gs.l.map GrR.gr).length ∧ (c.gs.l.map GrR.gr).length < c.ps.l.length then (match grGo c.ps.l.length (c.gs.l.map GrR.gr) 0 [] with | some seen => wiF c.least 1 seen.length | none => false) else false := hq
  rw [List.length_map] at hq
  by_cases k1 : (c.gs.l.length : Int) < 1
  · rw [if_neg (by omega)] at hq
    simp (config := { maxSteps := 1000000 }) only [k1, hq, undef, push_cast, ↓Int.toNat_natCast, ↓Int.cast_ofNat_Int, Int.cast_ofNat_Int, ↓reduceIte, reduceCtorEq, Nat.reduceEqDiff, Nat.reduceLT, Nat.reduceLeDiff, Nat.reduceAdd, Nat.reduceSub, Nat.reduceMul, Int.reduceNeg, Int.reduceLE, Int.reduceLT, Int.reduceToNat, Int.reduceAdd, Int.reduceSub, Int.reduceMul, Int.reduceEq]
    done
  by_cases k2 : (c.ps.l.length : Int) ≤ c.gs.l.length
  · rw [if_neg (by omega)] at hq
    simp (config := { maxSteps := 1000000 }) only [k1, k2, hq, undef, push_cast, ↓Int.toNat_natCast, ↓Int.cast_ofNat_Int, Int.cast_ofNat_Int, ↓reduceIte, reduceCtorEq, Nat.reduceEqDiff, Nat.reduceLT, Nat.reduceLeDiff, Nat.reduceAdd, Nat.reduceSub, Nat.reduceMul, Int.reduceNeg, Int.reduceLE, Int.reduceLT, Int.reduceToNat, Int.reduceAdd, Int.reduceSub, Int.reduceMul, Int.reduceEq]
    done
  rw [if_pos (by omega)] at hq
  obtain ⟨R, hR⟩ : ∃ R, R = grGo c.ps.l.length (c.gs.l.map GrR.gr) 0 [] := ⟨_, rfl⟩
  rw [← hR] at hq
  simp (config := { maxSteps := 1000000 }) only [k1, k2, undef, push_cast, ↓Int.toNat_natCast, ↓Int.cast_ofNat_Int, Int.cast_ofNat_Int, ↓reduceIte, reduceCtorEq, Nat.reduceEqDiff, Nat.reduceLT, Nat.reduceLeDiff, Nat.reduceAdd, Nat.reduceSub, Nat.reduceMul, Int.reduceNeg, Int.reduceLE, Int.reduceLT, Int.reduceToNat, Int.reduceAdd, Int.reduceSub, Int.reduceMul, Int.reduceEq]
  refine loop_ghostC 1 0 69 3 _ (.i64 []) rfl rfl rfl trivial (by simp (config := { maxSteps := 1000000 }) only [push_cast, ↓Int.toNat_natCast, ↓Int.cast_ofNat_Int, Int.cast_ofNat_Int, ↓reduceIte, reduceCtorEq, Nat.reduceEqDiff, Nat.reduceLT, Nat.reduceLeDiff, Nat.reduceAdd, Nat.reduceSub, Nat.reduceMul, Int.reduceNeg, Int.reduceLE, Int.reduceLT, Int.reduceToNat, Int.reduceAdd, Int.reduceSub, Int.reduceMul, Int.reduceEq]) ?_
  simp (config := { maxSteps := 1000000 }) only [undef, push_cast, ↓Int.toNat_natCast, ↓Int.cast_ofNat_Int, Int.cast_ofNat_Int, ↓reduceIte, reduceCtorEq, Nat.reduceEqDiff, Nat.reduceLT, Nat.reduceLeDiff, Nat.reduceAdd, Nat.reduceSub, Nat.reduceMul, Int.reduceNeg, Int.reduceLE, Int.reduceLT, Int.reduceToNat, Int.reduceAdd, Int.reduceSub, Int.reduceMul, Int.reduceEq]
  refine loop_rule (ι := Nat × Int × List Int) (fun x => ⟨[(1, .x (.a (.p 0 0))), (3, .x (.a (.p 1 0))), (4, .x (.a (.p 2 0))), (5, .f (.func 118) [.p 2 0, .p 0 0, .p 1 0]), (23, .x (.a (.v (.slice c.gs.A c.gs.l.length c.gs.c)))), (24, .x (.a (.v (.int .i64 c.gs.l.length)))), (25, .x (.a (.v (.int .i64 (x.1 : Nat)))))],
      [.blk 65 (.c [.v (.int .i64 c.dim), .v (.slice c.ps.A c.ps.l.length c.ps.c), .v (.slice c.gs.A c.gs.l.length c.gs.c), .v (.int .i64 c.least), .v (.int .i64 c.term)]), .blk 69 (.c [.o 3]), .blk 3 (.c [.v (.int .i64 x.2.1)]), .own 3 (.i64 x.2.2)]⟩)
    (fun x => x.1 ≤ c.gs.l.length ∧ x.2.2.length ≤ 64 ∧ R = grGo c.ps.l.length ((c.gs.l.drop x.1).map GrR.gr) x.2.1 x.2.2) (fun x => c.gs.l.length - x.1) (0, 0, []) [0, 1, 2, 3] ⟨Nat.zero_le _, Nat.zero_le _, hR⟩ ?_ ?_
  · simp (config := { maxSteps := 1000000 }) only [push_cast, ↓Int.toNat_natCast, ↓Int.cast_ofNat_Int, Int.cast_ofNat_Int, ↓reduceIte, reduceCtorEq, Nat.reduceEqDiff, Nat.reduceLT, Nat.reduceLeDiff, Nat.reduceAdd, Nat.reduceSub, Nat.reduceMul, Int.reduceNeg, Int.reduceLE, Int.reduceLT, Int.reduceToNat, Int.reduceAdd, Int.reduceSub, Int.reduceMul, Int.reduceEq]
  rintro ⟨i, last, seen⟩ ⟨hi, hsl, hg⟩
  dsimp only at hi hsl hg
  by_cases hlt : (i : Int) < c.gs.l.length
  · have hil : i < c.gs.l.length := by omega
    have i0 : (0 : Int) ≤ i := by omega
    obtain ⟨w1, w2⟩ := F.whole i hil
    have hA := F.some_ (by omega)
    have gok := hc.ids _ (ix_mem hil)
    have hd : c.gs.l.drop i = ix c.gs.l i :: c.gs.l.drop (i + 1) := by
      rw [List.drop_eq_getElem_cons hil, ix, List.getD_eq_getElem?_getD, List.getElem?_eq_getElem hil]; rfl
    rw [hd, List.map_cons, grGo] at hg
    generalize ix c.gs.l i = g at *
    have w1 : rawL w (pAdd c.gs.A (i * 3)) 3 0 = [.v (.int .i64 g.place), .v (.slice g.ids.A g.ids.l.length g.ids.c), .v (.int .i64 g.need)] := w1
    have nx : (i : Int) + 1 ≤ 9223372036854775807 := by omega
    simp (config := { maxSteps := 1000000 }) only [hlt, i0, w1, w2, hA, pAdd_add, pAdd_isSome, undef, push_cast, ↓Int.toNat_natCast, ↓Int.cast_ofNat_Int, Int.cast_ofNat_Int, ↓reduceIte, reduceCtorEq, Nat.reduceEqDiff, Nat.reduceLT, Nat.reduceLeDiff, Nat.reduceAdd, Nat.reduceSub, Nat.reduceMul, Int.reduceNeg, Int.reduceLE, Int.reduceLT, Int.reduceToNat, Int.reduceAdd, Int.reduceSub, Int.reduceMul, Int.reduceEq]
    (repeat (refine And.intro (by first | omega | decide) ?_))
    refine callF_rule rfl rfl cb118 rfl (fitsK (g := g) (c := c) (last := last) (seen := seen) (k1 := 2) (k2 := 0) (k3 := 1) (j := 3) rfl rfl rfl rfl hsl gok) (dOk_lt rfl) (fun _ => by simp (config := { maxSteps := 1000000 }) only [push_cast, ↓Int.toNat_natCast, ↓Int.cast_ofNat_Int, Int.cast_ofNat_Int, ↓reduceIte, reduceCtorEq, Nat.reduceEqDiff, Nat.reduceLT, Nat.reduceLeDiff, Nat.reduceAdd, Nat.reduceSub, Nat.reduceMul, Int.reduceNeg, Int.reduceLE, Int.reduceLT, Int.reduceToNat, Int.reduceAdd, Int.reduceSub, Int.reduceMul, Int.reduceEq]) ?_
    cases hf : fitF c.ps.l.length g.gr last seen with
    | false =>
      rw [hf, if_neg (by decide)] at hg
      rw [hg] at hq
      dsimp only at hq
      simp (config := { maxSteps := 1000000 }) only [hf, hq, undef, push_cast, ↓Int.toNat_natCast, ↓Int.cast_ofNat_Int, Int.cast_ofNat_Int, ↓reduceIte, reduceCtorEq, Nat.reduceEqDiff, Nat.reduceLT, Nat.reduceLeDiff, Nat.reduceAdd, Nat.reduceSub, Nat.reduceMul, Int.reduceNeg, Int.reduceLE, Int.reduceLT, Int.reduceToNat, Int.reduceAdd, Int.reduceSub, Int.reduceMul, Int.reduceEq]
      done
    | true =>
      rw [hf, if_pos rfl] at hg
      simp (config := { maxSteps := 1000000 }) only [hf, undef, push_cast, ↓Int.toNat_natCast, ↓Int.cast_ofNat_Int, Int.cast_ofNat_Int, ↓reduceIte, reduceCtorEq, Nat.reduceEqDiff, Nat.reduceLT, Nat.reduceLeDiff, Nat.reduceAdd, Nat.reduceSub, Nat.reduceMul, Int.reduceNeg, Int.reduceLE, Int.reduceLT, Int.reduceToNat, Int.reduceAdd, Int.reduceSub, Int.reduceMul, Int.reduceEq]
      (repeat (refine And.intro (by first | omega | decide) ?_))
      refine callG_x rfl cb86 rfl (eitherK (a := seen) (b := g.ids.l) (by omega) gok.few (shows_own rfl fun _ => rfl) (shows_raw gok.rd _ _ (by simp) gok.len) (by simp only [push_cast, ↓Int.toNat_natCast, ↓Int.cast_ofNat_Int, Int.cast_ofNat_Int, ↓reduceIte, reduceCtorEq, Nat.reduceEqDiff, Nat.reduceLT, Nat.reduceLeDiff, Nat.reduceAdd, Nat.reduceSub, Nat.reduceMul, Int.reduceNeg, Int.reduceLE, Int.reduceLT, Int.reduceToNat, Int.reduceAdd, Int.reduceSub, Int.reduceMul, Int.reduceEq])) (dOk_lt rfl) (by simp only [push_cast, ↓Int.toNat_natCast, ↓Int.cast_ofNat_Int, Int.cast_ofNat_Int, ↓reduceIte, reduceCtorEq, Nat.reduceEqDiff, Nat.reduceLT, Nat.reduceLeDiff, Nat.reduceAdd, Nat.reduceSub, Nat.reduceMul, Int.reduceNeg, Int.reduceLE, Int.reduceLT, Int.reduceToNat, Int.reduceAdd, Int.reduceSub, Int.reduceMul, Int.reduceEq]) ?_
      simp (config := { maxSteps := 1000000 }) only [undef, push_cast, ↓Int.toNat_natCast, ↓Int.cast_ofNat_Int, Int.cast_ofNat_Int, ↓reduceIte, reduceCtorEq, Nat.reduceEqDiff, Nat.reduceLT, Nat.reduceLeDiff, Nat.reduceAdd, Nat.reduceSub, Nat.reduceMul, Int.reduceNeg, Int.reduceLE, Int.reduceLT, Int.reduceToNat, Int.reduceAdd, Int.reduceSub, Int.reduceMul, Int.reduceEq]
      (repeat (refine And.intro (by first | omega | decide) ?_))
      refine loopK_normal (i + 1, g.place, eitherF seen g.ids.l) [0, 1, 2, 5] ⟨by show i + 1 ≤ _; omega, either_len _ _, hg⟩ (by show c.gs.l.length - (i + 1) < c.gs.l.length - i; omega) ?_
      simp (config := { maxSteps := 1000000 }) only [push_cast, ↓Int.toNat_natCast, ↓Int.cast_ofNat_Int, Int.cast_ofNat_Int, ↓reduceIte, reduceCtorEq, Nat.reduceEqDiff, Nat.reduceLT, Nat.reduceLeDiff, Nat.reduceAdd, Nat.reduceSub, Nat.reduceMul, Int.reduceNeg, Int.reduceLE, Int.reduceLT, Int.reduceToNat, Int.reduceAdd, Int.reduceSub, Int.reduceMul, Int.reduceEq]
      done
  · have hil : i = c.gs.l.length := by omega
    rw [hil, List.drop_length, List.map_nil, grGo] at hg
    rw [hg] at hq
    dsimp only at hq
    simp (config := { maxSteps := 1000000 }) only [hlt, undef, push_cast, ↓Int.toNat_natCast, ↓Int.cast_ofNat_Int, Int.cast_ofNat_Int, ↓reduceIte, reduceCtorEq, Nat.reduceEqDiff, Nat.reduceLT, Nat.reduceLeDiff, Nat.reduceAdd, Nat.reduceSub, Nat.reduceMul, Int.reduceNeg, Int.reduceLE, Int.reduceLT, Int.reduceToNat, Int.reduceAdd, Int.reduceSub, Int.reduceMul, Int.reduceEq]
    (repeat (refine And.intro (by first | omega | decide) ?_))
    refine callG_v rfl cb75 rfl (withinK _ _ _) (dOk_lt rfl) ?_
    simp (config := { maxSteps := 1000000 }) only [hq, undef, push_cast, ↓Int.toNat_natCast, ↓Int.cast_ofNat_Int, Int.cast_ofNat_Int, ↓reduceIte, reduceCtorEq, Nat.reduceEqDiff, Nat.reduceLT, Nat.reduceLeDiff, Nat.reduceAdd, Nat.reduceSub, Nat.reduceMul, Int.reduceNeg, Int.reduceLE, Int.reduceLT, Int.reduceToNat, Int.reduceAdd, Int.reduceSub, Int.reduceMul, Int.reduceEq]
    done
end
end Go.Proofs.YtiaeollemmkclaaDoor
