import Derived.Test.YtiaeollemmkclaaDoorCf4
/- Layer 21: conf.Check, Clients. -/
namespace Go.Proofs.YtiaeollemmkclaaDoor
open Go.RowKit
set_option linter.unusedSimpArgs false
set_option linter.unusedVariables false
attribute [local irreducible] Callable CallOK CallG CallM DrawG LoopG symR symM
attribute [local irreducible] wiF stF grF neF okV allF cfF
section
theorem standingK {w0 : World} {hp : List Res} (c : CfR) (hc : c.Ok w0) : CallOK Tryd.prog w0 No 76 [.x (.a (.v (.slice c.ps.A c.ps.l.length c.ps.c)))] hp (.x (.a (.v (.bool (stF c.ps.l))))) hp := callOK_v fun γ w hS => standing_any c.ps.l c.ps.A c.ps.c w hc.pfew (rd_later hc.prd hS)
theorem groupedK {w0 : World} {hp : List Res} (c : CfR) (hc : c.Ok w0) : CallOK Tryd.prog w0 No 77 [.x (.g [.v (.int .i64 c.dim), .v (.slice c.ps.A c.ps.l.length c.ps.c), .v (.slice c.gs.A c.gs.l.length c.gs.c), .v (.int .i64 c.least), .v (.int .i64 c.term)])] hp (.x (.a (.v (.bool (grF c.cf))))) hp := callOK_v fun γ w hS => grouped_any c w (hc.later hS)
theorem neededK {w0 : World} {hp : List Res} (c : CfR) (hc : c.Ok w0) (hst : StOk c.ps.l) : CallOK Tryd.prog w0 No 78 [.x (.g [.v (.int .i64 c.dim), .v (.slice c.ps.A c.ps.l.length c.ps.c), .v (.slice c.gs.A c.gs.l.length c.gs.c), .v (.int .i64 c.least), .v (.int .i64 c.term)])] hp (.x (.a (.v (.bool (neF c.cf))))) hp := callOK_v fun γ w hS => needed_any c w (hc.later hS) hst
set_option maxRecDepth 100000 in
theorem checkCf_any (c : CfR) (w : World) (hc : c.Ok w) : Calls Tryd.prog 28 #[.agg (cfV c).toArray] w fun e w' => e = .returned (okV (cfF c.cf) 1) ∧ Below w.heap.size w w' := by
  refine calls_v (n := 29) Tryd.func28 rfl Tryd.ntmps28 [.x (.g [.v (.int .i64 c.dim), .v (.slice c.ps.A c.ps.l.length c.ps.c), .v (.slice c.gs.A c.gs.l.length c.gs.c), .v (.int .i64 c.least), .v (.int .i64 c.term)])] (by simp) (.x (.a (.v (okV (cfF c.cf) 1)))) (fun _ => rfl) ?_
  have hq : cfF c.cf = (wiF c.dim 1 32 && wiF c.term 1 1000 && stF c.ps.l && grF c.cf && neF c.cf) := by unfold cfF; rfl
  have hT := okV_true 1
  have hF := okV_false 1
  simp (config := { maxSteps := 1000000 }) only [undef, push_cast, ↓Int.toNat_natCast, ↓Int.cast_ofNat_Int, Int.cast_ofNat_Int, ↓reduceIte, reduceCtorEq, Nat.reduceEqDiff, Nat.reduceLT, Nat.reduceLeDiff, Nat.reduceAdd, Nat.reduceSub, Nat.reduceMul, Int.reduceNeg, Int.reduceLE, Int.reduceLT, Int.reduceToNat, Int.reduceAdd, Int.reduceSub, Int.reduceMul, Int.reduceEq]
  (repeat (refine And.intro (by first | omega | decide) ?_))
  refine callG_v rfl cb75 rfl (withinK _ _ _) (dOk_lt rfl) ?_
  cases h1 : wiF c.dim 1 32 with
  | false =>
    rw [h1] at hq
    simp only [Bool.false_and] at hq
    simp (config := { maxSteps := 1000000 }) only [hq, hF, undef, push_cast, ↓Int.toNat_natCast, ↓Int.cast_ofNat_Int, Int.cast_ofNat_Int, ↓reduceIte, reduceCtorEq, Nat.reduceEqDiff, Nat.reduceLT, Nat.reduceLeDiff, Nat.reduceAdd, Nat.reduceSub, Nat.reduceMul, Int.reduceNeg, Int.reduceLE, Int.reduceLT, Int.reduceToNat, Int.reduceAdd, Int.reduceSub, Int.reduceMul, Int.reduceEq]
    done
  | true =>
    rw [h1, Bool.true_and] at hq
    simp (config := { maxSteps := 1000000 }) only [undef, push_cast, ↓Int.toNat_natCast, ↓Int.cast_ofNat_Int, Int.cast_ofNat_Int, ↓reduceIte, reduceCtorEq, Nat.reduceEqDiff, Nat.reduceLT, Nat.reduceLeDiff, Nat.reduceAdd, Nat.reduceSub, Nat.reduceMul, Int.reduceNeg, Int.reduceLE, Int.reduceLT, Int.reduceToNat, Int.reduceAdd, Int.reduceSub, Int.reduceMul, Int.reduceEq]
    (repeat (refine And.intro (by first | omega | decide) ?_))
    refine callG_v rfl cb75 rfl (withinK _ _ _) (dOk_lt rfl) ?_
    cases h2 : wiF c.term 1 1000 with
    | false =>
      rw [h2] at hq
      simp only [Bool.false_and] at hq
      simp (config := { maxSteps := 1000000 }) only [hq, hF, undef, push_cast, ↓Int.toNat_natCast, ↓Int.cast_ofNat_Int, Int.cast_ofNat_Int, ↓reduceIte, reduceCtorEq, Nat.reduceEqDiff, Nat.reduceLT, Nat.reduceLeDiff, Nat.reduceAdd, Nat.reduceSub, Nat.reduceMul, Int.reduceNeg, Int.reduceLE, Int.reduceLT, Int.reduceToNat, Int.reduceAdd, Int.reduceSub, Int.reduceMul, Int.reduceEq]
      done
    | true =>
      rw [h2, Bool.true_and] at hq
      simp (config := { maxSteps := 1000000 }) only [undef, push_cast, ↓Int.toNat_natCast, ↓Int.cast_ofNat_Int, Int.cast_ofNat_Int, ↓reduceIte, reduceCtorEq, Nat.reduceEqDiff, Nat.reduceLT, Nat.reduceLeDiff, Nat.reduceAdd, Nat.reduceSub, Nat.reduceMul, Int.reduceNeg, Int.reduceLE, Int.reduceLT, Int.reduceToNat, Int.reduceAdd, Int.reduceSub, Int.reduceMul, Int.reduceEq]
      (repeat (refine And.intro (by first | omega | decide) ?_))
      refine callG_v rfl cb76 rfl (standingK c hc) (dOk_lt rfl) ?_
      cases h3 : stF c.ps.l with
      | false =>
        rw [h3] at hq
        simp only [Bool.false_and] at hq
        simp (config := { maxSteps := 1000000 }) only [hq, hF, undef, push_cast, ↓Int.toNat_natCast, ↓Int.cast_ofNat_Int, Int.cast_ofNat_Int, ↓reduceIte, reduceCtorEq, Nat.reduceEqDiff, Nat.reduceLT, Nat.reduceLeDiff, Nat.reduceAdd, Nat.reduceSub, Nat.reduceMul, Int.reduceNeg, Int.reduceLE, Int.reduceLT, Int.reduceToNat, Int.reduceAdd, Int.reduceSub, Int.reduceMul, Int.reduceEq]
        done
      | true =>
        rw [h3, Bool.true_and] at hq
        simp (config := { maxSteps := 1000000 }) only [undef, push_cast, ↓Int.toNat_natCast, ↓Int.cast_ofNat_Int, Int.cast_ofNat_Int, ↓reduceIte, reduceCtorEq, Nat.reduceEqDiff, Nat.reduceLT, Nat.reduceLeDiff, Nat.reduceAdd, Nat.reduceSub, Nat.reduceMul, Int.reduceNeg, Int.reduceLE, Int.reduceLT, Int.reduceToNat, Int.reduceAdd, Int.reduceSub, Int.reduceMul, Int.reduceEq]
        (repeat (refine And.intro (by first | omega | decide) ?_))
        refine callG_v rfl cb77 rfl (groupedK c hc) (dOk_lt rfl) ?_
        cases h4 : grF c.cf with
        | false =>
          rw [h4] at hq
          simp only [Bool.false_and] at hq
          simp (config := { maxSteps := 1000000 }) only [hq, hF, undef, push_cast, ↓Int.toNat_natCast, ↓Int.cast_ofNat_Int, Int.cast_ofNat_Int, ↓reduceIte, reduceCtorEq, Nat.reduceEqDiff, Nat.reduceLT, Nat.reduceLeDiff, Nat.reduceAdd, Nat.reduceSub, Nat.reduceMul, Int.reduceNeg, Int.reduceLE, Int.reduceLT, Int.reduceToNat, Int.reduceAdd, Int.reduceSub, Int.reduceMul, Int.reduceEq]
          done
        | true =>
          rw [h4, Bool.true_and] at hq
          simp (config := { maxSteps := 1000000 }) only [undef, push_cast, ↓Int.toNat_natCast, ↓Int.cast_ofNat_Int, Int.cast_ofNat_Int, ↓reduceIte, reduceCtorEq, Nat.reduceEqDiff, Nat.reduceLT, Nat.reduceLeDiff, Nat.reduceAdd, Nat.reduceSub, Nat.reduceMul, Int.reduceNeg, Int.reduceLE, Int.reduceLT, Int.reduceToNat, Int.reduceAdd, Int.reduceSub, Int.reduceMul, Int.reduceEq]
          (repeat (refine And.intro (by first | omega | decide) ?_))
          refine callG_v rfl cb78 rfl (neededK c hc (stF_ok h3)) (dOk_lt rfl) ?_
          cases h5 : neF c.cf with
          | false =>
            rw [h5] at hq
            simp (config := { maxSteps := 1000000 }) only [hq, hF, undef, push_cast, ↓Int.toNat_natCast, ↓Int.cast_ofNat_Int, Int.cast_ofNat_Int, ↓reduceIte, reduceCtorEq, Nat.reduceEqDiff, Nat.reduceLT, Nat.reduceLeDiff, Nat.reduceAdd, Nat.reduceSub, Nat.reduceMul, Int.reduceNeg, Int.reduceLE, Int.reduceLT, Int.reduceToNat, Int.reduceAdd, Int.reduceSub, Int.reduceMul, Int.reduceEq]
            done
          | true =>
            rw [h5] at hq
            simp (config := { maxSteps := 1000000 }) only [hq, hT, undef, push_cast, ↓Int.toNat_natCast, ↓Int.cast_ofNat_Int, Int.cast_ofNat_Int, ↓reduceIte, reduceCtorEq, Nat.reduceEqDiff, Nat.reduceLT, Nat.reduceLeDiff, Nat.reduceAdd, Nat.reduceSub, Nat.reduceMul, Int.reduceNeg, Int.reduceLE, Int.reduceLT, Int.reduceToNat, Int.reduceAdd, Int.reduceSub, Int.reduceMul, Int.reduceEq]
            done
theorem checkCfR {w0 : World} {hp : List Res} (c : CfR) (hc : c.Ok w0) : CallOK Tryd.prog w0 No 28 [.x (.g [.v (.int .i64 c.dim), .v (.slice c.ps.A c.ps.l.length c.ps.c), .v (.slice c.gs.A c.gs.l.length c.gs.c), .v (.int .i64 c.least), .v (.int .i64 c.term)])] hp (.x (.a (.v (okV (cfF c.cf) 1)))) hp := callOK_v fun γ w hS => checkCf_any c w (hc.later hS)
theorem checkCfK {w0 : World} {hp : List Res} {s : Sv} {c : CfS} (h : ShowsCf w0 hp s c) : CallOK Tryd.prog w0 No 28 [s] hp (.x (.a (.v (okV (cfF c) 1)))) hp := callOK_v fun γ w hS => by
  obtain ⟨a, e, h1, rfl⟩ := h γ w hS
  show Calls _ _ #[s.val γ] w _
  rw [e]
  exact checkCf_any a w h1
def allTo (gs : List GrS) (k : Nat) : List Int := (gs.take k).foldl (fun s g => eitherF s g.ids) []
theorem allTo_succ {gs : List GrS} {k : Nat} (h : k < gs.length) : allTo gs (k + 1) = eitherF (allTo gs k) (ix gs k).ids := by
  unfold allTo
  rw [List.take_add_one, List.getElem?_eq_getElem h, Option.toList_some, List.foldl_append, List.foldl_cons, List.foldl_nil, ix, List.getD_eq_getElem?_getD, List.getElem?_eq_getElem h]
  rfl
theorem allTo_all (gs : List GrS) : allTo gs gs.length = allF gs := by unfold allTo allF; rw [List.take_length]
theorem allTo_len (gs : List GrS) (k : Nat) : (allTo gs k).length ≤ 64 := by
  unfold allTo
  suffices ∀ (l : List GrS) (s : List Int), s.length ≤ 64 → (l.foldl (fun s g => eitherF s g.ids) s).length ≤ 64 from this _ _ (by simp)
  intro l
  induction l with
  | nil => exact fun s h => h
  | cons g l ih => exact fun s h => ih _ (either_len _ _)
theorem ix_map' {α β : Type} [Inhabited α] [Inhabited β] (f : α → β) (l : List α) {i : Nat} (h : i < l.length) : ix (l.map f) i = f (ix l i) := by
  rw [ix, ix, List.getD_eq_getElem?_getD, List.getD_eq_getElem?_getD, List.getElem?_map, List.getElem?_eq_getElem h]
  rfl
attribute [local irreducible] allTo clientsF eitherF
set_option maxRecDepth 100000 in
theorem clients_any (c : CfR) (w : World) (hc : c.Ok w) : Calls Tryd.prog 33 #[.agg (cfV c).toArray] w fun e w' => ∃ x, e = .returned x ∧ Own w' w.heap.size 3 x ((clientsF c.cf).map (Value.int .i64)) ∧ Below w.heap.size w w' := by
  have F := FLm.of grV_len (by decide) hc.grd
  have hgf := hc.gfew
  refine calls_own (n := 22) Tryd.func33 rfl Tryd.ntmps33 [.x (.g [.v (.int .i64 c.dim), .v (.slice c.ps.A c.ps.l.length c.ps.c), .v (.slice c.gs.A c.gs.l.length c.gs.c), .v (.int .i64 c.least), .v (.int .i64 c.term)])] (by simp) 3 (.i64 (clientsF c.cf)) (fun _ => rfl) ?_
  have hT := okV_true 1
  have hF := okV_false 1
  simp (config := { maxSteps := 1000000 }) only [undef, push_cast, ↓Int.toNat_natCast, ↓Int.cast_ofNat_Int, Int.cast_ofNat_Int, ↓reduceIte, reduceCtorEq, Nat.reduceEqDiff, Nat.reduceLT, Nat.reduceLeDiff, Nat.reduceAdd, Nat.reduceSub, Nat.reduceMul, Int.reduceNeg, Int.reduceLE, Int.reduceLT, Int.reduceToNat, Int.reduceAdd, Int.reduceSub, Int.reduceMul, Int.reduceEq]
  (repeat (refine And.intro (by first | omega | decide) ?_))
  refine callG_v rfl cb28 rfl (checkCfR c hc) (dOk_lt rfl) ?_
  cases hk : cfF c.cf with
  | false =>
    have hq : clientsF c.cf = [] := by unfold clientsF; rw [hk]; rfl
    simp (config := { maxSteps := 1000000 }) only [hF, hq, undef, push_cast, ↓Int.toNat_natCast, ↓Int.cast_ofNat_Int, Int.cast_ofNat_Int, ↓reduceIte, reduceCtorEq, Nat.reduceEqDiff, Nat.reduceLT, Nat.reduceLeDiff, Nat.reduceAdd, Nat.reduceSub, Nat.reduceMul, Int.reduceNeg, Int.reduceLE, Int.reduceLT, Int.reduceToNat, Int.reduceAdd, Int.reduceSub, Int.reduceMul, Int.reduceEq]
    done
  | true =>
    have hq : clientsF c.cf = allF (c.gs.l.map GrR.gr) := by unfold clientsF; rw [hk]; rfl
    simp (config := { maxSteps := 1000000 }) only [hT, undef, push_cast, ↓Int.toNat_natCast, ↓Int.cast_ofNat_Int, Int.cast_ofNat_Int, ↓reduceIte, reduceCtorEq, Nat.reduceEqDiff, Nat.reduceLT, Nat.reduceLeDiff, Nat.reduceAdd, Nat.reduceSub, Nat.reduceMul, Int.reduceNeg, Int.reduceLE, Int.reduceLT, Int.reduceToNat, Int.reduceAdd, Int.reduceSub, Int.reduceMul, Int.reduceEq]
    refine loop_ghost 3 3 (.i64 []) rfl rfl trivial (by simp (config := { maxSteps := 1000000 }) only [undef, push_cast, ↓Int.toNat_natCast, ↓Int.cast_ofNat_Int, Int.cast_ofNat_Int, ↓reduceIte, reduceCtorEq, Nat.reduceEqDiff, Nat.reduceLT, Nat.reduceLeDiff, Nat.reduceAdd, Nat.reduceSub, Nat.reduceMul, Int.reduceNeg, Int.reduceLE, Int.reduceLT, Int.reduceToNat, Int.reduceAdd, Int.reduceSub, Int.reduceMul, Int.reduceEq]) ?_
    simp (config := { maxSteps := 1000000 }) only [undef, push_cast, ↓Int.toNat_natCast, ↓Int.cast_ofNat_Int, Int.cast_ofNat_Int, ↓reduceIte, reduceCtorEq, Nat.reduceEqDiff, Nat.reduceLT, Nat.reduceLeDiff, Nat.reduceAdd, Nat.reduceSub, Nat.reduceMul, Int.reduceNeg, Int.reduceLE, Int.reduceLT, Int.reduceToNat, Int.reduceAdd, Int.reduceSub, Int.reduceMul, Int.reduceEq]
    refine loop_rule (ι := Nat) (fun i => ⟨[(3, .x (.a (.o 0))), (10, .x (.a (.v (.slice c.gs.A c.gs.l.length c.gs.c)))), (11, .x (.a (.v (.int .i64 c.gs.l.length)))), (12, .x (.a (.v (.int .i64 i))))], [.own 3 (.i64 (allTo (c.gs.l.map GrR.gr) i))]⟩) (fun i => i ≤ c.gs.l.length) (fun i => c.gs.l.length - i) 0 [1] (Nat.zero_le _) ?_ ?_
    · have e0 : allTo (c.gs.l.map GrR.gr) 0 = [] := by unfold allTo; rfl
      simp (config := { maxSteps := 1000000 }) only [e0, push_cast, ↓Int.toNat_natCast, ↓Int.cast_ofNat_Int, Int.cast_ofNat_Int, ↓reduceIte, reduceCtorEq, Nat.reduceEqDiff, Nat.reduceLT, Nat.reduceLeDiff, Nat.reduceAdd, Nat.reduceSub, Nat.reduceMul, Int.reduceNeg, Int.reduceLE, Int.reduceLT, Int.reduceToNat, Int.reduceAdd, Int.reduceSub, Int.reduceMul, Int.reduceEq]
    intro i hi
    by_cases hlt : (i : Int) < c.gs.l.length
    · have hil : i < c.gs.l.length := by omega
      have i0 : (0 : Int) ≤ i := by omega
      obtain ⟨w1, w2⟩ := F.whole i hil
      have hA := F.some_ (by omega)
      have gok := hc.ids _ (ix_mem hil)
      have e1 := allTo_succ (gs := c.gs.l.map GrR.gr) (k := i) (by simpa using hil)
      rw [ix_map' GrR.gr c.gs.l hil] at e1
      have el := allTo_len (c.gs.l.map GrR.gr) i
      generalize ix c.gs.l i = g at *
      have e1 : allTo (c.gs.l.map GrR.gr) (i + 1) = eitherF (allTo (c.gs.l.map GrR.gr) i) g.ids.l := e1
      have w1 : rawL w (pAdd c.gs.A (i * 3)) 3 0 = [.v (.int .i64 g.place), .v (.slice g.ids.A g.ids.l.length g.ids.c), .v (.int .i64 g.need)] := w1
      have nx : (i : Int) + 1 ≤ 9223372036854775807 := by omega
      simp (config := { maxSteps := 1000000 }) only [hlt, i0, w1, w2, hA, pAdd_add, pAdd_isSome, undef, push_cast, ↓Int.toNat_natCast, ↓Int.cast_ofNat_Int, Int.cast_ofNat_Int, ↓reduceIte, reduceCtorEq, Nat.reduceEqDiff, Nat.reduceLT, Nat.reduceLeDiff, Nat.reduceAdd, Nat.reduceSub, Nat.reduceMul, Int.reduceNeg, Int.reduceLE, Int.reduceLT, Int.reduceToNat, Int.reduceAdd, Int.reduceSub, Int.reduceMul, Int.reduceEq]
      (repeat (refine And.intro (by first | omega | decide) ?_))
      refine callG_x rfl cb86 rfl (eitherK (by omega) gok.few (shows_own rfl fun _ => rfl) (shows_raw gok.rd _ _ (by simp) gok.len) (by simp only [push_cast, ↓Int.toNat_natCast, ↓Int.cast_ofNat_Int, Int.cast_ofNat_Int, ↓reduceIte, reduceCtorEq, Nat.reduceEqDiff, Nat.reduceLT, Nat.reduceLeDiff, Nat.reduceAdd, Nat.reduceSub, Nat.reduceMul, Int.reduceNeg, Int.reduceLE, Int.reduceLT, Int.reduceToNat, Int.reduceAdd, Int.reduceSub, Int.reduceMul, Int.reduceEq])) (dOk_lt rfl) (by simp only [push_cast, ↓Int.toNat_natCast, ↓Int.cast_ofNat_Int, Int.cast_ofNat_Int, ↓reduceIte, reduceCtorEq, Nat.reduceEqDiff, Nat.reduceLT, Nat.reduceLeDiff, Nat.reduceAdd, Nat.reduceSub, Nat.reduceMul, Int.reduceNeg, Int.reduceLE, Int.reduceLT, Int.reduceToNat, Int.reduceAdd, Int.reduceSub, Int.reduceMul, Int.reduceEq]) ?_
      simp (config := { maxSteps := 1000000 }) only [nx, undef, push_cast, ↓Int.toNat_natCast, ↓Int.cast_ofNat_Int, Int.cast_ofNat_Int, ↓reduceIte, reduceCtorEq, Nat.reduceEqDiff, Nat.reduceLT, Nat.reduceLeDiff, Nat.reduceAdd, Nat.reduceSub, Nat.reduceMul, Int.reduceNeg, Int.reduceLE, Int.reduceLT, Int.reduceToNat, Int.reduceAdd, Int.reduceSub, Int.reduceMul, Int.reduceEq]
      (repeat (refine And.intro (by first | omega | decide) ?_))
      refine loopK_normal (i + 1) [2] (by show i + 1 ≤ _; omega) (by show c.gs.l.length - (i + 1) < c.gs.l.length - i; omega) ?_
      simp (config := { maxSteps := 1000000 }) only [e1, push_cast, ↓Int.toNat_natCast, ↓Int.cast_ofNat_Int, Int.cast_ofNat_Int, ↓reduceIte, reduceCtorEq, Nat.reduceEqDiff, Nat.reduceLT, Nat.reduceLeDiff, Nat.reduceAdd, Nat.reduceSub, Nat.reduceMul, Int.reduceNeg, Int.reduceLE, Int.reduceLT, Int.reduceToNat, Int.reduceAdd, Int.reduceSub, Int.reduceMul, Int.reduceEq]
      done
    · obtain rfl : i = c.gs.l.length := by omega
      have e1 := allTo_all (c.gs.l.map GrR.gr)
      rw [List.length_map] at e1
      simp (config := { maxSteps := 1000000 }) only [hlt, e1, hq, undef, push_cast, ↓Int.toNat_natCast, ↓Int.cast_ofNat_Int, Int.cast_ofNat_Int, ↓reduceIte, reduceCtorEq, Nat.reduceEqDiff, Nat.reduceLT, Nat.reduceLeDiff, Nat.reduceAdd, Nat.reduceSub, Nat.reduceMul, Int.reduceNeg, Int.reduceLE, Int.reduceLT, Int.reduceToNat, Int.reduceAdd, Int.reduceSub, Int.reduceMul, Int.reduceEq]
      done
theorem clientsR {w0 : World} {hp : List Res} (c : CfR) (hc : c.Ok w0) (hbr : ∀ r ∈ hp, Res.bnd hp.length r) : CallOK Tryd.prog w0 No 33 [.x (.g [.v (.int .i64 c.dim), .v (.slice c.ps.A c.ps.l.length c.ps.c), .v (.slice c.gs.A c.gs.l.length c.gs.c), .v (.int .i64 c.least), .v (.int .i64 c.term)])] hp (.x (.a (.o hp.length))) (hp ++ [.own 3 (.i64 (clientsF c.cf))]) := callOK_own hbr trivial fun γ w hS => clients_any c w (hc.later hS)
theorem clientsK {w0 : World} {hp : List Res} {s : Sv} {c : CfS} (h : ShowsCf w0 hp s c) (hbr : ∀ r ∈ hp, Res.bnd hp.length r) : CallOK Tryd.prog w0 No 33 [s] hp (.x (.a (.o hp.length))) (hp ++ [.own 3 (.i64 (clientsF c))]) := callOK_own hbr trivial fun γ w hS => by
  obtain ⟨a, e, h1, rfl⟩ := h γ w hS
  show Calls _ _ #[s.val γ] w _
  rw [e]
  exact clients_any a w h1
end
end Go.Proofs.YtiaeollemmkclaaDoor
