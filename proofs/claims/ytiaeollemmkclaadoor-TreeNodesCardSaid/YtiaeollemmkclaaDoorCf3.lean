import Derived.Test.YtiaeollemmkclaaDoorCf2
/- Layer 21: the first group of a kind; conf.needed. -/
namespace Go.Proofs.YtiaeollemmkclaaDoor
open Go.RowKit
set_option linter.unusedSimpArgs false
set_option linter.unusedVariables false
def eqI (a b : Int) : Bool := decide (a = b)
theorem eqI_yes {a b : Int} (h : a = b) : eqI a b = true := decide_eq_true h
theorem eqI_no {a b : Int} (h : ¬ a = b) : eqI a b = false := decide_eq_false h
/-- The number of the first group at a place; below 0: there is none. -/
def idxP (i : Int) : List GrS → Nat → Int
  | [], _ => -1
  | g :: r, k => if eqI g.place i = true then (k : Int) else idxP i r (k + 1)
theorem idxP_at (i : Int) : ∀ (l : List GrS) (k : Nat), atF l i = decide (0 ≤ idxP i l k)
  | [], k => rfl
  | g :: r, k => by
    have ih := idxP_at i r (k + 1)
    unfold atF at ih ⊢
    rw [idxP, List.any_cons]
    by_cases h : g.place = i
    · rw [eqI_yes h, if_pos rfl, decide_eq_true h, decide_eq_true (by omega)]; rfl
    · rw [eqI_no h, if_neg (by decide), decide_eq_false h, Bool.false_or, ih]
theorem idxP_lt (i : Int) : ∀ (l : List GrS) (k : Nat), -1 ≤ idxP i l k ∧ idxP i l k < k + l.length
  | [], k => by rw [idxP]; simp; omega
  | g :: r, k => by
    rw [idxP]
    have ih := idxP_lt i r (k + 1)
    rw [List.length_cons]
    split <;> omega
attribute [local irreducible] Callable CallOK CallG CallM DrawG LoopG symR symM
attribute [local irreducible] wiF eqI idxP atF
/-- A function that tells whether a group stands at the place that it captured. -/
def EqPl (f : FuncId) : Prop := Callable Tryd.prog f ∧ ∀ (A : Option Addr) (i : Int) (w : World) (g : GrR), Vr w A [.int .i64 i] → Calls Tryd.prog f #[.agg (grV g).toArray, .pointer A] w fun e w' => e = .returned (.bool (eqI g.place i)) ∧ Below w.heap.size w w'
section
set_option maxRecDepth 100000 in
theorem eqPl_needed : EqPl 122 := ⟨cb122, fun A i w g hv => by
  refine calls_v (n := 8) Tryd.func122 rfl Tryd.ntmps122 [.x (.g [.v (.int .i64 g.place), .v (.slice g.ids.A g.ids.l.length g.ids.c), .v (.int .i64 g.need)]), .x (.a (.v (.pointer A)))] (by simp) (.x (.a (.v (.bool (eqI g.place i))))) (fun _ => rfl) ?_
  obtain ⟨c1, o1⟩ := hv.cell 0 _ rfl
  rw [pAdd_zero] at c1 o1
  have n1 := hv.some_
  have n2 := hv.none_
  by_cases h : g.place = i
  · have hd := eqI_yes h
    simp (config := { maxSteps := 1000000 }) only [n1, n2, c1, o1, h, hd, undef, push_cast, ↓Int.toNat_natCast, ↓Int.cast_ofNat_Int, Int.cast_ofNat_Int, ↓reduceIte, reduceCtorEq, Nat.reduceEqDiff, Nat.reduceLT, Nat.reduceLeDiff, Nat.reduceAdd, Nat.reduceSub, Nat.reduceMul, Int.reduceNeg, Int.reduceLE, Int.reduceLT, Int.reduceToNat, Int.reduceAdd, Int.reduceSub, Int.reduceMul, Int.reduceEq]
    subst h
    simp (config := { maxSteps := 1000000 }) only [hd, push_cast, ↓Int.toNat_natCast, ↓Int.cast_ofNat_Int, Int.cast_ofNat_Int, ↓reduceIte, reduceCtorEq, Nat.reduceEqDiff, Nat.reduceLT, Nat.reduceLeDiff, Nat.reduceAdd, Nat.reduceSub, Nat.reduceMul, Int.reduceNeg, Int.reduceLE, Int.reduceLT, Int.reduceToNat, Int.reduceAdd, Int.reduceSub, Int.reduceMul, Int.reduceEq]
    done
  · have hd := eqI_no h
    simp (config := { maxSteps := 1000000 }) only [n1, n2, c1, o1, h, hd, undef, push_cast, ↓Int.toNat_natCast, ↓Int.cast_ofNat_Int, Int.cast_ofNat_Int, ↓reduceIte, reduceCtorEq, Nat.reduceEqDiff, Nat.reduceLT, Nat.reduceLeDiff, Nat.reduceAdd, Nat.reduceSub, Nat.reduceMul, Int.reduceNeg, Int.reduceLE, Int.reduceLT, Int.reduceToNat, Int.reduceAdd, Int.reduceSub, Int.reduceMul, Int.reduceEq]
    done⟩
set_option maxRecDepth 100000 in
theorem eqPl_group : EqPl 125 := ⟨cb125, fun A i w g hv => by
  refine calls_v (n := 8) Tryd.func125 rfl Tryd.ntmps125 [.x (.g [.v (.int .i64 g.place), .v (.slice g.ids.A g.ids.l.length g.ids.c), .v (.int .i64 g.need)]), .x (.a (.v (.pointer A)))] (by simp) (.x (.a (.v (.bool (eqI g.place i))))) (fun _ => rfl) ?_
  obtain ⟨c1, o1⟩ := hv.cell 0 _ rfl
  rw [pAdd_zero] at c1 o1
  have n1 := hv.some_
  have n2 := hv.none_
  by_cases h : g.place = i
  · have hd := eqI_yes h
    simp (config := { maxSteps := 1000000 }) only [n1, n2, c1, o1, h, hd, undef, push_cast, ↓Int.toNat_natCast, ↓Int.cast_ofNat_Int, Int.cast_ofNat_Int, ↓reduceIte, reduceCtorEq, Nat.reduceEqDiff, Nat.reduceLT, Nat.reduceLeDiff, Nat.reduceAdd, Nat.reduceSub, Nat.reduceMul, Int.reduceNeg, Int.reduceLE, Int.reduceLT, Int.reduceToNat, Int.reduceAdd, Int.reduceSub, Int.reduceMul, Int.reduceEq]
    subst h
    simp (config := { maxSteps := 1000000 }) only [hd, push_cast, ↓Int.toNat_natCast, ↓Int.cast_ofNat_Int, Int.cast_ofNat_Int, ↓reduceIte, reduceCtorEq, Nat.reduceEqDiff, Nat.reduceLT, Nat.reduceLeDiff, Nat.reduceAdd, Nat.reduceSub, Nat.reduceMul, Int.reduceNeg, Int.reduceLE, Int.reduceLT, Int.reduceToNat, Int.reduceAdd, Int.reduceSub, Int.reduceMul, Int.reduceEq]
    done
  · have hd := eqI_no h
    simp (config := { maxSteps := 1000000 }) only [n1, n2, c1, o1, h, hd, undef, push_cast, ↓Int.toNat_natCast, ↓Int.cast_ofNat_Int, Int.cast_ofNat_Int, ↓reduceIte, reduceCtorEq, Nat.reduceEqDiff, Nat.reduceLT, Nat.reduceLeDiff, Nat.reduceAdd, Nat.reduceSub, Nat.reduceMul, Int.reduceNeg, Int.reduceLE, Int.reduceLT, Int.reduceToNat, Int.reduceAdd, Int.reduceSub, Int.reduceMul, Int.reduceEq]
    done⟩
theorem EqPl.pure {f : FuncId} {A : Option Addr} {i : Int} {w : World} (h : EqPl f) (hv : Vr w A [.int .i64 i]) : PureFn Tryd.prog w (.func (.func f) #[] #[.pointer A]) (fun g : GrR => #[.agg (grV g).toArray]) (fun g => .bool (eqI g.place i)) :=
  ⟨f, #[.pointer A], rfl, h.1, fun w' g hk => h.2 A i w' g (hv.later hk)⟩
set_option maxRecDepth 100000 in
theorem indexG_any (l : List GrR) (A : Option Addr) (c : Nat) (fv : Value) (i : Int) (w : World) (hm : l.length ≤ 1000000) (hR : RdV w w.heap.size A (l.flatMap grV)) (hP : PureFn Tryd.prog w fv (fun g : GrR => #[.agg (grV g).toArray]) (fun g => .bool (eqI g.place i))) :
    Calls Tryd.prog 124 #[.slice A l.length c, fv] w fun e w' => e = .returned (.int .i64 (idxP i (l.map GrR.gr) 0)) ∧ Below w.heap.size w w' := by
  have F := FLm.of grV_len (by decide) hR
  refine calls_v (n := 19) Tryd.func124 rfl Tryd.ntmps124 [.x (.a (.v (.slice A l.length c))), .x (.a (.v fv))] (by simp) (.x (.a (.v (.int .i64 (idxP i (l.map GrR.gr) 0))))) (fun _ => rfl) ?_
  obtain ⟨R, hr⟩ : ∃ R, R = idxP i (l.map GrR.gr) 0 := ⟨_, rfl⟩
  rw [← hr]
  simp (config := { maxSteps := 1000000 }) only [undef, push_cast, ↓Int.toNat_natCast, ↓Int.cast_ofNat_Int, Int.cast_ofNat_Int, ↓reduceIte, reduceCtorEq, Nat.reduceEqDiff, Nat.reduceLT, Nat.reduceLeDiff, Nat.reduceAdd, Nat.reduceSub, Nat.reduceMul, Int.reduceNeg, Int.reduceLE, Int.reduceLT, Int.reduceToNat, Int.reduceAdd, Int.reduceSub, Int.reduceMul, Int.reduceEq]
  refine loop_rule (ι := Nat) (fun k => ⟨[(0, .x (.a (.v (.slice A l.length c)))), (1, .x (.a (.v fv))), (7, .x (.a (.v (.int .i64 l.length)))), (8, .x (.a (.v (.int .i64 k))))], []⟩) (fun k => k ≤ l.length ∧ R = idxP i ((l.drop k).map GrR.gr) k) (fun k => l.length - k) 0 [] ⟨Nat.zero_le _, hr⟩ ?_ ?_
  · simp (config := { maxSteps := 1000000 }) only [push_cast, ↓Int.toNat_natCast, ↓Int.cast_ofNat_Int, Int.cast_ofNat_Int, ↓reduceIte, reduceCtorEq, Nat.reduceEqDiff, Nat.reduceLT, Nat.reduceLeDiff, Nat.reduceAdd, Nat.reduceSub, Nat.reduceMul, Int.reduceNeg, Int.reduceLE, Int.reduceLT, Int.reduceToNat, Int.reduceAdd, Int.reduceSub, Int.reduceMul, Int.reduceEq]
  rintro k ⟨hk, hg⟩
  by_cases hlt : (k : Int) < l.length
  · have hil : k < l.length := by omega
    have i0 : (0 : Int) ≤ k := by omega
    obtain ⟨w1, w2⟩ := F.whole k hil
    have hA := F.some_ (by omega)
    have hd : l.drop k = ix l k :: l.drop (k + 1) := by
      rw [List.drop_eq_getElem_cons hil, ix, List.getD_eq_getElem?_getD, List.getElem?_eq_getElem hil]; rfl
    rw [hd, List.map_cons, idxP] at hg
    generalize ix l k = g at *
    have hg : R = if eqI g.place i = true then (k : Int) else idxP i ((l.drop (k + 1)).map GrR.gr) (k + 1) := hg
    have w1 : rawL w (pAdd A (k * 3)) 3 0 = [.v (.int .i64 g.place), .v (.slice g.ids.A g.ids.l.length g.ids.c), .v (.int .i64 g.need)] := w1
    have nx : (k : Int) + 1 ≤ 9223372036854775807 := by omega
    simp (config := { maxSteps := 1000000 }) only [hlt, i0, w1, w2, hA, pAdd_add, pAdd_isSome, undef, push_cast, ↓Int.toNat_natCast, ↓Int.cast_ofNat_Int, Int.cast_ofNat_Int, ↓reduceIte, reduceCtorEq, Nat.reduceEqDiff, Nat.reduceLT, Nat.reduceLeDiff, Nat.reduceAdd, Nat.reduceSub, Nat.reduceMul, Int.reduceNeg, Int.reduceLE, Int.reduceLT, Int.reduceToNat, Int.reduceAdd, Int.reduceSub, Int.reduceMul, Int.reduceEq]
    (repeat (refine And.intro (by first | omega | decide) ?_))
    refine callV_rule (α := GrR) g (.x (.a (.v (.bool (eqI g.place i))))) hP rfl rfl rfl (fun _ => rfl) (fun _ => rfl) (fun _ h => h) (dOk_lt rfl) ?_
    cases hq : eqI g.place i with
    | true =>
      rw [hq, if_pos rfl] at hg
      simp (config := { maxSteps := 1000000 }) only [hq, hg, undef, push_cast, ↓Int.toNat_natCast, ↓Int.cast_ofNat_Int, Int.cast_ofNat_Int, ↓reduceIte, reduceCtorEq, Nat.reduceEqDiff, Nat.reduceLT, Nat.reduceLeDiff, Nat.reduceAdd, Nat.reduceSub, Nat.reduceMul, Int.reduceNeg, Int.reduceLE, Int.reduceLT, Int.reduceToNat, Int.reduceAdd, Int.reduceSub, Int.reduceMul, Int.reduceEq]
      done
    | false =>
      rw [hq, if_neg (by decide)] at hg
      simp (config := { maxSteps := 1000000 }) only [hq, undef, push_cast, ↓Int.toNat_natCast, ↓Int.cast_ofNat_Int, Int.cast_ofNat_Int, ↓reduceIte, reduceCtorEq, Nat.reduceEqDiff, Nat.reduceLT, Nat.reduceLeDiff, Nat.reduceAdd, Nat.reduceSub, Nat.reduceMul, Int.reduceNeg, Int.reduceLE, Int.reduceLT, Int.reduceToNat, Int.reduceAdd, Int.reduceSub, Int.reduceMul, Int.reduceEq]
      (repeat (refine And.intro (by first | omega | decide) ?_))
      refine loopK_normal (k + 1) [] ⟨by omega, hg⟩ (by omega) ?_
      simp (config := { maxSteps := 1000000 }) only [push_cast, ↓Int.toNat_natCast, ↓Int.cast_ofNat_Int, Int.cast_ofNat_Int, ↓reduceIte, reduceCtorEq, Nat.reduceEqDiff, Nat.reduceLT, Nat.reduceLeDiff, Nat.reduceAdd, Nat.reduceSub, Nat.reduceMul, Int.reduceNeg, Int.reduceLE, Int.reduceLT, Int.reduceToNat, Int.reduceAdd, Int.reduceSub, Int.reduceMul, Int.reduceEq]
      done
  · obtain rfl : k = l.length := by omega
    rw [List.drop_length, List.map_nil, idxP] at hg
    simp (config := { maxSteps := 1000000 }) only [hlt, hg, undef, push_cast, ↓Int.toNat_natCast, ↓Int.cast_ofNat_Int, Int.cast_ofNat_Int, ↓reduceIte, reduceCtorEq, Nat.reduceEqDiff, Nat.reduceLT, Nat.reduceLeDiff, Nat.reduceAdd, Nat.reduceSub, Nat.reduceMul, Int.reduceNeg, Int.reduceLE, Int.reduceLT, Int.reduceToNat, Int.reduceAdd, Int.reduceSub, Int.reduceMul, Int.reduceEq]
    done
set_option maxRecDepth 100000 in
theorem containsG_any (l : List GrR) (A : Option Addr) (c : Nat) (fv : Value) (i : Int) (w : World) (hm : l.length ≤ 1000000) (hc : l.length ≤ c) (hR : RdV w w.heap.size A (l.flatMap grV)) (hP : PureFn Tryd.prog w fv (fun g : GrR => #[.agg (grV g).toArray]) (fun g => .bool (eqI g.place i))) :
    Calls Tryd.prog 121 #[.slice A l.length c, fv] w fun e w' => e = .returned (.bool (atF (l.map GrR.gr) i)) ∧ Below w.heap.size w w' := by
  refine calls_v (n := 9) Tryd.func121 rfl Tryd.ntmps121 [.x (.a (.v (.slice A l.length c))), .x (.a (.v fv))] (by simp) (.x (.a (.v (.bool (atF (l.map GrR.gr) i))))) (fun _ => rfl) ?_
  simp (config := { maxSteps := 1000000 }) only [undef, push_cast, ↓Int.toNat_natCast, ↓Int.cast_ofNat_Int, Int.cast_ofNat_Int, ↓reduceIte, reduceCtorEq, Nat.reduceEqDiff, Nat.reduceLT, Nat.reduceLeDiff, Nat.reduceAdd, Nat.reduceSub, Nat.reduceMul, Int.reduceNeg, Int.reduceLE, Int.reduceLT, Int.reduceToNat, Int.reduceAdd, Int.reduceSub, Int.reduceMul, Int.reduceEq]
  (repeat (refine And.intro (by first | omega | decide) ?_))
  have iK : ∀ hp, CallOK Tryd.prog w No 124 [.x (.a (.v (.slice A l.length c))), .x (.a (.v fv))] hp (.x (.a (.v (.int .i64 (idxP i (l.map GrR.gr) 0))))) hp := fun hp => callOK_v fun γ w' hS => indexG_any l A c fv i w' hm (rd_later hR hS) (by
    obtain ⟨f, caps, e, hcb, hF⟩ := hP
    exact ⟨f, caps, e, hcb, fun w2 x hk => hF w2 x (Keeps.trans hS.keeps hk)⟩)
  refine callG_v rfl cb124 rfl (iK _) (dOk_lt rfl) ?_
  have e := idxP_at i (l.map GrR.gr) 0
  simp (config := { maxSteps := 1000000 }) only [e, undef, push_cast, ↓Int.toNat_natCast, ↓Int.cast_ofNat_Int, Int.cast_ofNat_Int, ↓reduceIte, reduceCtorEq, Nat.reduceEqDiff, Nat.reduceLT, Nat.reduceLeDiff, Nat.reduceAdd, Nat.reduceSub, Nat.reduceMul, Int.reduceNeg, Int.reduceLE, Int.reduceLT, Int.reduceToNat, Int.reduceAdd, Int.reduceSub, Int.reduceMul, Int.reduceEq]
  done
end
end Go.Proofs.YtiaeollemmkclaaDoor
