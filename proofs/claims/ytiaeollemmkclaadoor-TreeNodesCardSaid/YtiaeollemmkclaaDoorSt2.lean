import Derived.Test.YtiaeollemmkclaaDoorSt1
/- Layer 15: sets out of two, what is in, what may be. -/
namespace Go.Proofs.YtiaeollemmkclaaDoor
open Go.RowKit
set_option linter.unusedSimpArgs false
set_option linter.unusedVariables false
theorem hasF_yes {l : List Int} {n : Int} (h : 0 ≤ n ∧ n < 64) : hasF l n = decide (shr64 (bitsF l) n.toNat &&& 1 = 1) := by
  unfold hasF bitT
  rw [decide_eq_true h, Bool.true_and]
theorem hasF_no {l : List Int} {n : Int} (h : ¬ (0 ≤ n ∧ n < 64)) : hasF l n = false := by
  unfold hasF
  rw [decide_eq_false h, Bool.false_and]
attribute [local irreducible] Callable CallOK CallG CallM DrawG LoopG symR symM
attribute [local irreducible] bitsF fromF canF hasF chkS
section
variable {w0 : World} {ow : Nat → Prop} {hp : List Res} {a b : List Int} {s1 s2 : Sv}
theorem two_args {f : FuncId} {P : Program} {svs : List Sv} {s1 s2 : Sv} {w0 : World} {ow : Nat → Prop} {hp : List Res} {va vb : List Value} {Q : World → Ending → World → Prop} (h1 : Shows w0 ow hp s1 va) (h2 : Shows w0 ow hp s2 vb)
    (h : ∀ A c A2 c2 w, va.length ≤ c → vb.length ≤ c2 → RdV w w.heap.size A va → RdV w w.heap.size A2 vb → Calls P f #[.slice A va.length c, .slice A2 vb.length c2] w (Q w)) : ∀ γ w, Sat w0 ow γ hp w → Calls P f (List.map (Sv.val γ) [s1, s2]).toArray w (Q w) := fun γ w hS => by
  obtain ⟨A, c, e1, b1, r1⟩ := h1 γ w hS
  obtain ⟨A2, c2, e2, b2, r2⟩ := h2 γ w hS
  show Calls P f #[s1.val γ, s2.val γ] w _
  rw [e1, e2]
  exact h A c A2 c2 w b1 b2 r1 r2
set_option maxRecDepth 100000 in
theorem either_any (a b : List Int) (A A2 : Option Addr) (c c2 : Nat) (w : World) (ha : a.length ≤ 1000000) (hb : b.length ≤ 1000000) (hc : a.length ≤ c) (hc2 : b.length ≤ c2) (hR : RdV w w.heap.size A (a.map (Value.int .i64))) (hR2 : RdV w w.heap.size A2 (b.map (Value.int .i64))) :
    Calls Tryd.prog 86 #[.slice A a.length c, .slice A2 b.length c2] w fun e w' => ∃ x, e = .returned x ∧ Own w' w.heap.size 3 x ((eitherF a b).map (Value.int .i64)) ∧ Below w.heap.size w w' := by
  refine calls_own (n := 11) Tryd.func86 rfl Tryd.ntmps86 [.x (.a (.v (.slice A a.length c))), .x (.a (.v (.slice A2 b.length c2)))] (by simp) 3 (.i64 (eitherF a b)) (fun _ => rfl) ?_
  simp (config := { maxSteps := 1000000 }) only [undef, push_cast, ↓Int.toNat_natCast, ↓Int.cast_ofNat_Int, Int.cast_ofNat_Int, ↓reduceIte, reduceCtorEq, Nat.reduceEqDiff, Nat.reduceLT, Nat.reduceLeDiff, Nat.reduceAdd, Nat.reduceSub, Nat.reduceMul, Int.reduceNeg, Int.reduceLE, Int.reduceLT, Int.reduceToNat, Int.reduceAdd, Int.reduceSub, Int.reduceMul, Int.reduceEq]
  (repeat (refine And.intro (by first | omega | decide) ?_))
  refine callG_v rfl cb85 rfl (bitsK ha (shows_raw hR _ _ (by simp) hc)) (dOk_lt rfl) ?_
  simp (config := { maxSteps := 1000000 }) only [undef, push_cast, ↓Int.toNat_natCast, ↓Int.cast_ofNat_Int, Int.cast_ofNat_Int, ↓reduceIte, reduceCtorEq, Nat.reduceEqDiff, Nat.reduceLT, Nat.reduceLeDiff, Nat.reduceAdd, Nat.reduceSub, Nat.reduceMul, Int.reduceNeg, Int.reduceLE, Int.reduceLT, Int.reduceToNat, Int.reduceAdd, Int.reduceSub, Int.reduceMul, Int.reduceEq]
  (repeat (refine And.intro (by first | omega | decide) ?_))
  refine callG_v rfl cb85 rfl (bitsK hb (shows_raw hR2 _ _ (by simp) hc2)) (dOk_lt rfl) ?_
  simp (config := { maxSteps := 1000000 }) only [undef, push_cast, ↓Int.toNat_natCast, ↓Int.cast_ofNat_Int, Int.cast_ofNat_Int, ↓reduceIte, reduceCtorEq, Nat.reduceEqDiff, Nat.reduceLT, Nat.reduceLeDiff, Nat.reduceAdd, Nat.reduceSub, Nat.reduceMul, Int.reduceNeg, Int.reduceLE, Int.reduceLT, Int.reduceToNat, Int.reduceAdd, Int.reduceSub, Int.reduceMul, Int.reduceEq]
  (repeat (refine And.intro (by first | omega | decide) ?_))
  refine callG_x rfl cb126 rfl (fromK _ (by simp only [push_cast, ↓Int.toNat_natCast, ↓Int.cast_ofNat_Int, Int.cast_ofNat_Int, ↓reduceIte, reduceCtorEq, Nat.reduceEqDiff, Nat.reduceLT, Nat.reduceLeDiff, Nat.reduceAdd, Nat.reduceSub, Nat.reduceMul, Int.reduceNeg, Int.reduceLE, Int.reduceLT, Int.reduceToNat, Int.reduceAdd, Int.reduceSub, Int.reduceMul, Int.reduceEq])) (dOk_lt rfl) (by simp only [push_cast, ↓Int.toNat_natCast, ↓Int.cast_ofNat_Int, Int.cast_ofNat_Int, ↓reduceIte, reduceCtorEq, Nat.reduceEqDiff, Nat.reduceLT, Nat.reduceLeDiff, Nat.reduceAdd, Nat.reduceSub, Nat.reduceMul, Int.reduceNeg, Int.reduceLE, Int.reduceLT, Int.reduceToNat, Int.reduceAdd, Int.reduceSub, Int.reduceMul, Int.reduceEq]) ?_
  have e : fromF (bitsF a ||| bitsF b) = eitherF a b := rfl
  simp (config := { maxSteps := 1000000 }) only [e, undef, push_cast, ↓Int.toNat_natCast, ↓Int.cast_ofNat_Int, Int.cast_ofNat_Int, ↓reduceIte, reduceCtorEq, Nat.reduceEqDiff, Nat.reduceLT, Nat.reduceLeDiff, Nat.reduceAdd, Nat.reduceSub, Nat.reduceMul, Int.reduceNeg, Int.reduceLE, Int.reduceLT, Int.reduceToNat, Int.reduceAdd, Int.reduceSub, Int.reduceMul, Int.reduceEq]
  done
set_option maxRecDepth 100000 in
theorem both_any (a b : List Int) (A A2 : Option Addr) (c c2 : Nat) (w : World) (ha : a.length ≤ 1000000) (hb : b.length ≤ 1000000) (hc : a.length ≤ c) (hc2 : b.length ≤ c2) (hR : RdV w w.heap.size A (a.map (Value.int .i64))) (hR2 : RdV w w.heap.size A2 (b.map (Value.int .i64))) :
    Calls Tryd.prog 120 #[.slice A a.length c, .slice A2 b.length c2] w fun e w' => ∃ x, e = .returned x ∧ Own w' w.heap.size 3 x ((bothF a b).map (Value.int .i64)) ∧ Below w.heap.size w w' := by
  refine calls_own (n := 11) Tryd.func120 rfl Tryd.ntmps120 [.x (.a (.v (.slice A a.length c))), .x (.a (.v (.slice A2 b.length c2)))] (by simp) 3 (.i64 (bothF a b)) (fun _ => rfl) ?_
  simp (config := { maxSteps := 1000000 }) only [undef, push_cast, ↓Int.toNat_natCast, ↓Int.cast_ofNat_Int, Int.cast_ofNat_Int, ↓reduceIte, reduceCtorEq, Nat.reduceEqDiff, Nat.reduceLT, Nat.reduceLeDiff, Nat.reduceAdd, Nat.reduceSub, Nat.reduceMul, Int.reduceNeg, Int.reduceLE, Int.reduceLT, Int.reduceToNat, Int.reduceAdd, Int.reduceSub, Int.reduceMul, Int.reduceEq]
  (repeat (refine And.intro (by first | omega | decide) ?_))
  refine callG_v rfl cb85 rfl (bitsK ha (shows_raw hR _ _ (by simp) hc)) (dOk_lt rfl) ?_
  simp (config := { maxSteps := 1000000 }) only [undef, push_cast, ↓Int.toNat_natCast, ↓Int.cast_ofNat_Int, Int.cast_ofNat_Int, ↓reduceIte, reduceCtorEq, Nat.reduceEqDiff, Nat.reduceLT, Nat.reduceLeDiff, Nat.reduceAdd, Nat.reduceSub, Nat.reduceMul, Int.reduceNeg, Int.reduceLE, Int.reduceLT, Int.reduceToNat, Int.reduceAdd, Int.reduceSub, Int.reduceMul, Int.reduceEq]
  (repeat (refine And.intro (by first | omega | decide) ?_))
  refine callG_v rfl cb85 rfl (bitsK hb (shows_raw hR2 _ _ (by simp) hc2)) (dOk_lt rfl) ?_
  simp (config := { maxSteps := 1000000 }) only [undef, push_cast, ↓Int.toNat_natCast, ↓Int.cast_ofNat_Int, Int.cast_ofNat_Int, ↓reduceIte, reduceCtorEq, Nat.reduceEqDiff, Nat.reduceLT, Nat.reduceLeDiff, Nat.reduceAdd, Nat.reduceSub, Nat.reduceMul, Int.reduceNeg, Int.reduceLE, Int.reduceLT, Int.reduceToNat, Int.reduceAdd, Int.reduceSub, Int.reduceMul, Int.reduceEq]
  (repeat (refine And.intro (by first | omega | decide) ?_))
  refine callG_x rfl cb126 rfl (fromK _ (by simp only [push_cast, ↓Int.toNat_natCast, ↓Int.cast_ofNat_Int, Int.cast_ofNat_Int, ↓reduceIte, reduceCtorEq, Nat.reduceEqDiff, Nat.reduceLT, Nat.reduceLeDiff, Nat.reduceAdd, Nat.reduceSub, Nat.reduceMul, Int.reduceNeg, Int.reduceLE, Int.reduceLT, Int.reduceToNat, Int.reduceAdd, Int.reduceSub, Int.reduceMul, Int.reduceEq])) (dOk_lt rfl) (by simp only [push_cast, ↓Int.toNat_natCast, ↓Int.cast_ofNat_Int, Int.cast_ofNat_Int, ↓reduceIte, reduceCtorEq, Nat.reduceEqDiff, Nat.reduceLT, Nat.reduceLeDiff, Nat.reduceAdd, Nat.reduceSub, Nat.reduceMul, Int.reduceNeg, Int.reduceLE, Int.reduceLT, Int.reduceToNat, Int.reduceAdd, Int.reduceSub, Int.reduceMul, Int.reduceEq]) ?_
  have e : fromF (bitsF a &&& bitsF b) = bothF a b := rfl
  simp (config := { maxSteps := 1000000 }) only [e, undef, push_cast, ↓Int.toNat_natCast, ↓Int.cast_ofNat_Int, Int.cast_ofNat_Int, ↓reduceIte, reduceCtorEq, Nat.reduceEqDiff, Nat.reduceLT, Nat.reduceLeDiff, Nat.reduceAdd, Nat.reduceSub, Nat.reduceMul, Int.reduceNeg, Int.reduceLE, Int.reduceLT, Int.reduceToNat, Int.reduceAdd, Int.reduceSub, Int.reduceMul, Int.reduceEq]
  done
theorem eitherK (ha : a.length ≤ 1000000) (hb : b.length ≤ 1000000) (h1 : Shows w0 ow hp s1 (a.map (Value.int .i64))) (h2 : Shows w0 ow hp s2 (b.map (Value.int .i64))) (hbr : ∀ r ∈ hp, Res.bnd hp.length r) :
    CallOK Tryd.prog w0 ow 86 [s1, s2] hp (.x (.a (.o hp.length))) (hp ++ [.own 3 (.i64 (eitherF a b))]) :=
  callOK_own hbr trivial (two_args (svs := []) (Q := fun w en w' => ∃ v', en = .returned v' ∧ Own w' w.heap.size 3 v' ((eitherF a b).map (Value.int .i64)) ∧ Below w.heap.size w w') h1 h2 fun A c A2 c2 w hc hc2 r1 r2 => by
    rw [List.length_map] at hc hc2 ⊢
    rw [List.length_map]
    exact either_any a b A A2 c c2 w ha hb hc hc2 r1 r2)
theorem bothK (ha : a.length ≤ 1000000) (hb : b.length ≤ 1000000) (h1 : Shows w0 ow hp s1 (a.map (Value.int .i64))) (h2 : Shows w0 ow hp s2 (b.map (Value.int .i64))) (hbr : ∀ r ∈ hp, Res.bnd hp.length r) :
    CallOK Tryd.prog w0 ow 120 [s1, s2] hp (.x (.a (.o hp.length))) (hp ++ [.own 3 (.i64 (bothF a b))]) :=
  callOK_own hbr trivial (two_args (svs := []) (Q := fun w en w' => ∃ v', en = .returned v' ∧ Own w' w.heap.size 3 v' ((bothF a b).map (Value.int .i64)) ∧ Below w.heap.size w w') h1 h2 fun A c A2 c2 w hc hc2 r1 r2 => by
    rw [List.length_map] at hc hc2 ⊢
    rw [List.length_map]
    exact both_any a b A A2 c c2 w ha hb hc hc2 r1 r2)
set_option maxRecDepth 100000 in
theorem has_any (l : List Int) (n : Int) (A : Option Addr) (c : Nat) (w : World) (hm : l.length ≤ 1000000) (hc : l.length ≤ c) (hR : RdV w w.heap.size A (l.map (Value.int .i64))) :
    Calls Tryd.prog 32 #[.slice A l.length c, .int .i64 n] w fun e w' => e = .returned (.bool (hasF l n)) ∧ Below w.heap.size w w' := by
  refine calls_v (n := 15) Tryd.func32 rfl Tryd.ntmps32 [.x (.a (.v (.slice A l.length c))), .x (.a (.v (.int .i64 n)))] (by simp) (.x (.a (.v (.bool (hasF l n))))) (fun _ => rfl) ?_
  simp (config := { maxSteps := 1000000 }) only [undef, push_cast, ↓Int.toNat_natCast, ↓Int.cast_ofNat_Int, Int.cast_ofNat_Int, ↓reduceIte, reduceCtorEq, Nat.reduceEqDiff, Nat.reduceLT, Nat.reduceLeDiff, Nat.reduceAdd, Nat.reduceSub, Nat.reduceMul, Int.reduceNeg, Int.reduceLE, Int.reduceLT, Int.reduceToNat, Int.reduceAdd, Int.reduceSub, Int.reduceMul, Int.reduceEq]
  (repeat (refine And.intro (by first | omega | decide) ?_))
  refine callG_v rfl cb84 rfl (canK _) (dOk_lt rfl) ?_
  by_cases h : 0 ≤ n ∧ n < 64
  · have hd := canF_yes h
    have hh := hasF_yes (l := l) h
    simp (config := { maxSteps := 1000000 }) only [hd, undef, push_cast, ↓Int.toNat_natCast, ↓Int.cast_ofNat_Int, Int.cast_ofNat_Int, ↓reduceIte, reduceCtorEq, Nat.reduceEqDiff, Nat.reduceLT, Nat.reduceLeDiff, Nat.reduceAdd, Nat.reduceSub, Nat.reduceMul, Int.reduceNeg, Int.reduceLE, Int.reduceLT, Int.reduceToNat, Int.reduceAdd, Int.reduceSub, Int.reduceMul, Int.reduceEq]
    (repeat (refine And.intro (by first | omega | decide) ?_))
    refine callG_v rfl cb85 rfl (bitsK hm (shows_raw hR _ _ (by simp) hc)) (dOk_lt rfl) ?_
    obtain ⟨h1, h2⟩ := h
    simp (config := { maxSteps := 1000000 }) only [h1, hh, undef, push_cast, ↓Int.toNat_natCast, ↓Int.cast_ofNat_Int, Int.cast_ofNat_Int, ↓reduceIte, reduceCtorEq, Nat.reduceEqDiff, Nat.reduceLT, Nat.reduceLeDiff, Nat.reduceAdd, Nat.reduceSub, Nat.reduceMul, Int.reduceNeg, Int.reduceLE, Int.reduceLT, Int.reduceToNat, Int.reduceAdd, Int.reduceSub, Int.reduceMul, Int.reduceEq]
    done
  · have hd := canF_no h
    have hh := hasF_no (l := l) h
    simp (config := { maxSteps := 1000000 }) only [hd, hh, undef, push_cast, ↓Int.toNat_natCast, ↓Int.cast_ofNat_Int, Int.cast_ofNat_Int, ↓reduceIte, reduceCtorEq, Nat.reduceEqDiff, Nat.reduceLT, Nat.reduceLeDiff, Nat.reduceAdd, Nat.reduceSub, Nat.reduceMul, Int.reduceNeg, Int.reduceLE, Int.reduceLT, Int.reduceToNat, Int.reduceAdd, Int.reduceSub, Int.reduceMul, Int.reduceEq]
    done
theorem hasK {sv : Sv} {l : List Int} (n : Int) (hm : l.length ≤ 1000000) (h : Shows w0 ow hp sv (l.map (Value.int .i64))) : CallOK Tryd.prog w0 ow 32 [sv, .x (.a (.v (.int .i64 n)))] hp (.x (.a (.v (.bool (hasF l n))))) hp := callOK_v fun γ w hS => by
  obtain ⟨A, c, e1, b1, r1⟩ := h γ w hS
  rw [List.length_map] at e1 b1
  show Calls _ _ #[sv.val γ, _] w _
  rw [e1]
  exact has_any l n A c w hm b1 r1
/-- An error, or none. -/
def okV (b : Bool) (n : Int) : Value := if b = true then .nilIface else .iface 137 (.int .i64 n)
theorem okV_true (n : Int) : okV true n = .nilIface := rfl
theorem okV_false (n : Int) : okV false n = .iface 137 (.int .i64 n) := rfl
theorem chkS_app : ∀ (l r : List Int) (last : Int), chkS last (l ++ r) = (chkS last l && chkS (l.getLastD last) r)
  | [], r, last => by simp [chkS, List.getLastD]
  | n :: l, r, last => by
    rw [List.cons_append, chkS, chkS]
    split
    · rfl
    · rw [chkS_app l r n, List.getLastD_cons]
attribute [local irreducible] okV
set_option maxRecDepth 100000 in
theorem check_any (l : List Int) (A : Option Addr) (c : Nat) (w : World) (hm : l.length ≤ 1000000) (hR : RdV w w.heap.size A (l.map (Value.int .i64))) :
    Calls Tryd.prog 119 #[.slice A l.length c] w fun e w' => e = .returned (okV (chkS (-1) l) 1) ∧ Below w.heap.size w w' := by
  have F := FM.of hR
  refine calls_v (n := 23) Tryd.func119 rfl Tryd.ntmps119 [.x (.a (.v (.slice A l.length c)))] (by simp) (.x (.a (.v (okV (chkS (-1) l) 1)))) (fun _ => rfl) ?_
  simp (config := { maxSteps := 1000000 }) only [undef, push_cast, ↓Int.toNat_natCast, ↓Int.cast_ofNat_Int, Int.cast_ofNat_Int, ↓reduceIte, reduceCtorEq, Nat.reduceEqDiff, Nat.reduceLT, Nat.reduceLeDiff, Nat.reduceAdd, Nat.reduceSub, Nat.reduceMul, Int.reduceNeg, Int.reduceLE, Int.reduceLT, Int.reduceToNat, Int.reduceAdd, Int.reduceSub, Int.reduceMul, Int.reduceEq]
  refine loop_rule (ι := Nat × Int) (fun x => ⟨[(3, .x (.a (.v (.int .i64 x.2)))), (6, .x (.a (.v (.slice A l.length c)))), (7, .x (.a (.v (.int .i64 l.length)))), (8, .x (.a (.v (.int .i64 (x.1 : Nat)))))], []⟩) (fun x => x.1 ≤ l.length ∧ chkS (-1) l = chkS x.2 (l.drop x.1)) (fun x => l.length - x.1) (0, -1) [] ⟨Nat.zero_le _, rfl⟩ ?_ ?_
  · simp (config := { maxSteps := 1000000 }) only [push_cast, ↓Int.toNat_natCast, ↓Int.cast_ofNat_Int, Int.cast_ofNat_Int, ↓reduceIte, reduceCtorEq, Nat.reduceEqDiff, Nat.reduceLT, Nat.reduceLeDiff, Nat.reduceAdd, Nat.reduceSub, Nat.reduceMul, Int.reduceNeg, Int.reduceLE, Int.reduceLT, Int.reduceToNat, Int.reduceAdd, Int.reduceSub, Int.reduceMul, Int.reduceEq]
  rintro ⟨i, last⟩ ⟨hi, hk⟩
  dsimp only at hi hk
  by_cases hlt : (i : Int) < l.length
  · have hil : i < l.length := by omega
    have i0 : (0 : Int) ≤ i := by omega
    have c0 := F.cell i hil
    have o0 := F.ok i hil
    have hA := F.some_ (by omega)
    have hd : l.drop i = ix l i :: l.drop (i + 1) := by
      rw [List.drop_eq_getElem_cons hil, ix, List.getD_eq_getElem?_getD, List.getElem?_eq_getElem hil]; rfl
    rw [hd, chkS] at hk
    generalize ix l i = n at *
    have nx : (i : Int) + 1 ≤ 9223372036854775807 := by omega
    by_cases hle : n ≤ last
    · rw [if_pos (.inl hle)] at hk
      have hf := okV_false 1
      simp (config := { maxSteps := 1000000 }) only [hlt, i0, c0, o0, hA, hle, hk, hf, undef, push_cast, ↓Int.toNat_natCast, ↓Int.cast_ofNat_Int, Int.cast_ofNat_Int, ↓reduceIte, reduceCtorEq, Nat.reduceEqDiff, Nat.reduceLT, Nat.reduceLeDiff, Nat.reduceAdd, Nat.reduceSub, Nat.reduceMul, Int.reduceNeg, Int.reduceLE, Int.reduceLT, Int.reduceToNat, Int.reduceAdd, Int.reduceSub, Int.reduceMul, Int.reduceEq]
      done
    · simp (config := { maxSteps := 1000000 }) only [hlt, i0, c0, o0, hA, hle, undef, push_cast, ↓Int.toNat_natCast, ↓Int.cast_ofNat_Int, Int.cast_ofNat_Int, ↓reduceIte, reduceCtorEq, Nat.reduceEqDiff, Nat.reduceLT, Nat.reduceLeDiff, Nat.reduceAdd, Nat.reduceSub, Nat.reduceMul, Int.reduceNeg, Int.reduceLE, Int.reduceLT, Int.reduceToNat, Int.reduceAdd, Int.reduceSub, Int.reduceMul, Int.reduceEq]
      (repeat (refine And.intro (by first | omega | decide) ?_))
      refine callG_v rfl cb84 rfl (canK _) (dOk_lt rfl) ?_
      by_cases h : 0 ≤ n ∧ n < 64
      · rw [if_neg (by intro e; rcases e with e | e; exact hle e; exact e h)] at hk
        have hc := canF_yes h
        simp (config := { maxSteps := 1000000 }) only [hc, hle, undef, push_cast, ↓Int.toNat_natCast, ↓Int.cast_ofNat_Int, Int.cast_ofNat_Int, ↓reduceIte, reduceCtorEq, Nat.reduceEqDiff, Nat.reduceLT, Nat.reduceLeDiff, Nat.reduceAdd, Nat.reduceSub, Nat.reduceMul, Int.reduceNeg, Int.reduceLE, Int.reduceLT, Int.reduceToNat, Int.reduceAdd, Int.reduceSub, Int.reduceMul, Int.reduceEq]
        (repeat (refine And.intro (by first | omega | decide) ?_))
        refine loopK_normal (i + 1, n) [] ⟨by show i + 1 ≤ l.length; omega, hk⟩ (by show l.length - (i + 1) < l.length - i; omega) ?_
        simp (config := { maxSteps := 1000000 }) only [push_cast, ↓Int.toNat_natCast, ↓Int.cast_ofNat_Int, Int.cast_ofNat_Int, ↓reduceIte, reduceCtorEq, Nat.reduceEqDiff, Nat.reduceLT, Nat.reduceLeDiff, Nat.reduceAdd, Nat.reduceSub, Nat.reduceMul, Int.reduceNeg, Int.reduceLE, Int.reduceLT, Int.reduceToNat, Int.reduceAdd, Int.reduceSub, Int.reduceMul, Int.reduceEq]
        done
      · rw [if_pos (.inr h)] at hk
        have hc := canF_no h
        have hf := okV_false 1
        simp (config := { maxSteps := 1000000 }) only [hc, hle, hk, hf, undef, push_cast, ↓Int.toNat_natCast, ↓Int.cast_ofNat_Int, Int.cast_ofNat_Int, ↓reduceIte, reduceCtorEq, Nat.reduceEqDiff, Nat.reduceLT, Nat.reduceLeDiff, Nat.reduceAdd, Nat.reduceSub, Nat.reduceMul, Int.reduceNeg, Int.reduceLE, Int.reduceLT, Int.reduceToNat, Int.reduceAdd, Int.reduceSub, Int.reduceMul, Int.reduceEq]
        done
  · obtain rfl : i = l.length := by omega
    rw [List.drop_length, chkS] at hk
    have hf := okV_true 1
    simp (config := { maxSteps := 1000000 }) only [hlt, hk, hf, undef, push_cast, ↓Int.toNat_natCast, ↓Int.cast_ofNat_Int, Int.cast_ofNat_Int, ↓reduceIte, reduceCtorEq, Nat.reduceEqDiff, Nat.reduceLT, Nat.reduceLeDiff, Nat.reduceAdd, Nat.reduceSub, Nat.reduceMul, Int.reduceNeg, Int.reduceLE, Int.reduceLT, Int.reduceToNat, Int.reduceAdd, Int.reduceSub, Int.reduceMul, Int.reduceEq]
    done
theorem checkK {sv : Sv} {l : List Int} (hm : l.length ≤ 1000000) (h : Shows w0 ow hp sv (l.map (Value.int .i64))) : CallOK Tryd.prog w0 ow 119 [sv] hp (.x (.a (.v (okV (chkS (-1) l) 1)))) hp := callOK_v fun γ w hS => by
  obtain ⟨A, c, e1, b1, r1⟩ := h γ w hS
  rw [List.length_map] at e1
  show Calls _ _ #[sv.val γ] w _
  rw [e1]
  exact check_any l A c w hm r1
end
end Go.Proofs.YtiaeollemmkclaaDoor
