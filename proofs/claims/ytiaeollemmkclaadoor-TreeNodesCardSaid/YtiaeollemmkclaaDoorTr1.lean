import Derived.Test.YtiaeollemmkclaaDoorCf5
/- Layer 22: tree.Node, Of, check, above, Above. -/
namespace Go.Proofs.YtiaeollemmkclaaDoor
open Go.RowKit
set_option linter.unusedSimpArgs false
set_option linter.unusedVariables false
def eV (n : Int) : Value := .iface 137 (.int .i64 n)
/-- An error, or none, of a place. -/
def tcF (c : CfS) (p : Int) : Value := if cfF c = true then (if 0 ≤ p ∧ p < c.places.length then .nilIface else eV 2) else eV 1
/-- Is there such a place? -/
def isP (c : CfS) (p : Int) : Bool := cfF c && decide (0 ≤ p ∧ p < c.places.length)
theorem tcF_ok {c : CfS} {p : Int} (h : cfF c = true) (h1 : 0 ≤ p) (h2 : p < c.places.length) : tcF c p = .nilIface ∧ isP c p = true := by
  unfold tcF isP
  rw [h, if_pos rfl, if_pos ⟨h1, h2⟩, decide_eq_true ⟨h1, h2⟩]
  exact ⟨rfl, rfl⟩
theorem tcF_range {c : CfS} {p : Int} (h : cfF c = true) (h1 : ¬ (0 ≤ p ∧ p < c.places.length)) : tcF c p = eV 2 ∧ isP c p = false := by
  unfold tcF isP
  rw [h, if_pos rfl, if_neg h1, decide_eq_false h1]
  exact ⟨rfl, rfl⟩
theorem tcF_arg {c : CfS} {p : Int} (h : cfF c = false) : tcF c p = eV 1 ∧ isP c p = false := by
  unfold tcF isP
  rw [h, if_neg (by decide)]
  exact ⟨rfl, rfl⟩
theorem eV_eq (n : Int) : eV n = .iface 137 (.int .i64 n) := rfl
attribute [local irreducible] Callable CallOK CallG CallM DrawG LoopG symR symM
attribute [local irreducible] cfF okV tcF isP
section
set_option maxRecDepth 100000 in
theorem node_any (p s : Int) (w : World) (h : 0 ≤ p ∧ p < 16 ∧ 0 ≤ s ∧ s < 4) : Calls Tryd.prog 34 #[.int .i64 p, .int .i64 s] w fun e w' => e = .returned (.tuple #[.int .i64 (64 + 4 * p + s), .nilIface]) ∧ Below w.heap.size w w' := by
  refine calls_v (n := 26) Tryd.func34 rfl Tryd.ntmps34 [.x (.a (.v (.int .i64 p))), .x (.a (.v (.int .i64 s)))] (by simp) (.t [.a (.v (.int .i64 (64 + 4 * p + s))), .a (.v .nilIface)]) (fun _ => rfl) ?_
  have h1 : ¬ p < 0 := by omega
  have h2 : ¬ 16 ≤ p := by omega
  have h3 : ¬ s < 0 := by omega
  have h4 : ¬ 4 ≤ s := by omega
  simp (config := { maxSteps := 1000000 }) only [h1, h2, h3, h4, undef, push_cast, ↓Int.toNat_natCast, ↓Int.cast_ofNat_Int, Int.cast_ofNat_Int, ↓reduceIte, reduceCtorEq, Nat.reduceEqDiff, Nat.reduceLT, Nat.reduceLeDiff, Nat.reduceAdd, Nat.reduceSub, Nat.reduceMul, Int.reduceNeg, Int.reduceLE, Int.reduceLT, Int.reduceToNat, Int.reduceAdd, Int.reduceSub, Int.reduceMul, Int.reduceEq]
  all_goals omega
theorem nodeK {w0 : World} {ow : Nat → Prop} {hp : List Res} (p s : Int) (h : 0 ≤ p ∧ p < 16 ∧ 0 ≤ s ∧ s < 4) : CallOK Tryd.prog w0 ow 34 [.x (.a (.v (.int .i64 p))), .x (.a (.v (.int .i64 s)))] hp (.t [.a (.v (.int .i64 (64 + 4 * p + s))), .a (.v .nilIface)]) hp := callOK_v fun γ w _ => node_any p s w h
set_option maxRecDepth 100000 in
theorem ofC_any (n : Int) (w : World) (h : 0 ≤ n ∧ n < 64) : Calls Tryd.prog 31 #[.int .i64 n] w fun e w' => e = .returned (.tuple #[.bool true, .int .i64 n, .int .i64 0, .nilIface]) ∧ Below w.heap.size w w' := by
  refine calls_v (n := 23) Tryd.func31 rfl Tryd.ntmps31 [.x (.a (.v (.int .i64 n)))] (by simp) (.t [.a (.v (.bool true)), .a (.v (.int .i64 n)), .a (.v (.int .i64 0)), .a (.v .nilIface)]) (fun _ => rfl) ?_
  have h1 : ¬ n < 0 := by omega
  have h2 : ¬ 128 ≤ n := by omega
  have h3 : n < 64 := by omega
  simp (config := { maxSteps := 1000000 }) only [h1, h2, h3, undef, push_cast, ↓Int.toNat_natCast, ↓Int.cast_ofNat_Int, Int.cast_ofNat_Int, ↓reduceIte, reduceCtorEq, Nat.reduceEqDiff, Nat.reduceLT, Nat.reduceLeDiff, Nat.reduceAdd, Nat.reduceSub, Nat.reduceMul, Int.reduceNeg, Int.reduceLE, Int.reduceLT, Int.reduceToNat, Int.reduceAdd, Int.reduceSub, Int.reduceMul, Int.reduceEq]
  done
set_option maxRecDepth 100000 in
theorem ofP_any (p s : Nat) (w : World) (h : p < 16 ∧ s < 4) : Calls Tryd.prog 31 #[.int .i64 (64 + 4 * (p : Int) + s)] w fun e w' => e = .returned (.tuple #[.bool false, .int .i64 p, .int .i64 s, .nilIface]) ∧ Below w.heap.size w w' := by
  obtain ⟨n, hn⟩ : ∃ n : Int, n = 64 + 4 * (p : Int) + s := ⟨_, rfl⟩
  rw [← hn]
  refine calls_v (n := 23) Tryd.func31 rfl Tryd.ntmps31 [.x (.a (.v (.int .i64 n)))] (by simp) (.t [.a (.v (.bool false)), .a (.v (.int .i64 p)), .a (.v (.int .i64 s)), .a (.v .nilIface)]) (fun _ => rfl) ?_
  have h1 : ¬ n < 0 := by omega
  have h2 : ¬ 128 ≤ n := by omega
  have h3 : ¬ n < 64 := by omega
  have h4 : (n - 64).tdiv 4 = p := by rw [Int.tdiv_eq_ediv_of_nonneg (by omega)]; omega
  have h5 : (n - 64).tmod 4 = s := by rw [Int.tmod_eq_emod_of_nonneg (by omega)]; omega
  have h6 : -9223372036854775808 ≤ n - 64 ∧ n - 64 ≤ 9223372036854775807 := by omega
  have h7 : -9223372036854775808 ≤ (p : Int) ∧ (p : Int) ≤ 9223372036854775807 := by omega
  simp (config := { maxSteps := 1000000 }) only [h1, h2, h3, h4, h5, h6, h7, undef, push_cast, ↓Int.toNat_natCast, ↓Int.cast_ofNat_Int, Int.cast_ofNat_Int, ↓reduceIte, reduceCtorEq, Nat.reduceEqDiff, Nat.reduceLT, Nat.reduceLeDiff, Nat.reduceAdd, Nat.reduceSub, Nat.reduceMul, Int.reduceNeg, Int.reduceLE, Int.reduceLT, Int.reduceToNat, Int.reduceAdd, Int.reduceSub, Int.reduceMul, Int.reduceEq]
  done
theorem ofCK {w0 : World} {ow : Nat → Prop} {hp : List Res} (n : Int) (h : 0 ≤ n ∧ n < 64) : CallOK Tryd.prog w0 ow 31 [.x (.a (.v (.int .i64 n)))] hp (.t [.a (.v (.bool true)), .a (.v (.int .i64 n)), .a (.v (.int .i64 0)), .a (.v .nilIface)]) hp := callOK_v fun γ w _ => ofC_any n w h
theorem ofPK {w0 : World} {ow : Nat → Prop} {hp : List Res} (p s : Nat) (h : p < 16 ∧ s < 4) : CallOK Tryd.prog w0 ow 31 [.x (.a (.v (.int .i64 (64 + 4 * (p : Int) + s))))] hp (.t [.a (.v (.bool false)), .a (.v (.int .i64 p)), .a (.v (.int .i64 s)), .a (.v .nilIface)]) hp := callOK_v fun γ w _ => ofP_any p s w h
set_option maxRecDepth 100000 in
theorem checkT_any (c : CfR) (p : Int) (w : World) (hc : c.Ok w) : Calls Tryd.prog 87 #[.agg (cfV c).toArray, .int .i64 p] w fun e w' => e = .returned (tcF c.cf p) ∧ Below w.heap.size w w' := by
  refine calls_v (n := 21) Tryd.func87 rfl Tryd.ntmps87 [.x (.g [.v (.int .i64 c.dim), .v (.slice c.ps.A c.ps.l.length c.ps.c), .v (.slice c.gs.A c.gs.l.length c.gs.c), .v (.int .i64 c.least), .v (.int .i64 c.term)]), .x (.a (.v (.int .i64 p)))] (by simp) (.x (.a (.v (tcF c.cf p)))) (fun _ => rfl) ?_
  have hT := okV_true 1
  have hF := okV_false 1
  simp (config := { maxSteps := 1000000 }) only [undef, push_cast, ↓Int.toNat_natCast, ↓Int.cast_ofNat_Int, Int.cast_ofNat_Int, ↓reduceIte, reduceCtorEq, Nat.reduceEqDiff, Nat.reduceLT, Nat.reduceLeDiff, Nat.reduceAdd, Nat.reduceSub, Nat.reduceMul, Int.reduceNeg, Int.reduceLE, Int.reduceLT, Int.reduceToNat, Int.reduceAdd, Int.reduceSub, Int.reduceMul, Int.reduceEq]
  (repeat (refine And.intro (by first | omega | decide) ?_))
  refine callG_v rfl cb28 rfl (checkCfR c hc) (dOk_lt rfl) ?_
  cases hk : cfF c.cf with
  | false =>
    have hq := (tcF_arg (p := p) hk).1
    simp (config := { maxSteps := 1000000 }) only [hF, hq, eV_eq, undef, push_cast, ↓Int.toNat_natCast, ↓Int.cast_ofNat_Int, Int.cast_ofNat_Int, ↓reduceIte, reduceCtorEq, Nat.reduceEqDiff, Nat.reduceLT, Nat.reduceLeDiff, Nat.reduceAdd, Nat.reduceSub, Nat.reduceMul, Int.reduceNeg, Int.reduceLE, Int.reduceLT, Int.reduceToNat, Int.reduceAdd, Int.reduceSub, Int.reduceMul, Int.reduceEq]
    done
  | true =>
    by_cases h1 : p < 0
    · have hq := (tcF_range (p := p) hk (by omega)).1
      simp (config := { maxSteps := 1000000 }) only [hT, h1, hq, eV_eq, undef, push_cast, ↓Int.toNat_natCast, ↓Int.cast_ofNat_Int, Int.cast_ofNat_Int, ↓reduceIte, reduceCtorEq, Nat.reduceEqDiff, Nat.reduceLT, Nat.reduceLeDiff, Nat.reduceAdd, Nat.reduceSub, Nat.reduceMul, Int.reduceNeg, Int.reduceLE, Int.reduceLT, Int.reduceToNat, Int.reduceAdd, Int.reduceSub, Int.reduceMul, Int.reduceEq]
      done
    by_cases h2 : (c.ps.l.length : Int) ≤ p
    · have hq := (tcF_range (c := c.cf) (p := p) hk (by show ¬ (0 ≤ p ∧ p < (c.ps.l.length : Int)); omega)).1
      simp (config := { maxSteps := 1000000 }) only [hT, h1, h2, hq, eV_eq, undef, push_cast, ↓Int.toNat_natCast, ↓Int.cast_ofNat_Int, Int.cast_ofNat_Int, ↓reduceIte, reduceCtorEq, Nat.reduceEqDiff, Nat.reduceLT, Nat.reduceLeDiff, Nat.reduceAdd, Nat.reduceSub, Nat.reduceMul, Int.reduceNeg, Int.reduceLE, Int.reduceLT, Int.reduceToNat, Int.reduceAdd, Int.reduceSub, Int.reduceMul, Int.reduceEq]
      done
    · have hq := (tcF_ok (c := c.cf) (p := p) hk (by omega) (by show p < (c.ps.l.length : Int); omega)).1
      simp (config := { maxSteps := 1000000 }) only [hT, h1, h2, hq, undef, push_cast, ↓Int.toNat_natCast, ↓Int.cast_ofNat_Int, Int.cast_ofNat_Int, ↓reduceIte, reduceCtorEq, Nat.reduceEqDiff, Nat.reduceLT, Nat.reduceLeDiff, Nat.reduceAdd, Nat.reduceSub, Nat.reduceMul, Int.reduceNeg, Int.reduceLE, Int.reduceLT, Int.reduceToNat, Int.reduceAdd, Int.reduceSub, Int.reduceMul, Int.reduceEq]
      done
theorem checkTR {w0 : World} {hp : List Res} (c : CfR) (p : Int) (hc : c.Ok w0) : CallOK Tryd.prog w0 No 87 [.x (.g [.v (.int .i64 c.dim), .v (.slice c.ps.A c.ps.l.length c.ps.c), .v (.slice c.gs.A c.gs.l.length c.gs.c), .v (.int .i64 c.least), .v (.int .i64 c.term)]), .x (.a (.v (.int .i64 p)))] hp (.x (.a (.v (tcF c.cf p)))) hp := callOK_v fun γ w hS => checkT_any c p w (hc.later hS)
/-! above -/
def upF (l : List PlS) (q : Int) : List Int := abGo l l.length q []
theorem upF_neg {l : List PlS} {q : Int} (h : ¬ 0 ≤ q) : upF l q = [] := by
  unfold upF
  cases hn : l.length with
  | zero => rfl
  | succ n => rw [abGo, if_neg h]
theorem upF_succ {l : List PlS} (h : StOk l) {q : Nat} (hq : q < l.length) : upF l q = (q : Int) :: upF l (ix l q).parent := by
  unfold upF
  obtain ⟨n, hn⟩ : ∃ n, l.length = n + 1 := ⟨l.length - 1, by omega⟩
  have hp : (ix l q).parent < n := by
    by_cases e : q = 0
    · rw [e, h.root]; omega
    · have := h.up q (by omega) hq; omega
  have h1 := abGo_more h n (n + 1) (ix l q).parent [] (by omega) hp (by omega)
  rw [hn, h1, abGo, if_pos (by omega), Int.toNat_natCast, abGo_acc, List.nil_append, List.singleton_append]
theorem abF_up {l : List PlS} (h : StOk l) {p : Nat} (hp : p < l.length) : abF l p = upF l (ix l p).parent := by
  unfold abF upF
  have hq : (ix l p).parent < (p : Int) ∨ p = 0 ∧ (ix l p).parent = -1 := by
    by_cases e : p = 0
    · exact .inr ⟨e, by rw [e, h.root]⟩
    · exact .inl (h.up p (by omega) hp).2
  exact (abGo_more h (p + 1) l.length _ [] (by omega) (by omega) (by omega)).symm
theorem upF_len {l : List PlS} (h : StOk l) : ∀ (k : Nat) (q : Int), q < k → q < l.length → (upF l q).length ≤ k
  | 0, q, h1, _ => by rw [upF_neg (by omega)]; exact Nat.le_refl _
  | k + 1, q, h1, h2 => by
    by_cases hq : 0 ≤ q
    · obtain ⟨n, rfl⟩ : ∃ n : Nat, q = n := ⟨q.toNat, by omega⟩
      rw [upF_succ h (by omega), List.length_cons]
      have hp : (ix l n).parent < n := by
        by_cases e : n = 0
        · rw [e, h.root]; omega
        · exact (h.up n (by omega) (by omega)).2
      have := upF_len h k (ix l n).parent (by omega) (by omega)
      omega
    · rw [upF_neg hq]; exact Nat.zero_le _
attribute [local irreducible] upF abF
set_option maxRecDepth 100000 in
theorem above_any (c : CfR) (p : Nat) (w : World) (hc : c.Ok w) (hst : StOk c.ps.l) (hp : p < c.ps.l.length) : Calls Tryd.prog 88 #[.agg (cfV c).toArray, .int .i64 p] w fun e w' => ∃ x, e = .returned x ∧ Own w' w.heap.size 3 x ((abF c.ps.l p).map (Value.int .i64)) ∧ Below w.heap.size w w' := by
  have F := FLm.of plV_len (by decide) hc.prd
  have hm := hst.most
  refine calls_own (n := 26) Tryd.func88 rfl Tryd.ntmps88 [.x (.g [.v (.int .i64 c.dim), .v (.slice c.ps.A c.ps.l.length c.ps.c), .v (.slice c.gs.A c.gs.l.length c.gs.c), .v (.int .i64 c.least), .v (.int .i64 c.term)]), .x (.a (.v (.int .i64 p)))] (by simp) 3 (.i64 (abF c.ps.l p)) (fun _ => rfl) ?_
  have p0 : (0 : Int) ≤ p := by omega
  have p1 : (p : Int) < c.ps.l.length := by omega
  have hA := F.some_ (by omega)
  obtain ⟨c0, o0⟩ := F.cell p 0 _ hp rfl
  rw [Nat.add_zero] at c0 o0
  have hab := abF_up hst hp
  simp (config := { maxSteps := 1000000 }) only [p0, p1, hA, c0, o0, pAdd_add, pAdd_zero, pAdd_isSome, undef, push_cast, ↓Int.toNat_natCast, ↓Int.cast_ofNat_Int, Int.cast_ofNat_Int, ↓reduceIte, reduceCtorEq, Nat.reduceEqDiff, Nat.reduceLT, Nat.reduceLeDiff, Nat.reduceAdd, Nat.reduceSub, Nat.reduceMul, Int.reduceNeg, Int.reduceLE, Int.reduceLT, Int.reduceToNat, Int.reduceAdd, Int.reduceSub, Int.reduceMul, Int.reduceEq]
  (repeat (refine And.intro (by first | omega | decide) ?_))
  refine loop_ghost 5 3 (.i64 []) rfl rfl trivial (by simp (config := { maxSteps := 1000000 }) only [undef, push_cast, ↓Int.toNat_natCast, ↓Int.cast_ofNat_Int, Int.cast_ofNat_Int, ↓reduceIte, reduceCtorEq, Nat.reduceEqDiff, Nat.reduceLT, Nat.reduceLeDiff, Nat.reduceAdd, Nat.reduceSub, Nat.reduceMul, Int.reduceNeg, Int.reduceLE, Int.reduceLT, Int.reduceToNat, Int.reduceAdd, Int.reduceSub, Int.reduceMul, Int.reduceEq]) ?_
  simp (config := { maxSteps := 1000000 }) only [undef, push_cast, ↓Int.toNat_natCast, ↓Int.cast_ofNat_Int, Int.cast_ofNat_Int, ↓reduceIte, reduceCtorEq, Nat.reduceEqDiff, Nat.reduceLT, Nat.reduceLeDiff, Nat.reduceAdd, Nat.reduceSub, Nat.reduceMul, Int.reduceNeg, Int.reduceLE, Int.reduceLT, Int.reduceToNat, Int.reduceAdd, Int.reduceSub, Int.reduceMul, Int.reduceEq]
  have hpar : (ix c.ps.l p).parent < c.ps.l.length := by
    by_cases e : p = 0
    · rw [e, hst.root]; omega
    · have := hst.up p (by omega) hp; omega
  refine loop_rule (ι := Int × List Int) (fun x => ⟨[(2, .x (.a (.p 0 0))), (5, .x (.a (.o 1))), (6, .x (.a (.v (.int .i64 x.1))))], [.blk 65 (.c [.v (.int .i64 c.dim), .v (.slice c.ps.A c.ps.l.length c.ps.c), .v (.slice c.gs.A c.gs.l.length c.gs.c), .v (.int .i64 c.least), .v (.int .i64 c.term)]), .own 3 (.i64 x.2)]⟩)
    (fun x => x.1 < c.ps.l.length ∧ x.2 ++ upF c.ps.l x.1 = abF c.ps.l p) (fun x => (x.1 + 1).toNat) ((ix c.ps.l p).parent, []) [0, 1] ⟨hpar, by rw [hab]; rfl⟩ ?_ ?_
  · simp (config := { maxSteps := 1000000 }) only [push_cast, ↓Int.toNat_natCast, ↓Int.cast_ofNat_Int, Int.cast_ofNat_Int, ↓reduceIte, reduceCtorEq, Nat.reduceEqDiff, Nat.reduceLT, Nat.reduceLeDiff, Nat.reduceAdd, Nat.reduceSub, Nat.reduceMul, Int.reduceNeg, Int.reduceLE, Int.reduceLT, Int.reduceToNat, Int.reduceAdd, Int.reduceSub, Int.reduceMul, Int.reduceEq]
  rintro ⟨q, acc⟩ ⟨hq, he⟩
  dsimp only at hq he
  by_cases h0 : (0 : Int) ≤ q
  · obtain ⟨n, rfl⟩ : ∃ n : Nat, q = n := ⟨q.toNat, by omega⟩
    have hn : n < c.ps.l.length := by omega
    obtain ⟨d0, e0⟩ := F.cell n 0 _ hn rfl
    rw [Nat.add_zero] at d0 e0
    have hl1 : acc.length + (upF c.ps.l n).length = (abF c.ps.l p).length := by rw [← he, List.length_append]
    have hl2 : (abF c.ps.l p).length ≤ c.ps.l.length := by rw [hab]; exact upF_len hst _ _ (by omega) hpar
    rw [upF_succ hst hn] at he hl1
    rw [List.length_cons] at hl1
    have b1 : (acc.length + 1) * 8 ≤ 140737488355328 := by omega
    have b2 : acc.length + 1 ≤ 2 ^ 63 - 1 := by omega
    have hnp : (ix c.ps.l n).parent < n := by
      by_cases e : n = 0
      · rw [e, hst.root]; omega
      · exact (hst.up n (by omega) hn).2
    simp (config := { maxSteps := 1000000 }) only [h0, hq, hA, d0, e0, b1, b2, pAdd_add, pAdd_zero, pAdd_isSome, undef, push_cast, ↓Int.toNat_natCast, ↓Int.cast_ofNat_Int, Int.cast_ofNat_Int, ↓reduceIte, reduceCtorEq, Nat.reduceEqDiff, Nat.reduceLT, Nat.reduceLeDiff, Nat.reduceAdd, Nat.reduceSub, Nat.reduceMul, Int.reduceNeg, Int.reduceLE, Int.reduceLT, Int.reduceToNat, Int.reduceAdd, Int.reduceSub, Int.reduceMul, Int.reduceEq]
    (repeat (refine And.intro (by first | omega | decide) ?_))
    refine loopK_normal ((ix c.ps.l n).parent, acc ++ [(n : Int)]) [0, 3] ⟨by show (ix c.ps.l n).parent < _; omega, by show (acc ++ [(n : Int)]) ++ _ = _; rw [List.append_assoc, List.singleton_append]; exact he⟩ (by show ((ix c.ps.l n).parent + 1).toNat < ((n : Int) + 1).toNat; omega) ?_
    simp (config := { maxSteps := 1000000 }) only [push_cast, ↓Int.toNat_natCast, ↓Int.cast_ofNat_Int, Int.cast_ofNat_Int, ↓reduceIte, reduceCtorEq, Nat.reduceEqDiff, Nat.reduceLT, Nat.reduceLeDiff, Nat.reduceAdd, Nat.reduceSub, Nat.reduceMul, Int.reduceNeg, Int.reduceLE, Int.reduceLT, Int.reduceToNat, Int.reduceAdd, Int.reduceSub, Int.reduceMul, Int.reduceEq]
    done
  · rw [upF_neg h0, List.append_nil] at he
    simp (config := { maxSteps := 1000000 }) only [h0, he, undef, push_cast, ↓Int.toNat_natCast, ↓Int.cast_ofNat_Int, Int.cast_ofNat_Int, ↓reduceIte, reduceCtorEq, Nat.reduceEqDiff, Nat.reduceLT, Nat.reduceLeDiff, Nat.reduceAdd, Nat.reduceSub, Nat.reduceMul, Int.reduceNeg, Int.reduceLE, Int.reduceLT, Int.reduceToNat, Int.reduceAdd, Int.reduceSub, Int.reduceMul, Int.reduceEq]
    done
theorem aboveR {w0 : World} {hp : List Res} (c : CfR) (p : Nat) (hc : c.Ok w0) (hst : StOk c.ps.l) (hp' : p < c.ps.l.length) (hbr : ∀ r ∈ hp, Res.bnd hp.length r) : CallOK Tryd.prog w0 No 88 [.x (.g [.v (.int .i64 c.dim), .v (.slice c.ps.A c.ps.l.length c.ps.c), .v (.slice c.gs.A c.gs.l.length c.gs.c), .v (.int .i64 c.least), .v (.int .i64 c.term)]), .x (.a (.v (.int .i64 p)))] hp (.x (.a (.o hp.length))) (hp ++ [.own 3 (.i64 (abF c.ps.l p))]) := callOK_own hbr trivial fun γ w hS => above_any c p w (hc.later hS) hst hp'
/-- What is told of a place, or nothing. -/
def ofP (c : CfS) (p : Int) (l : List Int) : List Int := if isP c p = true then l else []
theorem isP_st {c : CfS} {p : Int} (h : isP c p = true) : cfF c = true ∧ 0 ≤ p ∧ p < c.places.length := by
  unfold isP at h
  rw [Bool.and_eq_true, decide_eq_true_iff] at h
  exact h
theorem tcF_of (c : CfS) (p : Int) : (tcF c p = .nilIface ∧ isP c p = true) ∨ (isP c p = false ∧ ∃ n : Int, tcF c p = .iface 137 (.int .i64 n)) := by
  by_cases h : cfF c = true
  · by_cases h1 : 0 ≤ p ∧ p < c.places.length
    · exact .inl (tcF_ok h h1.1 h1.2)
    · have := tcF_range h h1
      exact .inr ⟨this.2, 2, this.1⟩
  · have := tcF_arg (p := p) (Bool.eq_false_iff.2 h)
    exact .inr ⟨this.2, 1, this.1⟩
attribute [local irreducible] ofP
set_option maxRecDepth 100000 in
theorem aboveE_any (c : CfR) (p : Int) (w : World) (hc : c.Ok w) : Calls Tryd.prog 35 #[.agg (cfV c).toArray, .int .i64 p] w fun e w' => ∃ v', e = .returned (.tuple #[v', tcF c.cf p]) ∧ Own w' w.heap.size 3 v' ((ofP c.cf p (abF c.ps.l p.toNat)).map (Value.int .i64)) ∧ Below w.heap.size w w' := by
  refine calls_own2 (n := 16) Tryd.func35 rfl Tryd.ntmps35 [.x (.g [.v (.int .i64 c.dim), .v (.slice c.ps.A c.ps.l.length c.ps.c), .v (.slice c.gs.A c.gs.l.length c.gs.c), .v (.int .i64 c.least), .v (.int .i64 c.term)]), .x (.a (.v (.int .i64 p)))] (by simp) 3 (.i64 (ofP c.cf p (abF c.ps.l p.toNat))) (tcF c.cf p) (fun _ => rfl) ?_
  simp (config := { maxSteps := 1000000 }) only [undef, push_cast, ↓Int.toNat_natCast, ↓Int.cast_ofNat_Int, Int.cast_ofNat_Int, ↓reduceIte, reduceCtorEq, Nat.reduceEqDiff, Nat.reduceLT, Nat.reduceLeDiff, Nat.reduceAdd, Nat.reduceSub, Nat.reduceMul, Int.reduceNeg, Int.reduceLE, Int.reduceLT, Int.reduceToNat, Int.reduceAdd, Int.reduceSub, Int.reduceMul, Int.reduceEq]
  (repeat (refine And.intro (by first | omega | decide) ?_))
  refine callG_v rfl cb87 rfl (checkTR c p hc) (dOk_lt rfl) ?_
  rcases tcF_of c.cf p with ⟨h1, h2⟩ | ⟨h2, n, h1⟩
  · obtain ⟨h3, h4, h5⟩ := isP_st h2
    have h5 : p < c.ps.l.length := h5
    have hst := cfF_st h3
    have ho : ofP c.cf p (abF c.ps.l p.toNat) = abF c.ps.l p.toNat := by unfold ofP; rw [if_pos h2]
    obtain ⟨m, rfl⟩ : ∃ m : Nat, p = m := ⟨p.toNat, by omega⟩
    rw [Int.toNat_natCast] at ho
    simp (config := { maxSteps := 1000000 }) only [h1, ho, undef, push_cast, ↓Int.toNat_natCast, ↓Int.cast_ofNat_Int, Int.cast_ofNat_Int, ↓reduceIte, reduceCtorEq, Nat.reduceEqDiff, Nat.reduceLT, Nat.reduceLeDiff, Nat.reduceAdd, Nat.reduceSub, Nat.reduceMul, Int.reduceNeg, Int.reduceLE, Int.reduceLT, Int.reduceToNat, Int.reduceAdd, Int.reduceSub, Int.reduceMul, Int.reduceEq]
    (repeat (refine And.intro (by first | omega | decide) ?_))
    refine callG_x rfl cb88 rfl (aboveR c m hc hst (by omega) (by simp only [push_cast, ↓Int.toNat_natCast, ↓Int.cast_ofNat_Int, Int.cast_ofNat_Int, ↓reduceIte, reduceCtorEq, Nat.reduceEqDiff, Nat.reduceLT, Nat.reduceLeDiff, Nat.reduceAdd, Nat.reduceSub, Nat.reduceMul, Int.reduceNeg, Int.reduceLE, Int.reduceLT, Int.reduceToNat, Int.reduceAdd, Int.reduceSub, Int.reduceMul, Int.reduceEq])) (dOk_lt rfl) (by simp only [push_cast, ↓Int.toNat_natCast, ↓Int.cast_ofNat_Int, Int.cast_ofNat_Int, ↓reduceIte, reduceCtorEq, Nat.reduceEqDiff, Nat.reduceLT, Nat.reduceLeDiff, Nat.reduceAdd, Nat.reduceSub, Nat.reduceMul, Int.reduceNeg, Int.reduceLE, Int.reduceLT, Int.reduceToNat, Int.reduceAdd, Int.reduceSub, Int.reduceMul, Int.reduceEq]) ?_
    simp (config := { maxSteps := 1000000 }) only [ho, undef, push_cast, ↓Int.toNat_natCast, ↓Int.cast_ofNat_Int, Int.cast_ofNat_Int, ↓reduceIte, reduceCtorEq, Nat.reduceEqDiff, Nat.reduceLT, Nat.reduceLeDiff, Nat.reduceAdd, Nat.reduceSub, Nat.reduceMul, Int.reduceNeg, Int.reduceLE, Int.reduceLT, Int.reduceToNat, Int.reduceAdd, Int.reduceSub, Int.reduceMul, Int.reduceEq]
    done
  · have ho : ofP c.cf p (abF c.ps.l p.toNat) = [] := by unfold ofP; rw [h2]; rfl
    simp (config := { maxSteps := 1000000 }) only [h1, ho, undef, push_cast, ↓Int.toNat_natCast, ↓Int.cast_ofNat_Int, Int.cast_ofNat_Int, ↓reduceIte, reduceCtorEq, Nat.reduceEqDiff, Nat.reduceLT, Nat.reduceLeDiff, Nat.reduceAdd, Nat.reduceSub, Nat.reduceMul, Int.reduceNeg, Int.reduceLE, Int.reduceLT, Int.reduceToNat, Int.reduceAdd, Int.reduceSub, Int.reduceMul, Int.reduceEq]
    done
theorem aboveK {w0 : World} {hp : List Res} {s : Sv} {c : CfS} (p : Int) (h : ShowsCf w0 hp s c) (hbr : ∀ r ∈ hp, Res.bnd hp.length r) : CallOK Tryd.prog w0 No 35 [s, .x (.a (.v (.int .i64 p)))] hp (.t [.a (.o hp.length), .a (.v (tcF c p))]) (hp ++ [.own 3 (.i64 (ofP c p (abF c.places p.toNat)))]) := callOK_own2 hbr trivial fun γ w hS => by
  obtain ⟨a, e, h1, rfl⟩ := h γ w hS
  show Calls _ _ #[s.val γ, _] w _
  rw [e]
  exact aboveE_any a p w h1
end
end Go.Proofs.YtiaeollemmkclaaDoor
