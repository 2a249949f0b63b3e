import Derived.Test.YtiaeollemmkclaaDoorSc7
import Derived.Test.YtiaeollemmkclaaDoorNm40
/- Law 40's giveCommands, big, sure. -/
namespace Go.Proofs.YtiaeollemmkclaaDoor
open Go.RowKit
set_option linter.unusedSimpArgs false
set_option linter.unusedVariables false
/-- Commands as they came in, however long they are. -/
structure CmsI (x : SlV CmR) (w : World) : Prop where
  len : x.l.length ≤ x.c
  wide : x.l.length * 40 ≤ 140737488351232
  rd : RdV w w.heap.size x.A (x.l.flatMap cmV)
  each : ∀ c ∈ x.l, c.args.l.length ≤ c.args.c ∧ c.args.l.length * 16 ≤ 140737488351232 ∧ RdV w w.heap.size c.args.A (c.args.l.map Value.string)
def bigC (c : CmS) : Bool := (c.args.take 80).any (fun s => decide (5000 < s.size)) || (decide (80 < c.args.length) || decide (200 < c.word.size))
def bigF (l : List CmS) : Bool := (l.take 60).any bigC || decide (60 < l.length)
theorem CmsI.small {x : SlV CmR} {w : World} (h : CmsI x w) (hb : bigF (cmsL x) = false) : CmsW x w ∧ x.l.length ≤ 60 := by
  have hcl : (cmsL x).length = x.l.length := List.length_map ..
  unfold bigF at hb
  rw [Bool.or_eq_false_iff, decide_eq_false_iff_not] at hb
  obtain ⟨h1, h2⟩ := hb
  rw [List.take_of_length_le (by omega)] at h1
  refine ⟨⟨h.len, by omega, h.rd, fun c hc => ?_⟩, by omega⟩
  obtain ⟨a1, a2, a3⟩ := h.each c hc
  have h3 : bigC c.cm = false := by
    rw [← Bool.not_eq_true]
    intro h
    rw [← Bool.not_eq_true, List.any_eq_true] at h1
    exact h1 ⟨_, List.mem_map_of_mem hc, h⟩
  unfold bigC at h3
  rw [Bool.or_eq_false_iff, Bool.or_eq_false_iff, decide_eq_false_iff_not, decide_eq_false_iff_not] at h3
  obtain ⟨b1, b2, b3⟩ := h3
  have b2 : ¬ 80 < c.args.l.length := b2
  have b3 : ¬ 200 < c.word.size := b3
  have b1 : (c.args.l.take 80).any (fun s => decide (5000 < s.size)) = false := b1
  rw [List.take_of_length_le (by omega)] at b1
  refine ⟨a1, by omega, a3, by omega, fun s hs => ?_⟩
  rw [← Bool.not_eq_true, List.any_eq_true] at b1
  have : ¬ 5000 < s.size := fun h => b1 ⟨s, hs, decide_eq_true h⟩
  omega
attribute [local irreducible] Callable CallOK CallG CallM DrawG LoopG symR symM
attribute [local irreducible] chkCm printT erV parseF vC intF bytesF
set_option maxRecDepth 100000 in
set_option maxHeartbeats 1000000 in
theorem give40_any (x : SlV CmR) (w : World) (hx : x.l.length ≤ 1000) (hR : RdV w w.heap.size x.A (x.l.flatMap cmV)) : Calls Tryd.prog 55 #[x.val] w fun e w' => ∃ (y : SlV CmR × List Fct) (γ1 : List Nm), (y.1.l = x.l ∧ SlF y.2 y.1 (x.l.flatMap cmV)) ∧ e = .returned y.1.val ∧ Sat w No γ1 [.abs (fctRep y.2)] w' := by
  have F := FLm.of cmV_len (by decide) hR
  have h0 : Calls Tryd.prog 55 #[x.val] w fun e w' => ∃ (i : Unit) (γ1 : List Nm), True ∧ e = .returned ((Sv.x (.a (.o 0))).val γ1) ∧ Sat w No γ1 [.onn 115 2 (.c (vC (x.l.flatMap cmV))), .abs (fctRep [])] w' := by
    refine calls_ex (n := 19) (fun _ : Unit => True) (fun _ => .x (.a (.o 0))) (fun _ => [.onn 115 2 (.c (vC (x.l.flatMap cmV))), .abs (fctRep [])]) Tryd.func55 rfl Tryd.ntmps55 [.x (.a (.v (.slice x.A x.l.length x.c)))] (Sat.init w No) (by simp) ?_
    simp (config := { maxSteps := 1000000 }) only [push_cast, ↓reduceIte, Nat.reduceLT]
    refine loop_ghostN 3 115 2 (.c []) (by omega) rfl rfl (by simp (config := { maxSteps := 1000000 }) only [push_cast]) ?_
    refine loop_fct (by simp (config := { maxSteps := 1000000 }) only [push_cast, Nat.reduceLT]) ?_
    simp (config := { maxSteps := 1000000 }) only [push_cast]
    refine loop_rule (ι := Nat) (fun i => ⟨[(0, .x (.a (.v (.slice x.A x.l.length x.c)))), (3, .x (.a (.o 0))), (4, .x (.a (.v (.int .i64 (i : Nat)))))], [.onn 115 2 (.c (vC ((x.l.take i).flatMap cmV))), .abs (fctRep [])]⟩) (fun i => i ≤ x.l.length) (fun i => x.l.length - i) 0 [0, 1] (Nat.zero_le _) ?_ ?_
    · have e0 : vC (([] : List CmR).flatMap cmV) = [] := by unfold vC; rfl
      simp (config := { maxSteps := 1000000 }) only [e0, List.take_zero, push_cast, ↓Int.cast_ofNat_Int, Int.cast_ofNat_Int, ↓reduceIte, reduceCtorEq, Nat.reduceEqDiff, Nat.reduceLT, Nat.reduceAdd]
      done
    intro i hi
    by_cases hlt : (i : Int) < x.l.length
    · have hil : i < x.l.length := by omega
      have i0 : (0 : Int) ≤ i := by omega
      have nx : (i : Int) + 1 ≤ 9223372036854775807 := by omega
      have nm : -9223372036854775808 ≤ (i : Int) + 1 := by omega
      obtain ⟨w1, w2⟩ := F.whole i hil
      have a1 := F.some_ (by omega)
      have tk : x.l.take (i + 1) = x.l.take i ++ [ix x.l i] := by rw [List.take_add_one, ix, List.getD_eq_getElem?_getD, List.getElem?_eq_getElem hil]; rfl
      generalize ix x.l i = c at *
      have w1 : rawL w (pAdd x.A (i * 2)) 2 0 = [.v (.string c.word), .v (.slice c.args.A c.args.l.length c.args.c)] := w1
      have hvl : ((x.l.take i).flatMap cmV).length = i * 2 := by rw [flat_len cmV_len, List.length_take, Nat.min_eq_left hi]
      have e3 : i * 2 / 2 = i := Nat.mul_div_cancel _ (by omega)
      have b3 : (i + 1) * 40 ≤ 140737488355328 := by omega
      have b4 : i + 1 ≤ 2 ^ 63 - 1 := by omega
      have e4 : ([c].flatMap cmV) = [.string c.word, .slice c.args.A c.args.l.length c.args.c] := rfl
      have e5 : vC [.string c.word, .slice c.args.A c.args.l.length c.args.c] = [.v (.string c.word), .v (.slice c.args.A c.args.l.length c.args.c)] := by unfold vC; rfl
      simp (config := { maxSteps := 1000000 }) only [hlt, i0, w1, w2, a1, hvl, e3, b3, b4, nx, nm, vC_len, pAdd_isSome, push_cast, ↓Int.toNat_natCast, ↓reduceIte, reduceCtorEq, Nat.reduceEqDiff, Nat.reduceLT, Nat.reduceLeDiff, Nat.reduceAdd, Nat.reduceMul, Int.reduceNeg]
      (repeat (refine And.intro (by first | omega | decide) ?_))
      refine loopK_normal (i + 1) [3, 1] (by show i + 1 ≤ _; omega) (by show x.l.length - (i + 1) < x.l.length - i; omega) ?_
      simp (config := { maxSteps := 1000000 }) only [tk, List.flatMap_append, e4, vC_app, e5, vC_ren, push_cast, ↓reduceIte, reduceCtorEq, Nat.reduceEqDiff, Nat.reduceLT, Nat.reduceAdd]
      done
    · obtain rfl : i = x.l.length := by omega
      simp (config := { maxSteps := 1000000 }) only [hlt, List.take_length, push_cast, ↓reduceIte, reduceCtorEq, Nat.reduceEqDiff, Nat.reduceLT, Nat.reduceAdd]
      refine ⟨(), endsAs [0, 1] ?_⟩
      simp (config := { maxSteps := 1000000 }) only [vC_forall, vC_ren, push_cast, ↓reduceIte, reduceCtorEq, Nat.reduceLT, Nat.reduceAdd]
      done
  refine h0.mono fun e w' ⟨_, γ1, _, he, hS⟩ => ?_
  obtain ⟨A1, c1, γ2, a1, b1, eB1, eS1, s1⟩ := hS.onnF (j := 0) (k := 1) (n := x.l.length) (vs := x.l.flatMap cmV) (l := []) rfl rfl (by decide) (vC_val γ1 _) (flat_len cmV_len x.l)
  obtain ⟨h7, _⟩ := s1.sel (ρ := [1]) (hp0 := [.abs (fctRep ([] ++ [⟨.slice A1 x.l.length c1, x.l.length, x.l.flatMap cmV⟩]))]) ⟨by simp [Res.ren], trivial⟩ ⟨trivial, trivial⟩ (fun r hr => by rw [List.mem_singleton.1 hr]; trivial)
  refine ⟨(⟨A1, c1, x.l⟩, _), _, ⟨rfl, .inr (List.mem_append_right _ (List.mem_singleton.2 rfl))⟩, ?_, h7⟩
  rw [he]
  have x1 : At.val γ1 (.o 0) = .slice A1 x.l.length c1 := a1
  show Ending.returned (At.val γ1 (.o 0)) = _
  rw [x1]
  rfl
set_option maxRecDepth 100000 in
set_option maxHeartbeats 1000000 in
theorem big40_any (x : SlV CmR) (w : World) (hx : CmsI x w) : Calls Tryd.prog 52 #[x.val] w fun e w' => e = .returned (.bool (bigF (cmsL x))) ∧ Below w.heap.size w w' := by
  have F := FLm.of cmV_len (by decide) hx.rd
  have hw := hx.wide
  have hcl : (cmsL x).length = x.l.length := List.length_map ..
  refine calls_v (n := 58) Tryd.func52 rfl Tryd.ntmps52 [.x (.a (.v (.slice x.A x.l.length x.c)))] (by simp) (.x (.a (.v (.bool (bigF (cmsL x)))))) (fun _ => rfl) ?_
  obtain ⟨q, hq⟩ : ∃ q, q = bigF (cmsL x) := ⟨_, rfl⟩
  rw [← hq]
  unfold bigF at hq
  have gx : ∀ i, i < x.l.length → (cmsL x)[i]? = some (ix x.l i).cm := fun i hi => by unfold cmsL ix; rw [List.getElem?_map, List.getD_eq_getElem?_getD, List.getElem?_eq_getElem hi]; rfl
  have yes : ∀ i, i < x.l.length → i < 60 → bigC (ix x.l i).cm = true → q = true := fun i h1 h2 h3 => by
    rw [hq, Bool.or_eq_true]
    left
    rw [List.any_eq_true]
    exact ⟨_, List.mem_iff_getElem?.2 ⟨i, by rw [List.getElem?_take_of_lt h2]; exact gx i h1⟩, h3⟩
  simp (config := { maxSteps := 1000000 }) only [push_cast, ↓reduceIte, Nat.reduceLT]
  refine loop_rule (ι := Nat) (fun i => ⟨[(0, .x (.a (.v (.slice x.A x.l.length x.c)))), (3, .x (.a (.v (.int .i64 (i : Nat)))))], []⟩) (fun i => i ≤ x.l.length ∧ i ≤ 60 ∧ ((cmsL x).take i).any bigC = false) (fun i => x.l.length - i) 0 [] ⟨Nat.zero_le _, Nat.zero_le _, rfl⟩ ?_ ?_
  · simp (config := { maxSteps := 1000000 }) only [push_cast, ↓Int.cast_ofNat_Int, Int.cast_ofNat_Int, ↓reduceIte, reduceCtorEq]
  rintro i ⟨hi, hi60, hall⟩
  by_cases hlt : (i : Int) < x.l.length ∧ (i : Int) < 60
  case neg =>
    have hend : q = decide ((60 : Int) < x.l.length) := by
      rw [hq]
      have : ((cmsL x).take 60).any bigC = false := by
        by_cases h : (i : Int) < 60
        · obtain rfl : i = x.l.length := by omega
          rw [List.take_of_length_le (by omega)]
          rw [List.take_of_length_le (by omega)] at hall
          exact hall
        · obtain rfl : i = 60 := by omega
          exact hall
      rw [this, Bool.false_or]
      exact decide_eq_decide.2 (by omega)
    by_cases h1 : (i : Int) < x.l.length
    · have h2 : ¬ (i : Int) < 60 := fun h => hlt ⟨h1, h⟩
      simp (config := { maxSteps := 1000000 }) only [h1, h2, hend, push_cast, ↓reduceIte, reduceCtorEq, Nat.reduceEqDiff, Nat.reduceLT]
      done
    · simp (config := { maxSteps := 1000000 }) only [h1, hend, undef, push_cast, ↓reduceIte, reduceCtorEq, Nat.reduceEqDiff, Nat.reduceLT]
      done
  obtain ⟨h1, h2⟩ := hlt
  have hil : i < x.l.length := by omega
  have i0 : (0 : Int) ≤ i := by omega
  have nx : (i : Int) + 1 ≤ 9223372036854775807 := by omega
  have nm : -9223372036854775808 ≤ (i : Int) + 1 := by omega
  obtain ⟨k1, k2, k3⟩ := hx.each _ (ix_mem hil)
  have gi := gx i hil
  have yi := yes i hil (by omega)
  obtain ⟨x0, p0⟩ := F.cell i 0 _ hil rfl
  obtain ⟨x1, p1⟩ := F.cell i 1 _ hil rfl
  rw [Nat.add_zero] at x0 p0
  have a1 := F.some_ (by omega)
  have FA := FV.no k3
  have tk : (cmsL x).take (i + 1) = (cmsL x).take i ++ [(ix x.l i).cm] := by rw [List.take_add_one, gi]; rfl
  generalize ix x.l i = c at *
  have x1 : cellOf w (pAdd x.A (i * 2 + 1)) = .slice c.args.A c.args.l.length c.args.c := x1
  simp (config := { maxSteps := 1000000 }) only [h1, h2, push_cast, ↓reduceIte, reduceCtorEq, Nat.reduceEqDiff, Nat.reduceLT]
  refine loop_rule (ι := Nat) (fun k => ⟨[(0, .x (.a (.v (.slice x.A x.l.length x.c)))), (3, .x (.a (.v (.int .i64 (i : Nat))))), (4, .x (.a (.v (.int .i64 (k : Nat)))))], []⟩) (fun k => k ≤ c.args.l.length ∧ k ≤ 80 ∧ (c.args.l.take k).any (fun s => decide (5000 < s.size)) = false) (fun k => c.args.l.length - k) 0 [] ⟨Nat.zero_le _, Nat.zero_le _, rfl⟩ ?_ ?_
  · simp (config := { maxSteps := 1000000 }) only [push_cast, ↓Int.cast_ofNat_Int, Int.cast_ofNat_Int, ↓reduceIte, reduceCtorEq, Nat.reduceEqDiff]
  rintro k ⟨hk, hk80, hka⟩
  by_cases hkl : (k : Int) < c.args.l.length ∧ (k : Int) < 80
  · obtain ⟨g1, g2⟩ := hkl
    have hkn : k < c.args.l.length := by omega
    obtain ⟨s, hs⟩ : ∃ s, c.args.l[k]? = some s := ⟨_, List.getElem?_eq_getElem hkn⟩
    obtain ⟨c1, o1⟩ := FA.cell (i := k) (u := .string s) (by rw [List.getElem?_map, hs]; rfl)
    have hA := FA.some_ (by rw [List.length_map]; omega)
    have k0 : (0 : Int) ≤ k := by omega
    have kx : (k : Int) + 1 ≤ 9223372036854775807 := by omega
    have km : -9223372036854775808 ≤ (k : Int) + 1 := by omega
    have tk2 : c.args.l.take (k + 1) = c.args.l.take k ++ [s] := by rw [List.take_add_one, hs]; rfl
    by_cases h5 : (5000 : Int) < s.size
    · have hy := yi (by
        unfold bigC
        rw [Bool.or_eq_true]
        left
        rw [List.any_eq_true]
        exact ⟨s, List.mem_iff_getElem?.2 ⟨k, by rw [List.getElem?_take_of_lt (by omega)]; exact hs⟩, decide_eq_true (by omega)⟩)
      simp (config := { maxSteps := 1000000 }) only [g1, g2, i0, h1, x1, p1, a1, k0, c1, o1, hA, h5, hy, pAdd_add, pAdd_isSome, push_cast, ↓Int.toNat_natCast, ↓reduceIte, reduceCtorEq, Nat.reduceEqDiff, Nat.reduceLT]
      done
    · simp (config := { maxSteps := 1000000 }) only [g1, g2, i0, h1, x1, p1, a1, k0, c1, o1, hA, h5, kx, km, pAdd_add, pAdd_isSome, push_cast, ↓Int.toNat_natCast, ↓reduceIte, reduceCtorEq, Nat.reduceEqDiff, Nat.reduceLT, Int.reduceNeg]
      (repeat (refine And.intro (by first | omega | decide) ?_))
      refine loopK_normal (k + 1) [] ⟨by omega, by omega, by rw [tk2, List.any_append, hka]; simp; omega⟩ (by show c.args.l.length - (k + 1) < c.args.l.length - k; omega) ?_
      simp (config := { maxSteps := 1000000 }) only [push_cast, ↓reduceIte, reduceCtorEq, Nat.reduceEqDiff]
  have hka80 : (c.args.l.take 80).any (fun s => decide (5000 < s.size)) = false := by
    by_cases h : (k : Int) < 80
    · obtain rfl : k = c.args.l.length := by omega
      rw [List.take_of_length_le (by omega)]
      rw [List.take_of_length_le (by omega)] at hka
      exact hka
    · obtain rfl : k = 80 := by omega
      exact hka
  have bC : bigC c.cm = (decide ((80 : Int) < c.args.l.length) || decide ((200 : Int) < c.word.size)) := by
    unfold bigC
    have : (c.cm.args.take 80).any (fun s => decide (5000 < s.size)) = false := hka80
    rw [this, Bool.false_or]
    congr 1
    · exact decide_eq_decide.2 (by show 80 < c.args.l.length ↔ _; omega)
    · exact decide_eq_decide.2 (by show 200 < c.word.size ↔ _; omega)
  have fin : ∀ {G : Prop}, ((k : Int) < c.args.l.length → ¬ (k : Int) < 80 → G) → (¬ (k : Int) < c.args.l.length → G) → G := fun a b => by
    by_cases h : (k : Int) < c.args.l.length
    · exact a h fun e => hkl ⟨h, e⟩
    · exact b h
  by_cases g80 : (80 : Int) < c.args.l.length
  · have hy := yi (by rw [bC, decide_eq_true g80]; rfl)
    refine fin (fun g1 g2 => ?_) (fun g1 => ?_)
    · simp (config := { maxSteps := 1000000 }) only [g1, g2, i0, h1, x1, p1, a1, g80, hy, pAdd_add, pAdd_isSome, undef, push_cast, ↓Int.toNat_natCast, ↓reduceIte, reduceCtorEq, Nat.reduceEqDiff, Nat.reduceLT]
      done
    · simp (config := { maxSteps := 1000000 }) only [g1, i0, h1, x1, p1, a1, g80, hy, pAdd_add, pAdd_isSome, undef, push_cast, ↓Int.toNat_natCast, ↓reduceIte, reduceCtorEq, Nat.reduceEqDiff, Nat.reduceLT]
      done
  by_cases g200 : (200 : Int) < c.word.size
  · have hy := yi (by rw [bC, decide_eq_true g200, Bool.or_true])
    refine fin (fun g1 g2 => ?_) (fun g1 => ?_)
    · simp (config := { maxSteps := 1000000 }) only [g1, g2, i0, h1, x0, p0, x1, p1, a1, g80, g200, hy, pAdd_add, pAdd_isSome, push_cast, ↓Int.toNat_natCast, ↓reduceIte, reduceCtorEq, Nat.reduceEqDiff, Nat.reduceLT]
      done
    · simp (config := { maxSteps := 1000000 }) only [g1, i0, h1, x0, p0, x1, p1, a1, g80, g200, hy, pAdd_add, pAdd_isSome, undef, push_cast, ↓Int.toNat_natCast, ↓reduceIte, reduceCtorEq, Nat.reduceEqDiff, Nat.reduceLT]
      done
  have nb : bigC c.cm = false := by rw [bC, decide_eq_false g80, decide_eq_false g200]; rfl
  refine fin (fun g1 g2 => ?_) (fun g1 => ?_)
  · simp (config := { maxSteps := 1000000 }) only [g1, g2, i0, h1, x0, p0, x1, p1, a1, g80, g200, nx, nm, pAdd_add, pAdd_isSome, push_cast, ↓Int.toNat_natCast, ↓reduceIte, reduceCtorEq, Nat.reduceEqDiff, Nat.reduceLT, Int.reduceNeg]
    (repeat (refine And.intro (by first | omega | decide) ?_))
    refine loopK_normal (i + 1) [] ⟨by omega, by omega, by rw [tk, List.any_append, hall]; simp [nb]⟩ (by show x.l.length - (i + 1) < x.l.length - i; omega) ?_
    simp (config := { maxSteps := 1000000 }) only [push_cast, ↓reduceIte, reduceCtorEq]
  · simp (config := { maxSteps := 1000000 }) only [g1, i0, h1, x0, p0, x1, p1, a1, g80, g200, nx, nm, pAdd_add, pAdd_isSome, undef, push_cast, ↓Int.toNat_natCast, ↓reduceIte, reduceCtorEq, Nat.reduceEqDiff, Nat.reduceLT, Int.reduceNeg]
    (repeat (refine And.intro (by first | omega | decide) ?_))
    refine loopK_normal (i + 1) [] ⟨by omega, by omega, by rw [tk, List.any_append, hall]; simp [nb]⟩ (by show x.l.length - (i + 1) < x.l.length - i; omega) ?_
    simp (config := { maxSteps := 1000000 }) only [push_cast, ↓reduceIte, reduceCtorEq]
end Go.Proofs.YtiaeollemmkclaaDoor
