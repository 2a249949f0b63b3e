import Derived.Test.YtiaeollemmkclaaDoorMgC
import Derived.Test.YtiaeollemmkclaaDoorDrD
/- Law 16: great, giveMsg. -/
namespace Go.Proofs.YtiaeollemmkclaaDoor
open Go.RowKit
set_option linter.unusedSimpArgs false
set_option linter.unusedVariables false
/-- A message that came in, before anybody looked at its size. -/
structure MgR.Wide (m : MgR) (w : World) : Prop where
  s : m.sm.length = 32
  ids : m.ids.l.length ≤ m.ids.c ∧ RdV w w.heap.size m.ids.A (m.ids.l.map (Value.int .i64))
  ns : m.ns.l.length ≤ m.ns.c ∧ RdV w w.heap.size m.ns.A (m.ns.l.map vU64)
  ps : m.ps.l.length ≤ m.ps.c ∧ RdV w w.heap.size m.ps.A (pvs m.ps.l)
  xs : m.xs.l.length ≤ m.xs.c ∧ RdV w w.heap.size m.xs.A (m.xs.l.map vU32)
def bigM (m : MgS) : Bool := decide (100 < m.ids.length) || (decide (200 < m.ns.length) || (decide (100 < m.ps.length) || decide (100 < m.xs.length)))
theorem bigM_no {m : MgS} (h : bigM m = false) : m.ids.length ≤ 100 ∧ m.ns.length ≤ 200 ∧ m.ps.length ≤ 100 ∧ m.xs.length ≤ 100 := by
  unfold bigM at h
  simp only [Bool.or_eq_false_iff, decide_eq_false_iff_not] at h
  omega
theorem MgR.Wide.ok {m : MgR} {w : World} (h : m.Wide w) (hb : bigM m.mg = false) : m.Ok w := by
  obtain ⟨h1, h2, h3, h4⟩ := bigM_no hb
  have h1 : m.ids.l.length ≤ 100 := h1
  have h2 : m.ns.l.length ≤ 200 := h2
  have h3 : m.ps.l.length ≤ 100 := h3
  have h4 : m.xs.l.length ≤ 100 := h4
  exact ⟨h.s, ⟨h.ids.1, by omega, h.ids.2⟩, ⟨h.ns.1, by omega, h.ns.2⟩, ⟨h.ps.1, by omega, h.ps.2⟩, ⟨h.xs.1, by omega, h.xs.2⟩⟩
attribute [local irreducible] Callable CallOK CallG CallM DrawG LoopG symR symM
attribute [local irreducible] mgA mgO
section
set_option maxRecDepth 100000 in
theorem great16_any (m : MgR) (w : World) (hm : m.Wide w) : Calls Tryd.prog 36 (List.map (Sv.val []) [.x (.g (mgA m))]).toArray w fun e w' => e = .returned (.bool (bigM m.mg)) ∧ Below w.heap.size w w' := by
  obtain ⟨f0, f1, f2, f3, f4, f5, f38, f39, f40, f41, f42⟩ := mgA_get hm.s
  have fl := mgA_len hm.s
  have fs := mgA_s hm.s
  have hfs := hm.s
  have fb := fun n => mgA_bnd m n
  have zb := fun n => mgA_bnd zeroR n
  simp only [At.bnd] at fb zb
  obtain ⟨q, hq⟩ : ∃ q, q = bigM m.mg := ⟨_, rfl⟩
  rw [← hq]
  have hq : q = (decide (100 < m.ids.l.length) || (decide (200 < m.ns.l.length) || (decide (100 < m.ps.l.length) || decide (100 < m.xs.l.length)))) := hq
  refine calls_v (n := 25) Tryd.func36 rfl Tryd.ntmps36 [.x (.g (mgA m))] (by simp) (.x (.a (.v (.bool q)))) (fun _ => rfl) ?_
  by_cases h1 : (100 : Int) < m.ids.l.length
  · rw [decide_eq_true (show 100 < m.ids.l.length by omega), Bool.true_or] at hq
    simp (config := { maxSteps := 1000000 }) only [fb, fl, f38, ↓mgA_cont, SlV.val, h1, hq, undef, push_cast, ↓reduceIte, reduceCtorEq, Nat.reduceEqDiff, Nat.reduceLT]
    done
  rw [decide_eq_false (show ¬ 100 < m.ids.l.length by omega), Bool.false_or] at hq
  by_cases h2 : (200 : Int) < m.ns.l.length
  · rw [decide_eq_true (show 200 < m.ns.l.length by omega), Bool.true_or] at hq
    simp (config := { maxSteps := 1000000 }) only [fb, fl, f38, f39, ↓mgA_cont, SlV.val, h1, h2, hq, undef, push_cast, ↓reduceIte, reduceCtorEq, Nat.reduceEqDiff, Nat.reduceLT]
    done
  rw [decide_eq_false (show ¬ 200 < m.ns.l.length by omega), Bool.false_or] at hq
  by_cases h3 : (100 : Int) < m.ps.l.length
  · rw [decide_eq_true (show 100 < m.ps.l.length by omega), Bool.true_or] at hq
    simp (config := { maxSteps := 1000000 }) only [fb, fl, f38, f39, f40, ↓mgA_cont, SlV.val, h1, h2, h3, hq, undef, push_cast, ↓reduceIte, reduceCtorEq, Nat.reduceEqDiff, Nat.reduceLT]
    done
  rw [decide_eq_false (show ¬ 100 < m.ps.l.length by omega), Bool.false_or] at hq
  by_cases h4 : (100 : Int) < m.xs.l.length
  · rw [decide_eq_true (show 100 < m.xs.l.length by omega)] at hq
    simp (config := { maxSteps := 1000000 }) only [fb, fl, f38, f39, f40, f41, ↓mgA_cont, SlV.val, h1, h2, h3, h4, hq, undef, push_cast, ↓reduceIte, reduceCtorEq, Nat.reduceEqDiff, Nat.reduceLT]
    done
  rw [decide_eq_false (show ¬ 100 < m.xs.l.length by omega)] at hq
  simp (config := { maxSteps := 1000000 }) only [fb, fl, f38, f39, f40, f41, ↓mgA_cont, SlV.val, h1, h2, h3, h4, hq, undef, push_cast, ↓reduceIte, reduceCtorEq, Nat.reduceEqDiff, Nat.reduceLT]
  done
end
end Go.Proofs.YtiaeollemmkclaaDoor
