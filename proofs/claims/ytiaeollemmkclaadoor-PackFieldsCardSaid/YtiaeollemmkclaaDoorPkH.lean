import Derived.Test.YtiaeollemmkclaaDoorPkG
/- law 13's blank: has a field what its kind does not write? -/
namespace Go.Proofs.YtiaeollemmkclaaDoor
open Go.RowKit
set_option linter.unusedSimpArgs false
set_option linter.unusedVariables false
attribute [local irreducible] Callable CallOK CallG CallM DrawG LoopG symR symM
theorem not5 {a b c d e : Prop} (h1 : ¬ a) (h2 : ¬ b) (h3 : ¬ c) (h4 : ¬ d) (h5 : ¬ e) : ¬ (a ∨ b ∨ c ∨ d ∨ e) := by
  rintro (h | h | h | h | h)
  · exact h1 h
  · exact h2 h
  · exact h3 h
  · exact h4 h
  · exact h5 h
attribute [local irreducible] fdA
def blankF (f : Fd) : Bool := decide (f.k ≠ 0 ∧ f.n ≠ 0 ∨ f.k ≠ 1 ∧ 0 < f.l.length ∨ f.k ≠ 2 ∧ 0 < f.b.length ∨ f.k ≠ 3 ∧ f.s ≠ List.replicate 32 0 ∨ f.k < 4 ∧ 0 < f.x.length)
set_option maxRecDepth 100000 in
set_option maxHeartbeats 4000000 in
theorem blank13_any (f : FdR) (w : World) (hf : f.s.length = 32) : Calls Tryd.prog 25 (List.map (Sv.val []) [.x (.g (fdA f))]).toArray w fun e w' => e = .returned (.bool (blankF f.fd)) ∧ Below w.heap.size w w' := by
  obtain ⟨f0, f1, f2, f3, f36, f37, f38⟩ := fdA_get hf
  have fl := fdA_len hf
  have fs := fdA_s hf
  have hfs := hf
  have fb := fun n => fdA_bnd f n
  simp only [At.bnd] at fb
  refine calls_v (n := 55) Tryd.func25 rfl Tryd.ntmps25 [.x (.g (fdA f))] (by simp) (.x (.a (.v (.bool (blankF f.fd))))) (fun _ => rfl) ?_
  have yes : ∀ {q : Prop}, q → (q → blankF f.fd = true) → blankF f.fd = true := fun h k => k h
  by_cases k0 : f.k = 0
  · have k4 : f.k < 4 := by rw [k0]; decide
    have kk1 : f.k ≠ 1 := by rw [k0]; decide
    have kk2 : f.k ≠ 2 := by rw [k0]; decide
    have kk3 : f.k ≠ 3 := by rw [k0]; decide
    have e0 : (f.k = 0) = True := eq_true k0
    have e1 : (f.k = 1) = False := eq_false kk1
    have e2 : (f.k = 2) = False := eq_false kk2
    have e3 : (f.k = 3) = False := eq_false kk3
    have e4 : (f.k < 4) = True := eq_true k4
    by_cases n1 : (0 : Int) < f.l.l.length
    · have hb : blankF f.fd = true := decide_eq_true (.inr (.inl ⟨kk1, (by show 0 < f.l.l.length; omega)⟩))
      simp (config := { maxSteps := 1000000 }) only [fb, fl, f0, f1, f2, f3, f36, f37, f38, ↓fdA_cbnd, ↓fdA_sbnd, ↓fdA_vbnd, ↓fdA_cont, ↓fdA_cren, ↓fdA_sren, ↓fdA_vren, fs, hfs, SlR.val, e0, e1, e2, e3, e4, n1, hb, undef, push_cast, ↓Int.toNat_natCast, ↓Int.cast_ofNat_Int, Int.cast_ofNat_Int, ↓reduceIte, reduceCtorEq, Nat.reduceEqDiff, Nat.reduceLT, Nat.reduceLeDiff, Nat.reduceAdd, Nat.reduceSub, Nat.reduceMul, Int.reduceNeg, Int.reduceLE, Int.reduceLT, Int.reduceToNat, Int.reduceAdd, Int.reduceSub, Int.reduceMul, Int.reduceEq]
    · skip
      by_cases n2 : (0 : Int) < f.b.l.length
      · have hb : blankF f.fd = true := decide_eq_true (.inr (.inr (.inl ⟨kk2, (by show 0 < f.b.l.length; omega)⟩)))
        simp (config := { maxSteps := 1000000 }) only [fb, fl, f0, f1, f2, f3, f36, f37, f38, ↓fdA_cbnd, ↓fdA_sbnd, ↓fdA_vbnd, ↓fdA_cont, ↓fdA_cren, ↓fdA_sren, ↓fdA_vren, fs, hfs, SlR.val, e0, e1, e2, e3, e4, n1, n2, hb, undef, push_cast, ↓Int.toNat_natCast, ↓Int.cast_ofNat_Int, Int.cast_ofNat_Int, ↓reduceIte, reduceCtorEq, Nat.reduceEqDiff, Nat.reduceLT, Nat.reduceLeDiff, Nat.reduceAdd, Nat.reduceSub, Nat.reduceMul, Int.reduceNeg, Int.reduceLE, Int.reduceLT, Int.reduceToNat, Int.reduceAdd, Int.reduceSub, Int.reduceMul, Int.reduceEq]
      · skip
        by_cases n3 : f.s = List.replicate 32 0
        · skip
          have m3 : (f.s = List.replicate 32 0) = True := eq_true n3
          by_cases n4 : (0 : Int) < f.x.l.length
          · have hb : blankF f.fd = true := decide_eq_true (.inr (.inr (.inr (.inr ⟨k4, (by show 0 < f.x.l.length; omega)⟩))))
            simp (config := { maxSteps := 1000000 }) only [fb, fl, f0, f1, f2, f3, f36, f37, f38, ↓fdA_cbnd, ↓fdA_sbnd, ↓fdA_vbnd, ↓fdA_cont, ↓fdA_cren, ↓fdA_sren, ↓fdA_vren, fs, hfs, SlR.val, e0, e1, e2, e3, e4, n1, n2, m3, n4, hb, undef, push_cast, ↓Int.toNat_natCast, ↓Int.cast_ofNat_Int, Int.cast_ofNat_Int, ↓reduceIte, reduceCtorEq, Nat.reduceEqDiff, Nat.reduceLT, Nat.reduceLeDiff, Nat.reduceAdd, Nat.reduceSub, Nat.reduceMul, Int.reduceNeg, Int.reduceLE, Int.reduceLT, Int.reduceToNat, Int.reduceAdd, Int.reduceSub, Int.reduceMul, Int.reduceEq]
          · skip
            have hb : blankF f.fd = false := decide_eq_false (by show ¬ (f.k ≠ 0 ∧ f.n ≠ 0 ∨ f.k ≠ 1 ∧ 0 < f.l.l.length ∨ f.k ≠ 2 ∧ 0 < f.b.l.length ∨ f.k ≠ 3 ∧ f.s ≠ List.replicate 32 0 ∨ f.k < 4 ∧ 0 < f.x.l.length); exact not5 (fun h => h.1 k0) (fun h => n1 (by have := h.2; omega)) (fun h => n2 (by have := h.2; omega)) (fun h => h.2 n3) (fun h => n4 (by have := h.2; omega)))
            simp (config := { maxSteps := 1000000 }) only [fb, fl, f0, f1, f2, f3, f36, f37, f38, ↓fdA_cbnd, ↓fdA_sbnd, ↓fdA_vbnd, ↓fdA_cont, ↓fdA_cren, ↓fdA_sren, ↓fdA_vren, fs, hfs, SlR.val, e0, e1, e2, e3, e4, n1, n2, m3, n4, hb, undef, push_cast, ↓Int.toNat_natCast, ↓Int.cast_ofNat_Int, Int.cast_ofNat_Int, ↓reduceIte, reduceCtorEq, Nat.reduceEqDiff, Nat.reduceLT, Nat.reduceLeDiff, Nat.reduceAdd, Nat.reduceSub, Nat.reduceMul, Int.reduceNeg, Int.reduceLE, Int.reduceLT, Int.reduceToNat, Int.reduceAdd, Int.reduceSub, Int.reduceMul, Int.reduceEq]
        · have hb : blankF f.fd = true := decide_eq_true (.inr (.inr (.inr (.inl ⟨kk3, n3⟩))))
          have m3 : (f.s = List.replicate 32 0) = False := eq_false n3
          simp (config := { maxSteps := 1000000 }) only [fb, fl, f0, f1, f2, f3, f36, f37, f38, ↓fdA_cbnd, ↓fdA_sbnd, ↓fdA_vbnd, ↓fdA_cont, ↓fdA_cren, ↓fdA_sren, ↓fdA_vren, fs, hfs, SlR.val, e0, e1, e2, e3, e4, n1, n2, m3, hb, undef, push_cast, ↓Int.toNat_natCast, ↓Int.cast_ofNat_Int, Int.cast_ofNat_Int, ↓reduceIte, reduceCtorEq, Nat.reduceEqDiff, Nat.reduceLT, Nat.reduceLeDiff, Nat.reduceAdd, Nat.reduceSub, Nat.reduceMul, Int.reduceNeg, Int.reduceLE, Int.reduceLT, Int.reduceToNat, Int.reduceAdd, Int.reduceSub, Int.reduceMul, Int.reduceEq]
  by_cases k1 : f.k = 1
  · have k4 : f.k < 4 := by rw [k1]; decide
    have kk0 := k0
    have kk2 : f.k ≠ 2 := by rw [k1]; decide
    have kk3 : f.k ≠ 3 := by rw [k1]; decide
    have e0 : (f.k = 0) = False := eq_false kk0
    have e1 : (f.k = 1) = True := eq_true k1
    have e2 : (f.k = 2) = False := eq_false kk2
    have e3 : (f.k = 3) = False := eq_false kk3
    have e4 : (f.k < 4) = True := eq_true k4
    by_cases n0 : f.n = 0
    · skip
      have m0 : (f.n = 0) = True := eq_true n0
      by_cases n2 : (0 : Int) < f.b.l.length
      · have hb : blankF f.fd = true := decide_eq_true (.inr (.inr (.inl ⟨kk2, (by show 0 < f.b.l.length; omega)⟩)))
        simp (config := { maxSteps := 1000000 }) only [fb, fl, f0, f1, f2, f3, f36, f37, f38, ↓fdA_cbnd, ↓fdA_sbnd, ↓fdA_vbnd, ↓fdA_cont, ↓fdA_cren, ↓fdA_sren, ↓fdA_vren, fs, hfs, SlR.val, e0, e1, e2, e3, e4, m0, n2, hb, undef, push_cast, ↓Int.toNat_natCast, ↓Int.cast_ofNat_Int, Int.cast_ofNat_Int, ↓reduceIte, reduceCtorEq, Nat.reduceEqDiff, Nat.reduceLT, Nat.reduceLeDiff, Nat.reduceAdd, Nat.reduceSub, Nat.reduceMul, Int.reduceNeg, Int.reduceLE, Int.reduceLT, Int.reduceToNat, Int.reduceAdd, Int.reduceSub, Int.reduceMul, Int.reduceEq]
      · skip
        by_cases n3 : f.s = List.replicate 32 0
        · skip
          have m3 : (f.s = List.replicate 32 0) = True := eq_true n3
          by_cases n4 : (0 : Int) < f.x.l.length
          · have hb : blankF f.fd = true := decide_eq_true (.inr (.inr (.inr (.inr ⟨k4, (by show 0 < f.x.l.length; omega)⟩))))
            simp (config := { maxSteps := 1000000 }) only [fb, fl, f0, f1, f2, f3, f36, f37, f38, ↓fdA_cbnd, ↓fdA_sbnd, ↓fdA_vbnd, ↓fdA_cont, ↓fdA_cren, ↓fdA_sren, ↓fdA_vren, fs, hfs, SlR.val, e0, e1, e2, e3, e4, m0, n2, m3, n4, hb, undef, push_cast, ↓Int.toNat_natCast, ↓Int.cast_ofNat_Int, Int.cast_ofNat_Int, ↓reduceIte, reduceCtorEq, Nat.reduceEqDiff, Nat.reduceLT, Nat.reduceLeDiff, Nat.reduceAdd, Nat.reduceSub, Nat.reduceMul, Int.reduceNeg, Int.reduceLE, Int.reduceLT, Int.reduceToNat, Int.reduceAdd, Int.reduceSub, Int.reduceMul, Int.reduceEq]
          · skip
            have hb : blankF f.fd = false := decide_eq_false (by show ¬ (f.k ≠ 0 ∧ f.n ≠ 0 ∨ f.k ≠ 1 ∧ 0 < f.l.l.length ∨ f.k ≠ 2 ∧ 0 < f.b.l.length ∨ f.k ≠ 3 ∧ f.s ≠ List.replicate 32 0 ∨ f.k < 4 ∧ 0 < f.x.l.length); exact not5 (fun h => h.2 n0) (fun h => h.1 k1) (fun h => n2 (by have := h.2; omega)) (fun h => h.2 n3) (fun h => n4 (by have := h.2; omega)))
            simp (config := { maxSteps := 1000000 }) only [fb, fl, f0, f1, f2, f3, f36, f37, f38, ↓fdA_cbnd, ↓fdA_sbnd, ↓fdA_vbnd, ↓fdA_cont, ↓fdA_cren, ↓fdA_sren, ↓fdA_vren, fs, hfs, SlR.val, e0, e1, e2, e3, e4, m0, n2, m3, n4, hb, undef, push_cast, ↓Int.toNat_natCast, ↓Int.cast_ofNat_Int, Int.cast_ofNat_Int, ↓reduceIte, reduceCtorEq, Nat.reduceEqDiff, Nat.reduceLT, Nat.reduceLeDiff, Nat.reduceAdd, Nat.reduceSub, Nat.reduceMul, Int.reduceNeg, Int.reduceLE, Int.reduceLT, Int.reduceToNat, Int.reduceAdd, Int.reduceSub, Int.reduceMul, Int.reduceEq]
        · have hb : blankF f.fd = true := decide_eq_true (.inr (.inr (.inr (.inl ⟨kk3, n3⟩))))
          have m3 : (f.s = List.replicate 32 0) = False := eq_false n3
          simp (config := { maxSteps := 1000000 }) only [fb, fl, f0, f1, f2, f3, f36, f37, f38, ↓fdA_cbnd, ↓fdA_sbnd, ↓fdA_vbnd, ↓fdA_cont, ↓fdA_cren, ↓fdA_sren, ↓fdA_vren, fs, hfs, SlR.val, e0, e1, e2, e3, e4, m0, n2, m3, hb, undef, push_cast, ↓Int.toNat_natCast, ↓Int.cast_ofNat_Int, Int.cast_ofNat_Int, ↓reduceIte, reduceCtorEq, Nat.reduceEqDiff, Nat.reduceLT, Nat.reduceLeDiff, Nat.reduceAdd, Nat.reduceSub, Nat.reduceMul, Int.reduceNeg, Int.reduceLE, Int.reduceLT, Int.reduceToNat, Int.reduceAdd, Int.reduceSub, Int.reduceMul, Int.reduceEq]
    · have hb : blankF f.fd = true := decide_eq_true (.inl ⟨kk0, n0⟩)
      have m0 : (f.n = 0) = False := eq_false n0
      simp (config := { maxSteps := 1000000 }) only [fb, fl, f0, f1, f2, f3, f36, f37, f38, ↓fdA_cbnd, ↓fdA_sbnd, ↓fdA_vbnd, ↓fdA_cont, ↓fdA_cren, ↓fdA_sren, ↓fdA_vren, fs, hfs, SlR.val, e0, e1, e2, e3, e4, m0, hb, undef, push_cast, ↓Int.toNat_natCast, ↓Int.cast_ofNat_Int, Int.cast_ofNat_Int, ↓reduceIte, reduceCtorEq, Nat.reduceEqDiff, Nat.reduceLT, Nat.reduceLeDiff, Nat.reduceAdd, Nat.reduceSub, Nat.reduceMul, Int.reduceNeg, Int.reduceLE, Int.reduceLT, Int.reduceToNat, Int.reduceAdd, Int.reduceSub, Int.reduceMul, Int.reduceEq]
  by_cases k2 : f.k = 2
  · have k4 : f.k < 4 := by rw [k2]; decide
    have kk0 := k0
    have kk1 := k1
    have kk3 : f.k ≠ 3 := by rw [k2]; decide
    have e0 : (f.k = 0) = False := eq_false kk0
    have e1 : (f.k = 1) = False := eq_false kk1
    have e2 : (f.k = 2) = True := eq_true k2
    have e3 : (f.k = 3) = False := eq_false kk3
    have e4 : (f.k < 4) = True := eq_true k4
    by_cases n0 : f.n = 0
    · skip
      have m0 : (f.n = 0) = True := eq_true n0
      by_cases n1 : (0 : Int) < f.l.l.length
      · have hb : blankF f.fd = true := decide_eq_true (.inr (.inl ⟨kk1, (by show 0 < f.l.l.length; omega)⟩))
        simp (config := { maxSteps := 1000000 }) only [fb, fl, f0, f1, f2, f3, f36, f37, f38, ↓fdA_cbnd, ↓fdA_sbnd, ↓fdA_vbnd, ↓fdA_cont, ↓fdA_cren, ↓fdA_sren, ↓fdA_vren, fs, hfs, SlR.val, e0, e1, e2, e3, e4, m0, n1, hb, undef, push_cast, ↓Int.toNat_natCast, ↓Int.cast_ofNat_Int, Int.cast_ofNat_Int, ↓reduceIte, reduceCtorEq, Nat.reduceEqDiff, Nat.reduceLT, Nat.reduceLeDiff, Nat.reduceAdd, Nat.reduceSub, Nat.reduceMul, Int.reduceNeg, Int.reduceLE, Int.reduceLT, Int.reduceToNat, Int.reduceAdd, Int.reduceSub, Int.reduceMul, Int.reduceEq]
      · skip
        by_cases n3 : f.s = List.replicate 32 0
        · skip
          have m3 : (f.s = List.replicate 32 0) = True := eq_true n3
          by_cases n4 : (0 : Int) < f.x.l.length
          · have hb : blankF f.fd = true := decide_eq_true (.inr (.inr (.inr (.inr ⟨k4, (by show 0 < f.x.l.length; omega)⟩))))
            simp (config := { maxSteps := 1000000 }) only [fb, fl, f0, f1, f2, f3, f36, f37, f38, ↓fdA_cbnd, ↓fdA_sbnd, ↓fdA_vbnd, ↓fdA_cont, ↓fdA_cren, ↓fdA_sren, ↓fdA_vren, fs, hfs, SlR.val, e0, e1, e2, e3, e4, m0, n1, m3, n4, hb, undef, push_cast, ↓Int.toNat_natCast, ↓Int.cast_ofNat_Int, Int.cast_ofNat_Int, ↓reduceIte, reduceCtorEq, Nat.reduceEqDiff, Nat.reduceLT, Nat.reduceLeDiff, Nat.reduceAdd, Nat.reduceSub, Nat.reduceMul, Int.reduceNeg, Int.reduceLE, Int.reduceLT, Int.reduceToNat, Int.reduceAdd, Int.reduceSub, Int.reduceMul, Int.reduceEq]
          · skip
            have hb : blankF f.fd = false := decide_eq_false (by show ¬ (f.k ≠ 0 ∧ f.n ≠ 0 ∨ f.k ≠ 1 ∧ 0 < f.l.l.length ∨ f.k ≠ 2 ∧ 0 < f.b.l.length ∨ f.k ≠ 3 ∧ f.s ≠ List.replicate 32 0 ∨ f.k < 4 ∧ 0 < f.x.l.length); exact not5 (fun h => h.2 n0) (fun h => n1 (by have := h.2; omega)) (fun h => h.1 k2) (fun h => h.2 n3) (fun h => n4 (by have := h.2; omega)))
            simp (config := { maxSteps := 1000000 }) only [fb, fl, f0, f1, f2, f3, f36, f37, f38, ↓fdA_cbnd, ↓fdA_sbnd, ↓fdA_vbnd, ↓fdA_cont, ↓fdA_cren, ↓fdA_sren, ↓fdA_vren, fs, hfs, SlR.val, e0, e1, e2, e3, e4, m0, n1, m3, n4, hb, undef, push_cast, ↓Int.toNat_natCast, ↓Int.cast_ofNat_Int, Int.cast_ofNat_Int, ↓reduceIte, reduceCtorEq, Nat.reduceEqDiff, Nat.reduceLT, Nat.reduceLeDiff, Nat.reduceAdd, Nat.reduceSub, Nat.reduceMul, Int.reduceNeg, Int.reduceLE, Int.reduceLT, Int.reduceToNat, Int.reduceAdd, Int.reduceSub, Int.reduceMul, Int.reduceEq]
        · have hb : blankF f.fd = true := decide_eq_true (.inr (.inr (.inr (.inl ⟨kk3, n3⟩))))
          have m3 : (f.s = List.replicate 32 0) = False := eq_false n3
          simp (config := { maxSteps := 1000000 }) only [fb, fl, f0, f1, f2, f3, f36, f37, f38, ↓fdA_cbnd, ↓fdA_sbnd, ↓fdA_vbnd, ↓fdA_cont, ↓fdA_cren, ↓fdA_sren, ↓fdA_vren, fs, hfs, SlR.val, e0, e1, e2, e3, e4, m0, n1, m3, hb, undef, push_cast, ↓Int.toNat_natCast, ↓Int.cast_ofNat_Int, Int.cast_ofNat_Int, ↓reduceIte, reduceCtorEq, Nat.reduceEqDiff, Nat.reduceLT, Nat.reduceLeDiff, Nat.reduceAdd, Nat.reduceSub, Nat.reduceMul, Int.reduceNeg, Int.reduceLE, Int.reduceLT, Int.reduceToNat, Int.reduceAdd, Int.reduceSub, Int.reduceMul, Int.reduceEq]
    · have hb : blankF f.fd = true := decide_eq_true (.inl ⟨kk0, n0⟩)
      have m0 : (f.n = 0) = False := eq_false n0
      simp (config := { maxSteps := 1000000 }) only [fb, fl, f0, f1, f2, f3, f36, f37, f38, ↓fdA_cbnd, ↓fdA_sbnd, ↓fdA_vbnd, ↓fdA_cont, ↓fdA_cren, ↓fdA_sren, ↓fdA_vren, fs, hfs, SlR.val, e0, e1, e2, e3, e4, m0, hb, undef, push_cast, ↓Int.toNat_natCast, ↓Int.cast_ofNat_Int, Int.cast_ofNat_Int, ↓reduceIte, reduceCtorEq, Nat.reduceEqDiff, Nat.reduceLT, Nat.reduceLeDiff, Nat.reduceAdd, Nat.reduceSub, Nat.reduceMul, Int.reduceNeg, Int.reduceLE, Int.reduceLT, Int.reduceToNat, Int.reduceAdd, Int.reduceSub, Int.reduceMul, Int.reduceEq]
  by_cases k3 : f.k = 3
  · have k4 : f.k < 4 := by rw [k3]; decide
    have kk0 := k0
    have kk1 := k1
    have kk2 := k2
    have e0 : (f.k = 0) = False := eq_false kk0
    have e1 : (f.k = 1) = False := eq_false kk1
    have e2 : (f.k = 2) = False := eq_false kk2
    have e3 : (f.k = 3) = True := eq_true k3
    have e4 : (f.k < 4) = True := eq_true k4
    by_cases n0 : f.n = 0
    · skip
      have m0 : (f.n = 0) = True := eq_true n0
      by_cases n1 : (0 : Int) < f.l.l.length
      · have hb : blankF f.fd = true := decide_eq_true (.inr (.inl ⟨kk1, (by show 0 < f.l.l.length; omega)⟩))
        simp (config := { maxSteps := 1000000 }) only [fb, fl, f0, f1, f2, f3, f36, f37, f38, ↓fdA_cbnd, ↓fdA_sbnd, ↓fdA_vbnd, ↓fdA_cont, ↓fdA_cren, ↓fdA_sren, ↓fdA_vren, fs, hfs, SlR.val, e0, e1, e2, e3, e4, m0, n1, hb, undef, push_cast, ↓Int.toNat_natCast, ↓Int.cast_ofNat_Int, Int.cast_ofNat_Int, ↓reduceIte, reduceCtorEq, Nat.reduceEqDiff, Nat.reduceLT, Nat.reduceLeDiff, Nat.reduceAdd, Nat.reduceSub, Nat.reduceMul, Int.reduceNeg, Int.reduceLE, Int.reduceLT, Int.reduceToNat, Int.reduceAdd, Int.reduceSub, Int.reduceMul, Int.reduceEq]
      · skip
        by_cases n2 : (0 : Int) < f.b.l.length
        · have hb : blankF f.fd = true := decide_eq_true (.inr (.inr (.inl ⟨kk2, (by show 0 < f.b.l.length; omega)⟩)))
          simp (config := { maxSteps := 1000000 }) only [fb, fl, f0, f1, f2, f3, f36, f37, f38, ↓fdA_cbnd, ↓fdA_sbnd, ↓fdA_vbnd, ↓fdA_cont, ↓fdA_cren, ↓fdA_sren, ↓fdA_vren, fs, hfs, SlR.val, e0, e1, e2, e3, e4, m0, n1, n2, hb, undef, push_cast, ↓Int.toNat_natCast, ↓Int.cast_ofNat_Int, Int.cast_ofNat_Int, ↓reduceIte, reduceCtorEq, Nat.reduceEqDiff, Nat.reduceLT, Nat.reduceLeDiff, Nat.reduceAdd, Nat.reduceSub, Nat.reduceMul, Int.reduceNeg, Int.reduceLE, Int.reduceLT, Int.reduceToNat, Int.reduceAdd, Int.reduceSub, Int.reduceMul, Int.reduceEq]
        · skip
          by_cases n4 : (0 : Int) < f.x.l.length
          · have hb : blankF f.fd = true := decide_eq_true (.inr (.inr (.inr (.inr ⟨k4, (by show 0 < f.x.l.length; omega)⟩))))
            simp (config := { maxSteps := 1000000 }) only [fb, fl, f0, f1, f2, f3, f36, f37, f38, ↓fdA_cbnd, ↓fdA_sbnd, ↓fdA_vbnd, ↓fdA_cont, ↓fdA_cren, ↓fdA_sren, ↓fdA_vren, fs, hfs, SlR.val, e0, e1, e2, e3, e4, m0, n1, n2, n4, hb, undef, push_cast, ↓Int.toNat_natCast, ↓Int.cast_ofNat_Int, Int.cast_ofNat_Int, ↓reduceIte, reduceCtorEq, Nat.reduceEqDiff, Nat.reduceLT, Nat.reduceLeDiff, Nat.reduceAdd, Nat.reduceSub, Nat.reduceMul, Int.reduceNeg, Int.reduceLE, Int.reduceLT, Int.reduceToNat, Int.reduceAdd, Int.reduceSub, Int.reduceMul, Int.reduceEq]
          · skip
            have hb : blankF f.fd = false := decide_eq_false (by show ¬ (f.k ≠ 0 ∧ f.n ≠ 0 ∨ f.k ≠ 1 ∧ 0 < f.l.l.length ∨ f.k ≠ 2 ∧ 0 < f.b.l.length ∨ f.k ≠ 3 ∧ f.s ≠ List.replicate 32 0 ∨ f.k < 4 ∧ 0 < f.x.l.length); exact not5 (fun h => h.2 n0) (fun h => n1 (by have := h.2; omega)) (fun h => n2 (by have := h.2; omega)) (fun h => h.1 k3) (fun h => n4 (by have := h.2; omega)))
            simp (config := { maxSteps := 1000000 }) only [fb, fl, f0, f1, f2, f3, f36, f37, f38, ↓fdA_cbnd, ↓fdA_sbnd, ↓fdA_vbnd, ↓fdA_cont, ↓fdA_cren, ↓fdA_sren, ↓fdA_vren, fs, hfs, SlR.val, e0, e1, e2, e3, e4, m0, n1, n2, n4, hb, undef, push_cast, ↓Int.toNat_natCast, ↓Int.cast_ofNat_Int, Int.cast_ofNat_Int, ↓reduceIte, reduceCtorEq, Nat.reduceEqDiff, Nat.reduceLT, Nat.reduceLeDiff, Nat.reduceAdd, Nat.reduceSub, Nat.reduceMul, Int.reduceNeg, Int.reduceLE, Int.reduceLT, Int.reduceToNat, Int.reduceAdd, Int.reduceSub, Int.reduceMul, Int.reduceEq]
    · have hb : blankF f.fd = true := decide_eq_true (.inl ⟨kk0, n0⟩)
      have m0 : (f.n = 0) = False := eq_false n0
      simp (config := { maxSteps := 1000000 }) only [fb, fl, f0, f1, f2, f3, f36, f37, f38, ↓fdA_cbnd, ↓fdA_sbnd, ↓fdA_vbnd, ↓fdA_cont, ↓fdA_cren, ↓fdA_sren, ↓fdA_vren, fs, hfs, SlR.val, e0, e1, e2, e3, e4, m0, hb, undef, push_cast, ↓Int.toNat_natCast, ↓Int.cast_ofNat_Int, Int.cast_ofNat_Int, ↓reduceIte, reduceCtorEq, Nat.reduceEqDiff, Nat.reduceLT, Nat.reduceLeDiff, Nat.reduceAdd, Nat.reduceSub, Nat.reduceMul, Int.reduceNeg, Int.reduceLE, Int.reduceLT, Int.reduceToNat, Int.reduceAdd, Int.reduceSub, Int.reduceMul, Int.reduceEq]
  have k4 : ¬ f.k < 4 := by
    intro h
    have h1 := UInt8.lt_iff_toNat_lt.1 h
    have h2 : f.k.toNat < 4 := h1
    have e0 : f.k.toNat ≠ 0 := fun e => k0 (UInt8.toNat_inj.1 e)
    have e1 : f.k.toNat ≠ 1 := fun e => k1 (UInt8.toNat_inj.1 e)
    have e2 : f.k.toNat ≠ 2 := fun e => k2 (UInt8.toNat_inj.1 e)
    have e3 : f.k.toNat ≠ 3 := fun e => k3 (UInt8.toNat_inj.1 e)
    omega
  have kk0 := k0
  have kk1 := k1
  have kk2 := k2
  have kk3 := k3
  have e0 : (f.k = 0) = False := eq_false kk0
  have e1 : (f.k = 1) = False := eq_false kk1
  have e2 : (f.k = 2) = False := eq_false kk2
  have e3 : (f.k = 3) = False := eq_false kk3
  have e4 : (f.k < 4) = False := eq_false k4
  by_cases n0 : f.n = 0
  · skip
    have m0 : (f.n = 0) = True := eq_true n0
    by_cases n1 : (0 : Int) < f.l.l.length
    · have hb : blankF f.fd = true := decide_eq_true (.inr (.inl ⟨kk1, (by show 0 < f.l.l.length; omega)⟩))
      simp (config := { maxSteps := 1000000 }) only [fb, fl, f0, f1, f2, f3, f36, f37, f38, ↓fdA_cbnd, ↓fdA_sbnd, ↓fdA_vbnd, ↓fdA_cont, ↓fdA_cren, ↓fdA_sren, ↓fdA_vren, fs, hfs, SlR.val, e0, e1, e2, e3, e4, m0, n1, hb, undef, push_cast, ↓Int.toNat_natCast, ↓Int.cast_ofNat_Int, Int.cast_ofNat_Int, ↓reduceIte, reduceCtorEq, Nat.reduceEqDiff, Nat.reduceLT, Nat.reduceLeDiff, Nat.reduceAdd, Nat.reduceSub, Nat.reduceMul, Int.reduceNeg, Int.reduceLE, Int.reduceLT, Int.reduceToNat, Int.reduceAdd, Int.reduceSub, Int.reduceMul, Int.reduceEq]
    · skip
      by_cases n2 : (0 : Int) < f.b.l.length
      · have hb : blankF f.fd = true := decide_eq_true (.inr (.inr (.inl ⟨kk2, (by show 0 < f.b.l.length; omega)⟩)))
        simp (config := { maxSteps := 1000000 }) only [fb, fl, f0, f1, f2, f3, f36, f37, f38, ↓fdA_cbnd, ↓fdA_sbnd, ↓fdA_vbnd, ↓fdA_cont, ↓fdA_cren, ↓fdA_sren, ↓fdA_vren, fs, hfs, SlR.val, e0, e1, e2, e3, e4, m0, n1, n2, hb, undef, push_cast, ↓Int.toNat_natCast, ↓Int.cast_ofNat_Int, Int.cast_ofNat_Int, ↓reduceIte, reduceCtorEq, Nat.reduceEqDiff, Nat.reduceLT, Nat.reduceLeDiff, Nat.reduceAdd, Nat.reduceSub, Nat.reduceMul, Int.reduceNeg, Int.reduceLE, Int.reduceLT, Int.reduceToNat, Int.reduceAdd, Int.reduceSub, Int.reduceMul, Int.reduceEq]
      · skip
        by_cases n3 : f.s = List.replicate 32 0
        · skip
          have m3 : (f.s = List.replicate 32 0) = True := eq_true n3
          have hb : blankF f.fd = false := decide_eq_false (by show ¬ (f.k ≠ 0 ∧ f.n ≠ 0 ∨ f.k ≠ 1 ∧ 0 < f.l.l.length ∨ f.k ≠ 2 ∧ 0 < f.b.l.length ∨ f.k ≠ 3 ∧ f.s ≠ List.replicate 32 0 ∨ f.k < 4 ∧ 0 < f.x.l.length); exact not5 (fun h => h.2 n0) (fun h => n1 (by have := h.2; omega)) (fun h => n2 (by have := h.2; omega)) (fun h => h.2 n3) (fun h => k4 h.1))
          simp (config := { maxSteps := 1000000 }) only [fb, fl, f0, f1, f2, f3, f36, f37, f38, ↓fdA_cbnd, ↓fdA_sbnd, ↓fdA_vbnd, ↓fdA_cont, ↓fdA_cren, ↓fdA_sren, ↓fdA_vren, fs, hfs, SlR.val, e0, e1, e2, e3, e4, m0, n1, n2, m3, hb, undef, push_cast, ↓Int.toNat_natCast, ↓Int.cast_ofNat_Int, Int.cast_ofNat_Int, ↓reduceIte, reduceCtorEq, Nat.reduceEqDiff, Nat.reduceLT, Nat.reduceLeDiff, Nat.reduceAdd, Nat.reduceSub, Nat.reduceMul, Int.reduceNeg, Int.reduceLE, Int.reduceLT, Int.reduceToNat, Int.reduceAdd, Int.reduceSub, Int.reduceMul, Int.reduceEq]
        · have hb : blankF f.fd = true := decide_eq_true (.inr (.inr (.inr (.inl ⟨kk3, n3⟩))))
          have m3 : (f.s = List.replicate 32 0) = False := eq_false n3
          simp (config := { maxSteps := 1000000 }) only [fb, fl, f0, f1, f2, f3, f36, f37, f38, ↓fdA_cbnd, ↓fdA_sbnd, ↓fdA_vbnd, ↓fdA_cont, ↓fdA_cren, ↓fdA_sren, ↓fdA_vren, fs, hfs, SlR.val, e0, e1, e2, e3, e4, m0, n1, n2, m3, hb, undef, push_cast, ↓Int.toNat_natCast, ↓Int.cast_ofNat_Int, Int.cast_ofNat_Int, ↓reduceIte, reduceCtorEq, Nat.reduceEqDiff, Nat.reduceLT, Nat.reduceLeDiff, Nat.reduceAdd, Nat.reduceSub, Nat.reduceMul, Int.reduceNeg, Int.reduceLE, Int.reduceLT, Int.reduceToNat, Int.reduceAdd, Int.reduceSub, Int.reduceMul, Int.reduceEq]
  · have hb : blankF f.fd = true := decide_eq_true (.inl ⟨kk0, n0⟩)
    have m0 : (f.n = 0) = False := eq_false n0
    simp (config := { maxSteps := 1000000 }) only [fb, fl, f0, f1, f2, f3, f36, f37, f38, ↓fdA_cbnd, ↓fdA_sbnd, ↓fdA_vbnd, ↓fdA_cont, ↓fdA_cren, ↓fdA_sren, ↓fdA_vren, fs, hfs, SlR.val, e0, e1, e2, e3, e4, m0, hb, undef, push_cast, ↓Int.toNat_natCast, ↓Int.cast_ofNat_Int, Int.cast_ofNat_Int, ↓reduceIte, reduceCtorEq, Nat.reduceEqDiff, Nat.reduceLT, Nat.reduceLeDiff, Nat.reduceAdd, Nat.reduceSub, Nat.reduceMul, Int.reduceNeg, Int.reduceLE, Int.reduceLT, Int.reduceToNat, Int.reduceAdd, Int.reduceSub, Int.reduceMul, Int.reduceEq]
end Go.Proofs.YtiaeollemmkclaaDoor
