import Derived.Test.YtiaeollemmkclaaDoorSc0
import Derived.Test.YtiaeollemmkclaaDoorLfG
import Derived.Test.YtiaeollemmkclaaDoorHnd
import Derived.Test.YtiaeollemmkclaaDoorLib
/- Layer 40 walked: digit, form, Int, Bytes. -/
namespace Go.Proofs.YtiaeollemmkclaaDoor
open Go.RowKit
set_option linter.unusedSimpArgs false
set_option linter.unusedVariables false
theorem ss_eq (s t : ByteArray) : (s.toList == t.toList) = decide (s = t) := by
  rw [ByteArray.toList_eq, ByteArray.toList_eq]
  by_cases h : s = t
  · rw [h, decide_eq_true rfl, beq_self_eq_true]
  · rw [decide_eq_false h, beq_eq_false_iff_ne]
    intro e
    exact h (by rw [← sb_of s, ← sb_of t, e])
theorem ss_no {s t : ByteArray} (h : ¬ s = t) : (s.toList == t.toList) = false := (ss_eq s t).trans (decide_eq_false h)
theorem ss_yes {s t : ByteArray} (h : s = t) : (s.toList == t.toList) = true := (ss_eq s t).trans (decide_eq_true h)
attribute [local irreducible] Callable CallOK CallG CallM DrawG LoopG symR symM
set_option maxRecDepth 100000 in
theorem digit_any (c : UInt8) (w : World) : Calls Tryd.prog 139 #[vU8 c] w fun e w' => e = .returned (.int .i64 (digitF c)) ∧ Below w.heap.size w w' := by
  refine calls_v (n := 24) Tryd.func139 rfl Tryd.ntmps139 [.x (.a (.v (vU8 c)))] (by simp) (.x (.a (.v (.int .i64 (digitF c))))) (fun _ => rfl) ?_
  have e1 : (48 ≤ c) = (48 ≤ c.toNat) := propext UInt8.le_iff_toNat_le
  have e2 : (c ≤ 57) = (c.toNat ≤ 57) := propext UInt8.le_iff_toNat_le
  have e3 : (97 ≤ c) = (97 ≤ c.toNat) := propext UInt8.le_iff_toNat_le
  have e4 : (c ≤ 102) = (c.toNat ≤ 102) := propext UInt8.le_iff_toNat_le
  have n1 : 48 ≤ c.toNat → n8 (c - 48) = (c.toNat : Int) - 48 := fun h => by
    show (((c - 48).toNat : Nat) : Int) = _
    rw [UInt8.toNat_sub_of_le _ _ (show (48 : UInt8) ≤ c from UInt8.le_iff_toNat_le.2 h)]
    show ((c.toNat - 48 : Nat) : Int) = _
    omega
  have n2 : 97 ≤ c.toNat → n8 (c - 97) = (c.toNat : Int) - 97 := fun h => by
    show (((c - 97).toNat : Nat) : Int) = _
    rw [UInt8.toNat_sub_of_le _ _ (show (97 : UInt8) ≤ c from UInt8.le_iff_toNat_le.2 h)]
    show ((c.toNat - 97 : Nat) : Int) = _
    omega
  by_cases h1 : 48 ≤ c.toNat
  · by_cases h2 : c.toNat ≤ 57
    · have hd : digitF c = (c.toNat : Int) - 48 := by unfold digitF; rw [if_pos ⟨h1, h2⟩]
      simp (config := { maxSteps := 1000000 }) only [e1, e2, h1, h2, push_cast, ↓reduceIte, reduceCtorEq, Nat.reduceEqDiff, Nat.reduceLT, Int.reduceNeg]
      rw [hd]
      exact n1 h1
    · by_cases h3 : 97 ≤ c.toNat
      · by_cases h4 : c.toNat ≤ 102
        · have hd : digitF c = (c.toNat : Int) - 97 + 10 := by unfold digitF; rw [if_neg fun h => h2 h.2, if_pos ⟨h3, h4⟩]
          simp (config := { maxSteps := 1000000 }) only [e1, e2, e3, e4, h1, h2, h3, h4, push_cast, ↓reduceIte, reduceCtorEq, Nat.reduceEqDiff, Nat.reduceLT, Int.reduceNeg]
          rw [hd]
          have := n2 h3
          omega
        · have hd : digitF c = -1 := by unfold digitF; rw [if_neg fun h => h2 h.2, if_neg fun h => h4 h.2]
          simp (config := { maxSteps := 1000000 }) only [e1, e2, e3, e4, h1, h2, h3, h4, hd, push_cast, ↓reduceIte, reduceCtorEq, Nat.reduceEqDiff, Nat.reduceLT, Int.reduceNeg]
          done
      · have hd : digitF c = -1 := by unfold digitF; rw [if_neg fun h => h2 h.2, if_neg fun h => h3 h.1]
        simp (config := { maxSteps := 1000000 }) only [e1, e2, e3, h1, h2, h3, hd, undef, push_cast, ↓reduceIte, reduceCtorEq, Nat.reduceEqDiff, Nat.reduceLT, Int.reduceNeg]
        done
  · have h3 : ¬ 97 ≤ c.toNat := by omega
    have hd : digitF c = -1 := by unfold digitF; rw [if_neg fun h => h1 h.1, if_neg fun h => h3 h.1]
    simp (config := { maxSteps := 1000000 }) only [e1, e3, h1, h3, hd, undef, push_cast, ↓reduceIte, reduceCtorEq, Nat.reduceEqDiff, Nat.reduceLT, Int.reduceNeg]
    done
set_option maxRecDepth 100000 in
set_option maxHeartbeats 4000000 in
theorem cmForm_any (s : ByteArray) (w : World) : Calls Tryd.prog 108 #[.string s] w fun e w' => e = .returned (.tuple #[.string (sb ((formF s).getD [])), .bool (formF s).isSome]) ∧ Below w.heap.size w w' := by
  refine calls_v (n := 33) Tryd.func108 rfl Tryd.ntmps108 [.x (.a (.v (.string s)))] (by simp) (.t [.a (.v (.string (sb ((formF s).getD [])))), .a (.v (.bool (formF s).isSome))]) (fun _ => rfl) ?_
  obtain ⟨F, hF⟩ : ∃ F, F = formF s := ⟨_, rfl⟩
  rw [← hF]
  by_cases h0 : s = ⟨#[115, 116, 97, 114, 116]⟩
  · have hf : F = some [] := by rw [hF, h0]; decide
    have q0 := ss_yes h0
    have hg : sb ((F).getD []) = ⟨#[]⟩ := by rw [hf]; rfl
    have hs : F.isSome = true := by rw [hf]; rfl
    simp (config := { maxSteps := 1000000 }) only [q0, hg, hs, push_cast, ↓reduceIte, reduceCtorEq, Nat.reduceEqDiff, Nat.reduceLT]
    done
  have q0 := ss_no h0
  by_cases h1 : s = ⟨#[116, 101, 120, 116]⟩
  · have hf : F = some [] := by rw [hF, h1]; decide
    have q1 := ss_yes h1
    have hg : sb ((F).getD []) = ⟨#[]⟩ := by rw [hf]; rfl
    have hs : F.isSome = true := by rw [hf]; rfl
    simp (config := { maxSteps := 1000000 }) only [q0, q1, hg, hs, push_cast, ↓reduceIte, reduceCtorEq, Nat.reduceEqDiff, Nat.reduceLT]
    done
  have q1 := ss_no h1
  by_cases h2 : s = ⟨#[115, 117, 109]⟩
  · have hf : F = some [] := by rw [hF, h2]; decide
    have q2 := ss_yes h2
    have hg : sb ((F).getD []) = ⟨#[]⟩ := by rw [hf]; rfl
    have hs : F.isSome = true := by rw [hf]; rfl
    simp (config := { maxSteps := 1000000 }) only [q0, q1, q2, hg, hs, push_cast, ↓reduceIte, reduceCtorEq, Nat.reduceEqDiff, Nat.reduceLT]
    done
  have q2 := ss_no h2
  by_cases h3 : s = ⟨#[99, 104, 101, 99, 107]⟩
  · have hf : F = some [] := by rw [hF, h3]; decide
    have q3 := ss_yes h3
    have hg : sb ((F).getD []) = ⟨#[]⟩ := by rw [hf]; rfl
    have hs : F.isSome = true := by rw [hf]; rfl
    simp (config := { maxSteps := 1000000 }) only [q0, q1, q2, q3, hg, hs, push_cast, ↓reduceIte, reduceCtorEq, Nat.reduceEqDiff, Nat.reduceLT]
    done
  have q3 := ss_no h3
  by_cases h4 : s = ⟨#[100, 105, 109]⟩
  · have hf : F = some [105] := by rw [hF, h4]; decide
    have q4 := ss_yes h4
    have hg : sb ((F).getD []) = ⟨#[105]⟩ := by rw [hf]; rfl
    have hs : F.isSome = true := by rw [hf]; rfl
    simp (config := { maxSteps := 1000000 }) only [q0, q1, q2, q3, q4, hg, hs, push_cast, ↓reduceIte, reduceCtorEq, Nat.reduceEqDiff, Nat.reduceLT]
    done
  have q4 := ss_no h4
  by_cases h5 : s = ⟨#[108, 101, 97, 115, 116]⟩
  · have hf : F = some [105] := by rw [hF, h5]; decide
    have q5 := ss_yes h5
    have hg : sb ((F).getD []) = ⟨#[105]⟩ := by rw [hf]; rfl
    have hs : F.isSome = true := by rw [hf]; rfl
    simp (config := { maxSteps := 1000000 }) only [q0, q1, q2, q3, q4, q5, hg, hs, push_cast, ↓reduceIte, reduceCtorEq, Nat.reduceEqDiff, Nat.reduceLT]
    done
  have q5 := ss_no h5
  by_cases h6 : s = ⟨#[116, 101, 114, 109]⟩
  · have hf : F = some [105] := by rw [hF, h6]; decide
    have q6 := ss_yes h6
    have hg : sb ((F).getD []) = ⟨#[105]⟩ := by rw [hf]; rfl
    have hs : F.isSome = true := by rw [hf]; rfl
    simp (config := { maxSteps := 1000000 }) only [q0, q1, q2, q3, q4, q5, q6, hg, hs, push_cast, ↓reduceIte, reduceCtorEq, Nat.reduceEqDiff, Nat.reduceLT]
    done
  have q6 := ss_no h6
  by_cases h7 : s = ⟨#[114, 111, 111, 116]⟩
  · have hf : F = some [105] := by rw [hF, h7]; decide
    have q7 := ss_yes h7
    have hg : sb ((F).getD []) = ⟨#[105]⟩ := by rw [hf]; rfl
    have hs : F.isSome = true := by rw [hf]; rfl
    simp (config := { maxSteps := 1000000 }) only [q0, q1, q2, q3, q4, q5, q6, q7, hg, hs, push_cast, ↓reduceIte, reduceCtorEq, Nat.reduceEqDiff, Nat.reduceLT]
    done
  have q7 := ss_no h7
  by_cases h8 : s = ⟨#[115, 101, 101, 100]⟩
  · have hf : F = some [105] := by rw [hF, h8]; decide
    have q8 := ss_yes h8
    have hg : sb ((F).getD []) = ⟨#[105]⟩ := by rw [hf]; rfl
    have hs : F.isSome = true := by rw [hf]; rfl
    simp (config := { maxSteps := 1000000 }) only [q0, q1, q2, q3, q4, q5, q6, q7, q8, hg, hs, push_cast, ↓reduceIte, reduceCtorEq, Nat.reduceEqDiff, Nat.reduceLT]
    done
  have q8 := ss_no h8
  by_cases h9 : s = ⟨#[100, 101, 108, 105, 118, 101, 114]⟩
  · have hf : F = some [105] := by rw [hF, h9]; decide
    have q9 := ss_yes h9
    have hg : sb ((F).getD []) = ⟨#[105]⟩ := by rw [hf]; rfl
    have hs : F.isSome = true := by rw [hf]; rfl
    simp (config := { maxSteps := 1000000 }) only [q0, q1, q2, q3, q4, q5, q6, q7, q8, q9, hg, hs, push_cast, ↓reduceIte, reduceCtorEq, Nat.reduceEqDiff, Nat.reduceLT]
    done
  have q9 := ss_no h9
  by_cases h10 : s = ⟨#[108, 111, 115, 101]⟩
  · have hf : F = some [105] := by rw [hF, h10]; decide
    have q10 := ss_yes h10
    have hg : sb ((F).getD []) = ⟨#[105]⟩ := by rw [hf]; rfl
    have hs : F.isSome = true := by rw [hf]; rfl
    simp (config := { maxSteps := 1000000 }) only [q0, q1, q2, q3, q4, q5, q6, q7, q8, q9, q10, hg, hs, push_cast, ↓reduceIte, reduceCtorEq, Nat.reduceEqDiff, Nat.reduceLT]
    done
  have q10 := ss_no h10
  by_cases h11 : s = ⟨#[100, 111, 117, 98, 108, 101]⟩
  · have hf : F = some [105] := by rw [hF, h11]; decide
    have q11 := ss_yes h11
    have hg : sb ((F).getD []) = ⟨#[105]⟩ := by rw [hf]; rfl
    have hs : F.isSome = true := by rw [hf]; rfl
    simp (config := { maxSteps := 1000000 }) only [q0, q1, q2, q3, q4, q5, q6, q7, q8, q9, q10, q11, hg, hs, push_cast, ↓reduceIte, reduceCtorEq, Nat.reduceEqDiff, Nat.reduceLT]
    done
  have q11 := ss_no h11
  by_cases h12 : s = ⟨#[116, 105, 99, 107]⟩
  · have hf : F = some [105] := by rw [hF, h12]; decide
    have q12 := ss_yes h12
    have hg : sb ((F).getD []) = ⟨#[105]⟩ := by rw [hf]; rfl
    have hs : F.isSome = true := by rw [hf]; rfl
    simp (config := { maxSteps := 1000000 }) only [q0, q1, q2, q3, q4, q5, q6, q7, q8, q9, q10, q11, q12, hg, hs, push_cast, ↓reduceIte, reduceCtorEq, Nat.reduceEqDiff, Nat.reduceLT]
    done
  have q12 := ss_no h12
  by_cases h13 : s = ⟨#[99, 114, 97, 115, 104]⟩
  · have hf : F = some [105] := by rw [hF, h13]; decide
    have q13 := ss_yes h13
    have hg : sb ((F).getD []) = ⟨#[105]⟩ := by rw [hf]; rfl
    have hs : F.isSome = true := by rw [hf]; rfl
    simp (config := { maxSteps := 1000000 }) only [q0, q1, q2, q3, q4, q5, q6, q7, q8, q9, q10, q11, q12, q13, hg, hs, push_cast, ↓reduceIte, reduceCtorEq, Nat.reduceEqDiff, Nat.reduceLT]
    done
  have q13 := ss_no h13
  by_cases h14 : s = ⟨#[115, 119, 101, 101, 112]⟩
  · have hf : F = some [105] := by rw [hF, h14]; decide
    have q14 := ss_yes h14
    have hg : sb ((F).getD []) = ⟨#[105]⟩ := by rw [hf]; rfl
    have hs : F.isSome = true := by rw [hf]; rfl
    simp (config := { maxSteps := 1000000 }) only [q0, q1, q2, q3, q4, q5, q6, q7, q8, q9, q10, q11, q12, q13, q14, hg, hs, push_cast, ↓reduceIte, reduceCtorEq, Nat.reduceEqDiff, Nat.reduceLT]
    done
  have q14 := ss_no h14
  by_cases h15 : s = ⟨#[112, 108, 97, 99, 101]⟩
  · have hf : F = some [105, 105, 105] := by rw [hF, h15]; decide
    have q15 := ss_yes h15
    have hg : sb ((F).getD []) = ⟨#[105, 105, 105]⟩ := by rw [hf]; rfl
    have hs : F.isSome = true := by rw [hf]; rfl
    simp (config := { maxSteps := 1000000 }) only [q0, q1, q2, q3, q4, q5, q6, q7, q8, q9, q10, q11, q12, q13, q14, q15, hg, hs, push_cast, ↓reduceIte, reduceCtorEq, Nat.reduceEqDiff, Nat.reduceLT]
    done
  have q15 := ss_no h15
  by_cases h16 : s = ⟨#[111, 117, 116]⟩
  · have hf : F = some [105, 105, 105] := by rw [hF, h16]; decide
    have q16 := ss_yes h16
    have hg : sb ((F).getD []) = ⟨#[105, 105, 105]⟩ := by rw [hf]; rfl
    have hs : F.isSome = true := by rw [hf]; rfl
    simp (config := { maxSteps := 1000000 }) only [q0, q1, q2, q3, q4, q5, q6, q7, q8, q9, q10, q11, q12, q13, q14, q15, q16, hg, hs, push_cast, ↓reduceIte, reduceCtorEq, Nat.reduceEqDiff, Nat.reduceLT]
    done
  have q16 := ss_no h16
  by_cases h17 : s = ⟨#[103, 114, 111, 117, 112]⟩
  · have hf : F = some [105, 105, 42] := by rw [hF, h17]; decide
    have q17 := ss_yes h17
    have hg : sb ((F).getD []) = ⟨#[105, 105, 42]⟩ := by rw [hf]; rfl
    have hs : F.isSome = true := by rw [hf]; rfl
    simp (config := { maxSteps := 1000000 }) only [q0, q1, q2, q3, q4, q5, q6, q7, q8, q9, q10, q11, q12, q13, q14, q15, q16, q17, hg, hs, push_cast, ↓reduceIte, reduceCtorEq, Nat.reduceEqDiff, Nat.reduceLT]
    done
  have q17 := ss_no h17
  by_cases h18 : s = ⟨#[114, 111, 119]⟩
  · have hf : F = some [105, 42] := by rw [hF, h18]; decide
    have q18 := ss_yes h18
    have hg : sb ((F).getD []) = ⟨#[105, 42]⟩ := by rw [hf]; rfl
    have hs : F.isSome = true := by rw [hf]; rfl
    simp (config := { maxSteps := 1000000 }) only [q0, q1, q2, q3, q4, q5, q6, q7, q8, q9, q10, q11, q12, q13, q14, q15, q16, q17, q18, hg, hs, push_cast, ↓reduceIte, reduceCtorEq, Nat.reduceEqDiff, Nat.reduceLT]
    done
  have q18 := ss_no h18
  by_cases h19 : s = ⟨#[105, 110, 106, 101, 99, 116]⟩
  · have hf : F = some [105, 120] := by rw [hF, h19]; decide
    have q19 := ss_yes h19
    have hg : sb ((F).getD []) = ⟨#[105, 120]⟩ := by rw [hf]; rfl
    have hs : F.isSome = true := by rw [hf]; rfl
    simp (config := { maxSteps := 1000000 }) only [q0, q1, q2, q3, q4, q5, q6, q7, q8, q9, q10, q11, q12, q13, q14, q15, q16, q17, q18, q19, hg, hs, push_cast, ↓reduceIte, reduceCtorEq, Nat.reduceEqDiff, Nat.reduceLT]
    done
  have q19 := ss_no h19
  by_cases h20 : s = ⟨#[101, 110, 111, 117, 103, 104]⟩
  · have hf : F = some [42] := by rw [hF, h20]; decide
    have q20 := ss_yes h20
    have hg : sb ((F).getD []) = ⟨#[42]⟩ := by rw [hf]; rfl
    have hs : F.isSome = true := by rw [hf]; rfl
    simp (config := { maxSteps := 1000000 }) only [q0, q1, q2, q3, q4, q5, q6, q7, q8, q9, q10, q11, q12, q13, q14, q15, q16, q17, q18, q19, q20, hg, hs, push_cast, ↓reduceIte, reduceCtorEq, Nat.reduceEqDiff, Nat.reduceLT]
    done
  have q20 := ss_no h20
  have hf : F = none := by
    rw [hF]
    unfold formF inW wStart wDim wPlace
    simp only [List.any_cons, List.any_nil, h0, h1, h2, h3, h4, h5, h6, h7, h8, h9, h10, h11, h12, h13, h14, h15, h16, h17, h18, h19, h20, decide_false, Bool.or_false, Bool.false_eq_true, if_false]
  have hg : sb ((F).getD []) = ⟨#[]⟩ := by rw [hf]; rfl
  have hs : F.isSome = false := by rw [hf]; rfl
  simp (config := { maxSteps := 1000000 }) only [q0, q1, q2, q3, q4, q5, q6, q7, q8, q9, q10, q11, q12, q13, q14, q15, q16, q17, q18, q19, q20, hg, hs, push_cast, ↓reduceIte, reduceCtorEq, Nat.reduceEqDiff, Nat.reduceLT]
  done
section
variable {P : Program} {w0 : World} {ow : Nat → Prop} {n : Nat}
/-- A call that lays nothing that is looked at, and whose result is one of several. -/
theorem callG_b {ι : Type} (Q : ι → Prop) (sv : ι → Sv) {ops : List Oper} {o : Oper} {rest : List Oper} {f : FuncId} {xs : List Operand} {tys : Array TypeId} {s : S} {svs : List Sv} {K : S → Prop} (ho : o.op = .call { callee := .value (.func f), args := xs.toArray, argTypes := tys })
    (hcb : Callable P f) (hev : evs s.fr xs = some svs) (hc : ∀ γ w, Sat w0 ow γ s.hp w → Calls P f (svs.map (Sv.val γ)).toArray w fun e w' => ∃ i, Q i ∧ e = .returned ((sv i).val []) ∧ Below w.heap.size w w') (hsv : ∀ i γ, (sv i).val γ = (sv i).val []) (hd : dOk n o.dst) (hb : s.bnd)
    (h : ∀ i, Q i → symR P w0 ow n ops rest (S.put ⟨s.fr, s.hp⟩ o.dst (sv i)) K) : CallG P w0 ow n ops o rest s K :=
  callG_ex Q sv (fun _ => s.hp) ho hcb hev (fun γ w hS => (hc γ w hS).mono fun e w' ⟨i, h1, h2, h3⟩ => ⟨i, [], h1, by rw [h2, hsv i (γ ++ [])], by rw [List.append_nil]; exact hS.later h3⟩) hd hb h
end
/-- The variables of the library that are looked at. -/
structure Vars (w : World) : Prop where
  er : ∃ ev, w.cell? ⟨2, 0, none⟩ = some ev ∧ (ev = .nilIface ∨ ∃ te pe, ev = .iface te pe)
  ml : ∃ m : Int, w.cell? ⟨3, 0, none⟩ = some (.int .i64 m)
theorem cell_later {w w' : World} {g : Nat} {v : Value} (h : w.cell? ⟨g, 0, none⟩ = some v) (hb : Below w.heap.size w w') : w'.cell? ⟨g, 0, none⟩ = some v := (hb.cell (p := ⟨g, 0, none⟩) (block_lt_of_cell h)).trans h
theorem Vars.later {w w' : World} (h : Vars w) (hb : Below w.heap.size w w') : Vars w' := by
  obtain ⟨ev, h1, h2⟩ := h.er
  obtain ⟨m, h3⟩ := h.ml
  exact ⟨⟨ev, cell_later h1 hb, h2⟩, ⟨m, cell_later h3 hb⟩⟩
theorem Vars.sat {w0 : World} {hp : List Res} {γ : List Nm} {w : World} (h : Vars w0) (hS : Sat w0 No γ hp w) : Vars w := h.later (keeps_below hS.keeps)
theorem parse_dig : ∀ (l : List UInt8) (M acc : Nat), l.all digF = true → (∃ u, Lib.parseUintM M acc l = .ok u) ∨ Lib.parseUintM M acc l = .range
  | [], M, acc, _ => .inl ⟨acc, by rw [Lib.parseUintM]⟩
  | c :: r, M, acc, h => by
    rw [List.all_cons, Bool.and_eq_true] at h
    have hc : 48 ≤ c.toNat ∧ c.toNat ≤ 57 := of_decide_eq_true h.1
    rw [Lib.parseUintM, if_pos hc]
    split
    · exact .inr rfl
    · split
      · exact .inr rfl
      · exact parse_dig r M _ h.2
theorem parse_le : ∀ (l : List UInt8) (M acc u : Nat), acc ≤ M → Lib.parseUintM M acc l = .ok u → u ≤ M
  | [], M, acc, u, h, e => by rw [Lib.parseUintM] at e; cases e; exact h
  | c :: r, M, acc, u, h, e => by
    rw [Lib.parseUintM] at e
    split at e
    · split at e
      · cases e
      · split at e
        · cases e
        · exact parse_le r M _ u (by omega) e
    · cases e
set_option maxRecDepth 100000 in
theorem cmInt_any (s : ByteArray) (w : World) (hsz : s.size ≤ 1000000) (hv : Vars w) : Calls Tryd.prog 101 #[.string s] w fun e w' => e = .returned (.tuple #[.int .i64 (((intF s.data.toList).getD 0 : Nat) : Int), erV (if (intF s.data.toList).isSome then 0 else 3)]) ∧ Below w.heap.size w w' := by
  refine calls_v (n := 51) Tryd.func101 rfl Tryd.ntmps101 [.x (.a (.v (.string s)))] (by simp) (.t [.a (.v (.int .i64 (((intF s.data.toList).getD 0 : Nat) : Int))), .a (.v (erV (if (intF s.data.toList).isSome then 0 else 3)))]) (fun _ => rfl) ?_
  obtain ⟨F, hF⟩ : ∃ F, F = intF s.data.toList := ⟨_, rfl⟩
  rw [← hF]
  have hsd := size_data s
  have ev : erV 3 = .iface 137 (.int .i64 3) := erV_ne (by decide)
  have none_ : F = none → ((F.getD 0 : Nat) : Int) = 0 ∧ erV (if F.isSome = true then 0 else 3) = .iface 137 (.int .i64 3) := fun h => by rw [h]; exact ⟨rfl, ev⟩
  have sat : ∀ i c, s.data.toList[i]? = some c → sAt s i = c := fun i c h => by
    unfold sAt ix
    rw [List.getD_eq_getElem?_getD, h]
    rfl
  by_cases h0 : s = ⟨#[]⟩
  · obtain ⟨n1, n2⟩ := none_ (by rw [hF, h0]; rfl)
    have q0 := ss_yes h0
    simp (config := { maxSteps := 1000000 }) only [q0, n1, n2, undef, push_cast, ↓reduceIte, reduceCtorEq, Nat.reduceEqDiff, Nat.reduceLT]
    done
  have q0 := ss_no h0
  have hne : s.data.toList ≠ [] := fun e => h0 (by rw [← sb_of s, e]; rfl)
  have h1p : (0 : Int) < s.size := by
    have : 0 < s.data.toList.length := List.length_pos_iff.2 hne
    omega
  by_cases hz : (1 : Int) < s.size ∧ sAt s 0 = 48
  · obtain ⟨z1, z2⟩ := hz
    have hh : s.data.toList.head? = some 48 := by
      cases hl : s.data.toList with
      | nil => exact absurd hl hne
      | cons c r =>
        have := sat 0 c (by rw [hl]; rfl)
        rw [← z2, this]
        rfl
    obtain ⟨n1, n2⟩ := none_ (by rw [hF]; unfold intF; rw [if_pos (.inr ⟨by omega, hh⟩)])
    simp (config := { maxSteps := 1000000 }) only [q0, z1, z2, h1p, n1, n2, push_cast, ↓reduceIte, reduceCtorEq, Nat.reduceEqDiff, Nat.reduceLT, Int.reduceLE]
    done
  have hcase : (s.data.toList = [] ∨ (1 < s.data.toList.length ∧ s.data.toList.head? = some 48)) = False := eq_false fun h => by
    rcases h with h | ⟨h, h2⟩
    · exact hne h
    · refine hz ⟨by omega, ?_⟩
      cases hl : s.data.toList with
      | nil => exact absurd hl hne
      | cons c r =>
        rw [hl] at h2
        have := sat 0 c (by rw [hl]; rfl)
        rw [this]
        exact Option.some.inj h2
  have htest : ((s.toList == ({ data := #[] } : ByteArray).toList) = true ∨ ((1 : Int) < s.size ∧ sAt s 0 = 48)) = False := eq_false fun h => h.elim (fun h => by rw [q0] at h; cases h) hz
  have go : ∀ {G : Prop}, ((1 : Int) < s.size → ¬ sAt s 0 = 48 → G) → (¬ (1 : Int) < s.size → G) → G := fun a b => by
    by_cases h : (1 : Int) < s.size
    · exact a h fun e => hz ⟨h, e⟩
    · exact b h
  have loop : ∀ {G : Prop}, G → G := fun h => h
  apply joinL (P := Tryd.prog) (w0 := w) (ow := No) (n := 51) (X := Unit) (fun _ => True) (fun _ => ⟨[(0, .x (.a (.v (.string s)))), (21, .x (.a (.v (.int .i64 s.size)))), (22, .x (.a (.v (.int .i64 0))))], []⟩)
  · intro next
    by_cases h1 : (1 : Int) < s.size
    · have z : ¬ sAt s 0 = 48 := fun e => hz ⟨h1, e⟩
      simp (config := { maxSteps := 1000000 }) only [q0, h1, z, h1p, push_cast, ↓reduceIte, reduceCtorEq, Nat.reduceEqDiff, Nat.reduceLT, Int.reduceLE]
      refine loop_leads (leads_le [] ?_) (next () trivial)
      simp (config := { maxSteps := 1000000 }) only [push_cast, ↓reduceIte, reduceCtorEq, Nat.reduceEqDiff]
    · simp (config := { maxSteps := 1000000 }) only [q0, h1, undef, push_cast, ↓reduceIte, reduceCtorEq, Nat.reduceEqDiff, Nat.reduceLT]
      refine loop_leads (leads_le [] ?_) (next () trivial)
      simp (config := { maxSteps := 1000000 }) only [push_cast, ↓reduceIte, reduceCtorEq, Nat.reduceEqDiff]
  intro _ _
  refine loop_rule (ι := Nat) (fun i => ⟨[(0, .x (.a (.v (.string s)))), (21, .x (.a (.v (.int .i64 s.size)))), (22, .x (.a (.v (.int .i64 (i : Nat)))))], []⟩) (fun i => i ≤ s.size ∧ (s.data.toList.take i).all digF = true) (fun i => s.size - i) 0 [] ⟨Nat.zero_le _, rfl⟩ ?_ ?_
  · simp (config := { maxSteps := 1000000 }) only [push_cast, ↓Int.cast_ofNat_Int, Int.cast_ofNat_Int, ↓reduceIte, reduceCtorEq, Nat.reduceEqDiff]
  rintro i ⟨hi, hd⟩
  by_cases hlt : (i : Int) < s.size
  · have hil : i < s.data.toList.length := by omega
    have i0 : (0 : Int) ≤ i := by omega
    have nx : (i : Int) + 1 ≤ 9223372036854775807 := by omega
    have nx0 : -9223372036854775808 ≤ (i : Int) + 1 := by omega
    have hc := sat i _ (List.getElem?_eq_getElem hil)
    obtain ⟨c, ec⟩ : ∃ c, c = s.data.toList[i] := ⟨_, rfl⟩
    rw [← ec] at hc
    have e1 : (c < 48) = (c.toNat < 48) := propext UInt8.lt_iff_toNat_lt
    have e2 : (57 < c) = (57 < c.toNat) := propext UInt8.lt_iff_toNat_lt
    have htk : s.data.toList.take (i + 1) = s.data.toList.take i ++ [c] := by rw [List.take_add_one, List.getElem?_eq_getElem hil, ec]; rfl
    have bad : digF c = false → F = none := fun h => by
      rw [hF]
      unfold intF
      rw [if_neg (of_eq_false hcase), if_pos]
      rw [← Bool.not_eq_true, List.all_eq_true]
      intro ha
      have := ha c (by rw [ec]; exact List.getElem_mem hil)
      rw [h] at this
      cases this
    by_cases l1 : c.toNat < 48
    · obtain ⟨n1, n2⟩ := none_ (bad (decide_eq_false fun h => by omega))
      simp (config := { maxSteps := 1000000 }) only [hlt, i0, hc, e1, l1, n1, n2, undef, push_cast, ↓Int.toNat_natCast, ↓reduceIte, reduceCtorEq, Nat.reduceEqDiff, Nat.reduceLT]
      done
    by_cases l2 : 57 < c.toNat
    · obtain ⟨n1, n2⟩ := none_ (bad (decide_eq_false fun h => by omega))
      simp (config := { maxSteps := 1000000 }) only [hlt, i0, hc, e1, e2, l1, l2, n1, n2, push_cast, ↓Int.toNat_natCast, ↓reduceIte, reduceCtorEq, Nat.reduceEqDiff, Nat.reduceLT]
      done
    simp (config := { maxSteps := 1000000 }) only [hlt, i0, hc, e1, e2, l1, l2, nx, nx0, push_cast, ↓Int.toNat_natCast, ↓reduceIte, reduceCtorEq, Nat.reduceEqDiff, Nat.reduceLT, Int.reduceNeg]
    refine loopK_normal (i + 1) [] ⟨by omega, by rw [htk, List.all_append, hd]; unfold digF; simp; omega⟩ (by omega) ?_
    simp (config := { maxSteps := 1000000 }) only [push_cast, ↓reduceIte, reduceCtorEq, Nat.reduceEqDiff]
  · obtain rfl : i = s.size := by omega
    have hall : s.data.toList.all digF = true := by rwa [hsd, List.take_length] at hd
    have hint : F = match Lib.parseUintB 64 s.data.toList with | .ok u => if u ≤ 4611686018427387904 then some u else none | _ => none := by
      rw [hF]
      unfold intF
      rw [if_neg (of_eq_false hcase), if_neg (by rw [hall]; decide)]
      rfl
    simp (config := { maxSteps := 1000000 }) only [hlt, push_cast, ↓reduceIte, reduceCtorEq, Nat.reduceEqDiff, Nat.reduceLT]
    (repeat (refine And.intro (by first | omega | decide) ?_))
    have hdg : (∃ u, Lib.parseUintB 64 s.data.toList = .ok u) ∨ Lib.parseUintB 64 s.data.toList = .range := by
      unfold Lib.parseUintB
      rw [if_neg hne]
      exact parse_dig _ _ _ hall
    rcases hdg with ⟨u, hp⟩ | hp
    ·
      have hu64 : u ≤ 2 ^ 64 - 1 := by
        unfold Lib.parseUintB at hp
        rw [if_neg hne] at hp
        exact parse_le _ _ _ _ (Nat.zero_le _) hp
      obtain ⟨x, hx⟩ : ∃ x : UInt64, x.toNat = u := ⟨UInt64.ofNat u, UInt64.toNat_ofNat_of_lt' (by show u < 18446744073709551616; omega)⟩
      have e4 : n64 x = (u : Int) := by rw [← hx]; rfl
      have vx : vU64 x = .int .u64 u := by rw [← hx]; rfl
      have e3 : (4611686018427387904 < x) = (4611686018427387904 < u) := by rw [← hx]; exact propext UInt64.lt_iff_toNat_lt
      refine callG_b (ι := Unit) (fun _ => True) (fun _ => .t [.a (.v (vU64 x)), .a (.v .nilIface)]) rfl cb138 rfl (fun γ w' hS => ?_) (fun _ _ => rfl) (dOk_lt rfl) (by simp (config := { maxSteps := 1000000 }) only [push_cast]) ?_
      · refine (Tryd.strconv_ParseUint_10_at64_ok s (by omega) u hp w').mono fun e w'' ⟨he, hw⟩ => ⟨(), trivial, by rw [he, ← vx]; rfl, ?_⟩
        rcases hw with rfl | rfl
        · exact Below.refl _ _
        · exact Lib.bytesWorld_below _ _ _
      intro _ _
      rw [hp] at hint
      by_cases hu : u ≤ 4611686018427387904
      · have hs1 : F = some u := by rw [hint]; exact if_pos hu
        have n1 : ((F.getD 0 : Nat) : Int) = u := by rw [hs1]; rfl
        have n2 : erV (if F.isSome = true then 0 else 3) = .nilIface := by rw [hs1]; rfl
        have hu2 : ¬ 4611686018427387904 < u := by omega
        have hu3 : (u : Int) ≤ 9223372036854775807 := by omega
        have hu4 : (-9223372036854775808 : Int) ≤ u := by omega
        simp (config := { maxSteps := 1000000 }) only [e3, hu2, n1, n2, push_cast, ↓reduceIte, Nat.reduceEqDiff, Nat.reduceLT, Int.reduceNeg]
        rw [e4]
        exact ⟨⟨hu4, hu3⟩, rfl⟩
      · obtain ⟨n1, n2⟩ := none_ (by rw [hint]; exact if_neg hu)
        have hu2 : 4611686018427387904 < u := by omega
        simp (config := { maxSteps := 1000000 }) only [e3, hu2, n1, n2, push_cast, ↓reduceIte, Nat.reduceEqDiff, Nat.reduceLT]
        done
    ·
      obtain ⟨ev, hv1, hv2⟩ := hv.er
      refine callG_b (ι := Nat) (fun _ => True) (fun N => .t [.a (.v (.int .u64 18446744073709551615)), .a (.v (.iface 253 (.pointer (some ⟨N, 0, none⟩))))]) rfl cb138 rfl (fun γ w' hS => ?_) (fun _ _ => rfl) (dOk_lt rfl) (by simp (config := { maxSteps := 1000000 }) only [push_cast]) ?_
      · obtain ⟨ev, hv1, hv2⟩ := (hv.sat hS).er
        exact (Tryd.strconv_ParseUint_10_at64_range s (by omega) hp ev w' hv1 hv2).mono fun e w'' ⟨N, he, _, _, hb⟩ => ⟨N, trivial, he, hb⟩
      intro N _
      rw [hp] at hint
      obtain ⟨n1, n2⟩ := none_ hint
      simp (config := { maxSteps := 1000000 }) only [n1, n2, undef, push_cast, ↓reduceIte, Nat.reduceEqDiff, Nat.reduceLT]
end Go.Proofs.YtiaeollemmkclaaDoor
