/- The engine: comparisons, conversions, places, parts. No program in sight. -/
import Derived.Test.YtkchdhkpjnnliaaDoorE6
namespace Go.Proofs.YtkchdhkpjnnliaaDoor
open Go.RowKit
set_option linter.unusedSimpArgs false
section
variable {P : Program} {w0 w : World} {ow : Nat → Prop} {γ : List Nm} {hp hp' : List Res} {c : Prop} {v : Sv} {t : TypeId}

theorem eqGuard_num {op : BinOp} (h : op ≠ .eql) (h' : op ≠ .neq) (x y : Operand) (a b : Value) : (eqGuard op t x y a b).run P w = .ok () w := by
  cases op <;> first | exact absurd rfl h | exact absurd rfl h' | simp [eqGuard]
theorem run_guarded {op : BinOp} {x y : Operand} {a b r : Value} (hg : (eqGuard op t x y a b).run P w = .ok () w) (h : (binOp op t a b).run P w = .ok r w) :
    (do eqGuard op t x y a b; binOp op t a b : Sem Value).run P w = .ok r w := by
  rw [Sem.run_bind, hg]
  exact h
def eqOp (neg : Bool) : BinOp := if neg = true then .neq else .eql
theorem run_eqOp {neg b : Bool} {x y : Value} (h1 : binOp .eql t x y = (do pure (.bool (← Op.equal t x y)))) (h2 : binOp .neq t x y = (do pure (.bool (!(← Op.equal t x y)))))
    (h : (Op.equal t x y).run P w = .ok b w) : (binOp (eqOp neg) t x y).run P w = .ok (.bool (if neg = true then !b else b)) w := by
  cases neg
  · rw [show eqOp false = .eql from rfl, h1, Sem.run_bind, h]; rfl
  · rw [show eqOp true = .neq from rfl, h2, Sem.run_bind, h]; rfl
theorem equal_of {a b : Value} {r : Bool} (h : ∀ d, (Op.equalIn (d + 2) t a b).run P w = .ok r w) : (Op.equal t a b).run P w = .ok r w := h 9998
theorem neg1_some {neg b : Bool} {d : Prop} (h : neg1 neg d b hp = some (c, v, hp')) : d = c ∧ v = .x (.a (.v (.bool (if neg = true then !b else b)))) ∧ hp' = hp := by
  simp only [neg1, ret1, Option.some.injEq, Prod.mk.injEq] at h
  exact ⟨h.1, h.2.1.symm, h.2.2.symm⟩
theorem ret1_some {x : Value} {d : Prop} (h : ret1 d x hp = some (c, v, hp')) : d = c ∧ v = .x (.a (.v x)) ∧ hp' = hp := by
  simp only [ret1, Option.some.injEq, Prod.mk.injEq] at h
  exact ⟨h.1, h.2.1.symm, h.2.2.symm⟩
theorem val1_some {r : R1} (h : val1 hp r = some (c, v, hp')) : ∃ x, r = some (c, x) ∧ v = .x (.a (.v x)) ∧ hp' = hp := by
  cases r with
  | none => simp [val1] at h
  | some q =>
    obtain ⟨d, x⟩ := q
    simp only [val1, Option.some.injEq, Prod.mk.injEq] at h
    obtain ⟨rfl, rfl, rfl⟩ := h
    exact ⟨x, rfl, rfl, rfl⟩
theorem eqS_sound {neg : Bool} {a b : Sv} {x y : Operand} (h : eqS P t neg hp a b = some (c, v, hp')) (hc : c) :
    hp' = hp ∧ (do eqGuard (eqOp neg) t x y (a.val γ) (b.val γ); binOp (eqOp neg) t (a.val γ) (b.val γ) : Sem Value).run P w = .ok (v.val γ) w := by
  unfold eqS at h
  split at h
  · rename_i l m
    split at h
    · obtain ⟨rfl, rfl, rfl⟩ := neg1_some h
      refine ⟨rfl, ?_⟩
      obtain ⟨⟨e, h1, h2, h3, h4, h5⟩, h6, h7⟩ := hc
      obtain ⟨i, hi, hsz⟩ := sz_info h3 (by omega)
      refine run_guarded ?_ (run_eqOp rfl rfl ?_)
      · cases neg <;> simp [eqGuard, eqOp, Sv.val, Sc.val, h5]
      · exact equal_of fun d => eql8 (P := P) w d h1 h2 (by rw [hi]; simpa using hsz) h4 l m h6 h7
    · cases h
  · rename_i l m
    obtain ⟨rfl, rfl, rfl⟩ := neg1_some h
    refine ⟨rfl, run_guarded (by cases neg <;> rfl) ?_⟩
    cases neg <;> rfl
  · split at h
    · rename_i hu
      obtain ⟨rfl, rfl, rfl⟩ := neg1_some h
      refine ⟨rfl, run_guarded (by cases neg <;> rfl) (run_eqOp rfl rfl ?_)⟩
      exact equal_of fun d => by unfold Op.equalIn; rw [Sem.run_bind, run_underlying hu]; rfl
    · cases h
  · split at h
    · rename_i hu
      obtain ⟨rfl, rfl, rfl⟩ := neg1_some h
      refine ⟨rfl, run_guarded (by cases neg <;> rfl) (run_eqOp rfl rfl ?_)⟩
      exact equal_of fun d => by unfold Op.equalIn; rw [Sem.run_bind, run_underlying hu]; rfl
    · cases h
  · split at h
    · rename_i hu
      obtain ⟨rfl, rfl, rfl⟩ := neg1_some h
      refine ⟨rfl, run_guarded (by cases neg <;> rfl) (run_eqOp rfl rfl ?_)⟩
      exact equal_of fun d => by unfold Op.equalIn; rw [Sem.run_bind, run_underlying hu]; rfl
    · cases h
  · rename_i A _ _ _ _
    split at h
    · rename_i hu
      obtain ⟨rfl, rfl, rfl⟩ := neg1_some h
      refine ⟨rfl, run_guarded (by cases neg <;> rfl) (run_eqOp rfl rfl ?_)⟩
      exact equal_of fun d => by unfold Op.equalIn; rw [Sem.run_bind, run_underlying hu]; cases A <;> rfl
    · cases h
  · split at h
    · rename_i hu
      obtain ⟨rfl, rfl, rfl⟩ := neg1_some h
      refine ⟨rfl, run_guarded (by cases neg <;> rfl) (run_eqOp rfl rfl ?_)⟩
      exact equal_of fun d => by unfold Op.equalIn; rw [Sem.run_bind, run_underlying hu]; rfl
    · cases h
  · split at h
    · rename_i hu
      obtain ⟨rfl, rfl, rfl⟩ := neg1_some h
      refine ⟨rfl, run_guarded (by cases neg <;> rfl) (run_eqOp rfl rfl ?_)⟩
      exact equal_of fun d => by unfold Op.equalIn; rw [Sem.run_bind, run_underlying hu]; rfl
    · cases h
  · cases h
theorem nilEq_sound {neg : Bool} {a b : Sv} {x y : Operand} (h : nilEq P t neg hp x y a b = some (c, v, hp')) (hc : c) :
    hp' = hp ∧ (do eqGuard (eqOp neg) t x y (a.val γ) (b.val γ); binOp (eqOp neg) t (a.val γ) (b.val γ) : Sem Value).run P w = .ok (v.val γ) w := by
  unfold nilEq at h
  split at h
  · split at h
    · rename_i hu
      split at h
      · rename_i hl
        obtain ⟨rfl, rfl, rfl⟩ := neg1_some h
        refine ⟨rfl, run_guarded ?_ (run_eqOp rfl rfl ?_)⟩
        · cases neg <;> cases x <;> cases y <;> first | rfl | simp [litO] at hl
        · exact equal_of fun d => by unfold Op.equalIn; rw [Sem.run_bind, run_underlying hu]; rfl
      · cases h
    · cases h
  · exact eqS_sound h hc
theorem binS_sound {op : BinOp} {a b : Sv} {x y : Operand} (h : binS P op t x y hp a b = some (c, v, hp')) (hc : c) :
    hp' = hp ∧ (do eqGuard op t x y (a.val γ) (b.val γ); binOp op t (a.val γ) (b.val γ) : Sem Value).run P w = .ok (v.val γ) w := by
  unfold binS at h
  split at h
  · rename_i k a k' b
    have hg : ∀ op, (eqGuard op t x y (.int k a) (.int k' b)).run P w = .ok () w := fun op => by cases op <;> rfl
    split at h
    · obtain ⟨z, h1, rfl, rfl⟩ := val1_some h
      exact ⟨rfl, run_guarded (hg _) (shS_sound (left := true) h1 hc)⟩
    · obtain ⟨z, h1, rfl, rfl⟩ := val1_some h
      exact ⟨rfl, run_guarded (hg _) (shS_sound (left := false) h1 hc)⟩
    · split at h
      · rename_i hk
        subst hk
        obtain ⟨z, h1, rfl, rfl⟩ := val1_some h
        exact ⟨rfl, run_guarded (hg _) (binN_sound h1 hc)⟩
      · cases h
  · split at h
    · exact nilEq_sound (neg := false) h hc
    · exact nilEq_sound (neg := true) h hc
    · split at h
      · rename_i s u _
        obtain ⟨rfl, rfl, rfl⟩ := ret1_some h
        refine ⟨rfl, run_guarded rfl ?_⟩
        have h1 : ¬ (((s.size + u.size : Nat) : Int) > IntKind.i64.max) := by
          have : IntKind.i64.max = 9223372036854775807 := rfl
          omega
        show (Op.stringOp .add s u).run P w = _
        simp only [Op.stringOp, h1, if_false]
        rfl
      · cases h
    · cases h
theorem unS_sound {op : UnOp} {a : Sv} (h : unS op hp a = some (c, v, hp')) (hc : c) : hp' = hp ∧ (Op.unary op (a.val γ)).run P w = .ok (v.val γ) w := by
  unfold unS at h
  split at h
  · split at h
    · obtain ⟨rfl, rfl, rfl⟩ := ret1_some h
      exact ⟨rfl, rfl⟩
    · cases h
  · split at h
    · obtain ⟨rfl, rfl, rfl⟩ := ret1_some h
      rename_i n _
      refine ⟨rfl, ?_⟩
      show (Op.intArith .sub .i64 0 n).run P w = _
      simp only [Op.intArith, Int.zero_sub, inI64_wrap hc]
      rfl
    · cases h
  · cases h
end
end Go.Proofs.YtkchdhkpjnnliaaDoor
