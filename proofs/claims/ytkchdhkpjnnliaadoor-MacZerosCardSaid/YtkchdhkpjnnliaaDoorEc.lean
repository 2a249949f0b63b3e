/- The engine: an operation, a list of them, code. No program in sight. -/
import Derived.Test.YtkchdhkpjnnliaaDoorEb
namespace Go.Proofs.YtkchdhkpjnnliaaDoor
open Go.RowKit
set_option linter.unusedSimpArgs false
section
variable {P : Program} {w0 w : World} {ow : Nat → Prop} {γ : List Nm} {hp hp' : List Res} {c : Prop} {v : Sv} {t : TypeId}
/-- What an operation has made of the world. -/
def Out (w0 : World) (ow : Nat → Prop) (γ : List Nm) (hp : List Res) (r : Result Next) (v : Sv) (hp' : List Res) : Prop :=
  ∃ γ' w', Sat w0 ow γ' hp' w' ∧ (γ' = γ ∨ (hp.length < hp'.length ∧ ∃ nm, γ' = γ ++ [nm])) ∧ (r = .ok (.value (v.val γ')) w' ∨ (r = .ok .skip w' ∧ v = nil1))
theorem Out.read {r : Result Next} (hS : Sat w0 ow γ hp w) (h : hp' = hp) (hr : r = .ok (.value (v.val γ)) w) : Out w0 ow γ hp r v hp' := by
  subst h
  exact ⟨γ, w, hS, .inl rfl, .inl hr⟩
theorem ev1_some {f : Sv → R} {x : Option Sv} (h : ev1 f x = some (c, v, hp')) : ∃ a, x = some a ∧ f a = some (c, v, hp') := by
  cases x with
  | none => cases h
  | some a => exact ⟨a, rfl, h⟩
theorem ev2_some {f : Sv → Sv → R} {x y : Option Sv} (h : ev2 f x y = some (c, v, hp')) : ∃ a b, x = some a ∧ y = some b ∧ f a b = some (c, v, hp') := by
  cases x with
  | none => cases h
  | some a => cases y with
    | none => cases h
    | some b => exact ⟨a, b, rfl, rfl, h⟩
theorem ev3_some {f : Sv → Sv → Sv → R} {x y z : Option Sv} (h : ev3 f x y z = some (c, v, hp')) : ∃ a b d, x = some a ∧ y = some b ∧ z = some d ∧ f a b d = some (c, v, hp') := by
  cases x with
  | none => cases h
  | some a => cases y with
    | none => cases h
    | some b => cases z with
      | none => cases h
      | some d => exact ⟨a, b, d, rfl, rfl, rfl, h⟩
theorem run_v {s : Sem Value} {x : Value} {w' : World} (h : s.run P w = .ok x w') : (do pure (Next.value (← s)) : Sem Next).run P w = .ok (.value x) w' := by
  rw [Sem.run_bind, h]; rfl
theorem op1_sound {s : S} {ρ : Operand → Value} {o : Oper} (hS : Sat w0 ow γ hp w) (hev : ∀ x sv, Fr.ev s.fr x = some sv → ρ x = sv.val γ)
    (h : op1 P w0 ow (Fr.ev s.fr) hp o.op = some (c, v, hp')) (hc : c) (hb : hp.length < hp'.length → (∀ x sv, Fr.ev s.fr x = some sv → sv.bnd hp.length) ∧ ∀ r ∈ hp, Res.bnd hp.length r) :
    Out w0 ow γ hp ((execOp ρ o).run P w) v hp' := by
  unfold op1 at h
  split at h
  · rename_i x ho
    obtain ⟨a, hx, h⟩ := ev1_some h
    simp only [Option.some.injEq, Prod.mk.injEq] at h
    obtain ⟨rfl, rfl, rfl⟩ := h
    exact Out.read hS rfl (by unfold execOp; simp only [ho, hev _ _ hx]; rfl)
  · rename_i x ho
    obtain ⟨a, hx, h⟩ := ev1_some h
    simp only [Option.some.injEq, Prod.mk.injEq] at h
    obtain ⟨rfl, rfl, rfl⟩ := h
    exact Out.read hS rfl (by unfold execOp; simp only [ho, hev _ _ hx]; rfl)
  · rename_i x y z ho
    obtain ⟨a, b, d, hx, hy, hz, h⟩ := ev3_some h
    obtain ⟨rfl, b', h1, h2⟩ := pickS_sound (γ := γ) h
    refine Out.read hS rfl ?_
    unfold execOp
    simp only [ho, hev _ _ hx, hev _ _ hy, hev _ _ hz, h1, ← h2]
    cases b' <;> rfl
  · rename_i t ho
    split at h
    · rename_i k hz
      simp only [boxS, Option.some.injEq, Prod.mk.injEq] at h
      obtain ⟨rfl, rfl, rfl⟩ := h
      obtain ⟨_, hbr⟩ := hb (by simp)
      obtain ⟨z, hz1, hz2⟩ := run_zero (w := w) hc
      refine ⟨_, _, hS.made hbr (zeroCont_bnd hz) (hz2 γ), .inr ⟨by simp, _, rfl⟩, .inl ?_⟩
      unfold execOp
      simp only [ho]
      refine run_v ?_
      unfold Instr.alloc
      rw [Sem.run_bind, hz1, Result.andThen_ok]
      simp only [Sem.run_bind, run_newVar, Result.andThen_ok]
      simp [Sv.val, Sc.val, At.val, nmB_last hS.len]
    · cases h
  · rename_i t x ho
    obtain ⟨a, hx, h⟩ := ev1_some h
    split at h
    · rename_i s'
      simp only [boxS, Option.some.injEq, Prod.mk.injEq] at h
      obtain ⟨rfl, rfl, rfl⟩ := h
      obtain ⟨hbe, hbr⟩ := hb (by simp)
      refine ⟨_, _, hS.made hbr (Sc.cont_bnd (hbe _ _ hx)) (Sc.cont_cells hS hc), .inr ⟨by simp, _, rfl⟩, .inl ?_⟩
      unfold execOp
      simp only [ho, hev _ _ hx]
      refine run_v ?_
      unfold Instr.box
      simp only [Sem.run_bind, run_newVar, Result.andThen_ok]
      simp [Sv.val, Sc.val, At.val, nmB_last hS.len]
    · cases h
  · rename_i t len ps ho
    have hlt : hp.length < hp'.length := by
      unfold bsS at h
      split at h
      · split at h
        · split at h
          · simp only [Option.some.injEq, Prod.mk.injEq] at h
            rw [← h.2.2]; simp
          · cases h
        · cases h
      · cases h
    obtain ⟨hbe, hbr⟩ := hb hlt
    obtain ⟨γ', w', hrun, hsat, _, nm, hnm⟩ := bsS_sound hS hev hbe hbr h hc
    refine ⟨γ', w', hsat, .inr ⟨hlt, nm, hnm⟩, .inl ?_⟩
    unfold execOp
    simp only [ho]
    refine run_v ?_
    rw [← hrun]
    congr 2
    apply Array.ext'
    simp
  · rename_i t x ho
    obtain ⟨a, hx, h⟩ := ev1_some h
    obtain ⟨rfl, hr⟩ := loadS_sound hS h hc
    exact Out.read hS rfl (by unfold execOp; simp only [ho, hev _ _ hx]; exact run_v hr)
  · rename_i t x y ho
    obtain ⟨a, b, hx, hy, h⟩ := ev2_some h
    obtain ⟨rfl, w', hr, hS'⟩ := storeS_sound hS h hc
    refine ⟨γ, w', hS', .inl rfl, .inr ⟨?_, rfl⟩⟩
    unfold execOp
    simp only [ho, hev _ _ hx, hev _ _ hy]
    rw [Sem.run_bind, hr]
    rfl
  · rename_i x ho
    obtain ⟨a, hx, h⟩ := ev1_some h
    obtain ⟨rfl, hr⟩ := nilS_sound (P := P) (w := w) (γ := γ) ho (hev _ _ hx) h hc
    exact Out.read hS rfl hr
  · rename_i op t x y t2 ho
    obtain ⟨a, b, hx, hy, h⟩ := ev2_some h
    obtain ⟨rfl, hr⟩ := binS_sound (γ := γ) (w := w) h hc
    exact Out.read hS rfl (by unfold execOp; simp only [ho, hev _ _ hx, hev _ _ hy]; exact run_v hr)
  · rename_i op t x ho
    obtain ⟨a, hx, h⟩ := ev1_some h
    obtain ⟨rfl, hr⟩ := unS_sound (P := P) (γ := γ) (w := w) h hc
    exact Out.read hS rfl (by unfold execOp; simp only [ho, hev _ _ hx]; exact run_v hr)
  · rename_i src dst x ho
    obtain ⟨a, hx, h⟩ := ev1_some h
    obtain ⟨rfl, hr⟩ := cvtS_sound hS h hc
    exact Out.read hS rfl (by unfold execOp; simp only [ho, hev _ _ hx]; exact run_v hr)
  · rename_i t x ho
    obtain ⟨a, hx, h⟩ := ev1_some h
    obtain ⟨rfl, hr⟩ := ifcS_sound (γ := γ) (w := w) h hc
    exact Out.read hS rfl (by unfold execOp; simp only [ho, hev _ _ hx]; exact run_v hr)
  · rename_i t x lo hi ho
    obtain ⟨a, hx, h⟩ := ev1_some h
    obtain ⟨rfl, hr⟩ := sliceS_sound (w := w) hS hev h hc
    exact Out.read hS rfl (by unfold execOp; simp only [ho, hev _ _ hx]; exact run_v hr)
  · rename_i t x f ho
    obtain ⟨a, hx, h⟩ := ev1_some h
    obtain ⟨rfl, hr⟩ := fieldAddrS_sound (γ := γ) (w := w) h hc
    exact Out.read hS rfl (by unfold execOp; simp only [ho, hev _ _ hx]; exact run_v hr)
  · rename_i t x f ho
    obtain ⟨a, hx, h⟩ := ev1_some h
    obtain ⟨rfl, hr⟩ := fieldS_sound (γ := γ) (w := w) h hc
    exact Out.read hS rfl (by unfold execOp; simp only [ho, hev _ _ hx]; exact run_v hr)
  · rename_i t x i ho
    obtain ⟨a, b, hx, hy, h⟩ := ev2_some h
    obtain ⟨rfl, hr⟩ := idxS_sound hS h hc
    exact Out.read hS rfl (by unfold execOp; simp only [ho, hev _ _ hx, hev _ _ hy]; exact run_v hr)
  · rename_i t x i ho
    obtain ⟨a, b, hx, hy, h⟩ := ev2_some h
    obtain ⟨rfl, hr⟩ := indexS_sound (γ := γ) (w := w) h hc
    exact Out.read hS rfl (by unfold execOp; simp only [ho, hev _ _ hx, hev _ _ hy]; exact run_v hr)
  · rename_i x i ho
    obtain ⟨a, hx, h⟩ := ev1_some h
    obtain ⟨rfl, hr⟩ := extrS_sound (P := P) (γ := γ) (w := w) h
    exact Out.read hS rfl (by unfold execOp; simp only [ho, hev _ _ hx]; exact run_v hr)
  · rename_i cl ho
    unfold callS at h
    obtain ⟨callee, args, argTypes⟩ := cl
    simp only at h
    split at h
    · split at h
      · rename_i x t ha ht
        obtain ⟨a, hx, h⟩ := ev1_some h
        have e1 : args = #[x] := Array.ext' ha
        have e2 : argTypes = #[t] := Array.ext' ht
        subst e1 e2
        obtain ⟨rfl, hr⟩ := lenS_sound (ty := o.type) hS h hc
        refine Out.read hS rfl ?_
        unfold execOp
        simp only [ho]
        simp only [resolve, Sem.run_bind, Sem.run_pure, Result.andThen_ok, invoke, builtin]
        have := run_v hr
        simpa [hev _ _ hx] using this
      · cases h
    · split at h
      · rename_i x y t t' ha ht
        obtain ⟨a, b, hx, hy, h⟩ := ev2_some h
        have e1 : args = #[x, y] := Array.ext' ha
        have e2 : argTypes = #[t, t'] := Array.ext' ht
        subst e1 e2
        have hlt : hp.length < hp'.length := by
          exact appS_lt h
        obtain ⟨_, hbr⟩ := hb hlt
        obtain ⟨γ', w', hr, hsat, _, nm, hnm⟩ := appS_sound (ty := o.type) hS hbr h hc
        refine ⟨γ', w', hsat, .inr ⟨hlt, nm, hnm⟩, .inl ?_⟩
        unfold execOp
        simp only [ho]
        simp only [resolve, Sem.run_bind, Sem.run_pure, Result.andThen_ok, invoke, builtin]
        have := run_v hr
        simpa [hev _ _ hx, hev _ _ hy] using this
      · cases h
    · cases h
  · cases h
def isRead : Op → Bool
  | .move _ | .assign _ | .pick _ _ _ | .load _ _ | .nilCheck _ | .binOp _ _ _ _ _ | .unOp _ _ _ | .convert _ _ _ | .makeInterface _ _ | .slice _ _ _ _ none | .fieldAddr _ _ _ | .field _ _ _ | .indexAddr _ _ _ | .index _ _ _ | .extract _ _ => true
  | .call { callee := .builtin .len, .. } => true
  | _ => false
theorem op1_read {s : S} {ρ : Operand → Value} {o : Oper} (hr0 : isRead o.op = true) (hS : Sat w0 ow γ hp w) (hev : ∀ x sv, Fr.ev s.fr x = some sv → ρ x = sv.val γ)
    (h : op1 P w0 ow (Fr.ev s.fr) hp o.op = some (c, v, hp')) (hc : c) : hp' = hp ∧ (execOp ρ o).run P w = .ok (.value (v.val γ)) w := by
  unfold op1 at h
  split at h
  · rename_i x ho
    obtain ⟨a, hx, h⟩ := ev1_some h
    simp only [Option.some.injEq, Prod.mk.injEq] at h
    obtain ⟨rfl, rfl, rfl⟩ := h
    exact ⟨rfl, by unfold execOp; simp only [ho, hev _ _ hx]; rfl⟩
  · rename_i x ho
    obtain ⟨a, hx, h⟩ := ev1_some h
    simp only [Option.some.injEq, Prod.mk.injEq] at h
    obtain ⟨rfl, rfl, rfl⟩ := h
    exact ⟨rfl, by unfold execOp; simp only [ho, hev _ _ hx]; rfl⟩
  · rename_i x y z ho
    obtain ⟨a, b, d, hx, hy, hz, h⟩ := ev3_some h
    obtain ⟨rfl, b', h1, h2⟩ := pickS_sound (γ := γ) h
    refine ⟨rfl, ?_⟩
    unfold execOp
    simp only [ho, hev _ _ hx, hev _ _ hy, hev _ _ hz, h1, ← h2]
    cases b' <;> rfl
  · rename_i t ho
    rw [ho] at hr0; cases hr0
  · rename_i t x ho
    rw [ho] at hr0; cases hr0
  · rename_i t len ps ho
    rw [ho] at hr0; cases hr0
  · rename_i t x ho
    obtain ⟨a, hx, h⟩ := ev1_some h
    obtain ⟨rfl, hr⟩ := loadS_sound hS h hc
    exact ⟨rfl, by unfold execOp; simp only [ho, hev _ _ hx]; exact run_v hr⟩
  · rename_i t x y ho
    rw [ho] at hr0; cases hr0
  · rename_i x ho
    obtain ⟨a, hx, h⟩ := ev1_some h
    obtain ⟨rfl, hr⟩ := nilS_sound (P := P) (w := w) (γ := γ) ho (hev _ _ hx) h hc
    exact ⟨rfl, hr⟩
  · rename_i op t x y t2 ho
    obtain ⟨a, b, hx, hy, h⟩ := ev2_some h
    obtain ⟨rfl, hr⟩ := binS_sound (γ := γ) (w := w) h hc
    exact ⟨rfl, by unfold execOp; simp only [ho, hev _ _ hx, hev _ _ hy]; exact run_v hr⟩
  · rename_i op t x ho
    obtain ⟨a, hx, h⟩ := ev1_some h
    obtain ⟨rfl, hr⟩ := unS_sound (P := P) (γ := γ) (w := w) h hc
    exact ⟨rfl, by unfold execOp; simp only [ho, hev _ _ hx]; exact run_v hr⟩
  · rename_i src dst x ho
    obtain ⟨a, hx, h⟩ := ev1_some h
    obtain ⟨rfl, hr⟩ := cvtS_sound hS h hc
    exact ⟨rfl, by unfold execOp; simp only [ho, hev _ _ hx]; exact run_v hr⟩
  · rename_i t x ho
    obtain ⟨a, hx, h⟩ := ev1_some h
    obtain ⟨rfl, hr⟩ := ifcS_sound (γ := γ) (w := w) h hc
    exact ⟨rfl, by unfold execOp; simp only [ho, hev _ _ hx]; exact run_v hr⟩
  · rename_i t x lo hi ho
    obtain ⟨a, hx, h⟩ := ev1_some h
    obtain ⟨rfl, hr⟩ := sliceS_sound (w := w) hS hev h hc
    exact ⟨rfl, by unfold execOp; simp only [ho, hev _ _ hx]; exact run_v hr⟩
  · rename_i t x f ho
    obtain ⟨a, hx, h⟩ := ev1_some h
    obtain ⟨rfl, hr⟩ := fieldAddrS_sound (γ := γ) (w := w) h hc
    exact ⟨rfl, by unfold execOp; simp only [ho, hev _ _ hx]; exact run_v hr⟩
  · rename_i t x f ho
    obtain ⟨a, hx, h⟩ := ev1_some h
    obtain ⟨rfl, hr⟩ := fieldS_sound (γ := γ) (w := w) h hc
    exact ⟨rfl, by unfold execOp; simp only [ho, hev _ _ hx]; exact run_v hr⟩
  · rename_i t x i ho
    obtain ⟨a, b, hx, hy, h⟩ := ev2_some h
    obtain ⟨rfl, hr⟩ := idxS_sound hS h hc
    exact ⟨rfl, by unfold execOp; simp only [ho, hev _ _ hx, hev _ _ hy]; exact run_v hr⟩
  · rename_i t x i ho
    obtain ⟨a, b, hx, hy, h⟩ := ev2_some h
    obtain ⟨rfl, hr⟩ := indexS_sound (γ := γ) (w := w) h hc
    exact ⟨rfl, by unfold execOp; simp only [ho, hev _ _ hx, hev _ _ hy]; exact run_v hr⟩
  · rename_i x i ho
    obtain ⟨a, hx, h⟩ := ev1_some h
    obtain ⟨rfl, hr⟩ := extrS_sound (P := P) (γ := γ) (w := w) h
    exact ⟨rfl, by unfold execOp; simp only [ho, hev _ _ hx]; exact run_v hr⟩
  · rename_i cl ho
    unfold callS at h
    obtain ⟨callee, args, argTypes⟩ := cl
    simp only at h
    split at h
    · split at h
      · rename_i x t ha ht
        obtain ⟨a, hx, h⟩ := ev1_some h
        have e1 : args = #[x] := Array.ext' ha
        have e2 : argTypes = #[t] := Array.ext' ht
        subst e1 e2
        obtain ⟨rfl, hr⟩ := lenS_sound (ty := o.type) hS h hc
        refine ⟨rfl, ?_⟩
        unfold execOp
        simp only [ho]
        simp only [resolve, Sem.run_bind, Sem.run_pure, Result.andThen_ok, invoke, builtin]
        have := run_v hr
        simpa [hev _ _ hx] using this
      · cases h
    · rw [ho] at hr0; cases hr0
    · cases h
  · cases h
end
end Go.Proofs.YtkchdhkpjnnliaaDoor
