/- The engine: slices, fields, lengths, choices. No program in sight. -/
import Derived.Test.YtkchdhkpjnnliaaDoorE8
namespace Go.Proofs.YtkchdhkpjnnliaaDoor
open Go.RowKit
set_option linter.unusedSimpArgs false
section
variable {P : Program} {w0 w : World} {ow : Nat → Prop} {γ : List Nm} {hp hp' : List Res} {c : Prop} {v : Sv} {t : TypeId}
theorem sliceS_sound {s : S} {ρ : Operand → Value} {lo hi : Option Operand} {a : Sv} (hS : Sat w0 ow γ hp w) (hev : ∀ x sv, Fr.ev s.fr x = some sv → ρ x = sv.val γ)
    (h : sliceS P t (Fr.ev s.fr) hp lo hi a = some (c, v, hp')) (hc : c) : hp' = hp ∧ (Instr.sliceAt t (a.val γ) (lo.map ρ) (hi.map ρ) none).run P w = .ok (v.val γ) w := by
  unfold sliceS at h
  split at h
  · rename_i b
    split at h
    · rename_i hu
      split at h
      · rename_i s'
        split at h
        · rename_i l m hb
          simp only [Option.some.injEq, Prod.mk.injEq] at h
          obtain ⟨rfl, rfl, rfl⟩ := h
          refine ⟨rfl, ?_⟩
          have hsb := bnds_sound (P := P) (w := w) (isS := false) hev hb hc.1 hc.2.1 hc.2.2
          show (Instr.sliceAt t (.string s') _ _ _).run P w = _
          unfold Instr.sliceAt Instr.slice
          simp only [Sem.run_bind, run_underlying hu, Result.andThen_ok, Option.isSome_none, Bool.false_eq_true, if_false, hsb]
          rfl
        · cases h
      · cases h
    · rename_i e hu
      split at h
      · rename_i k off len cap
        split at h
        · rename_i l m hb
          simp only [Option.some.injEq, Prod.mk.injEq] at h
          obtain ⟨rfl, rfl, rfl⟩ := h
          obtain ⟨h1, h2, h3, h4, h5⟩ := hc
          refine ⟨rfl, ?_⟩
          have hsb := bnds_sound (P := P) (w := w) (isS := true) hev hb h1 h2 h3
          show (Instr.sliceAt t (.slice (some ⟨nmB γ k, off, none⟩) len cap) _ _ _).run P w = _
          unfold Instr.sliceAt Instr.slice
          have hne : ¬ cap = l.toNat := by omega
          simp only [Sem.run_bind, run_underlying hu, Result.andThen_ok, hsb, run_sizeOf h5 (by omega), hne, if_false, Nat.mul_one, Option.map_some, add_plain]
          rfl
        · cases h
      · rename_i k
        split at h
        · rename_i e' ct hr
          split at h
          · rename_i l m hb
            simp only [Option.some.injEq, Prod.mk.injEq] at h
            obtain ⟨rfl, rfl, rfl⟩ := h
            obtain ⟨h1, h2, h3, h5⟩ := hc
            refine ⟨rfl, ?_⟩
            obtain ⟨A, cap, e1, e2, _⟩ := own_rd hS hr
            have hsb := bnds_sound (P := P) (w := w) (cap := cap) (isS := true) hev hb h1 h2 (by omega)
            show (Instr.sliceAt t (nmS γ k) _ _ _).run P w = _
            rw [e1]
            unfold Instr.sliceAt Instr.slice
            simp only [Sem.run_bind, run_underlying hu, Result.andThen_ok, hsb, run_sizeOf h5 (by omega), Nat.mul_one]
            simp only [Sv.val, Sc.val, At.val, e1]
            rfl
          · cases h
        · cases h
      · rename_i A len cap
        split at h
        · rename_i l m hb
          simp only [Option.some.injEq, Prod.mk.injEq] at h
          obtain ⟨rfl, rfl, rfl⟩ := h
          obtain ⟨h1, h2, h3, h5⟩ := hc
          refine ⟨rfl, ?_⟩
          have hsb := bnds_sound (P := P) (w := w) (isS := true) hev hb h1 h2 h3
          show (Instr.sliceAt t (.slice A len cap) _ _ _).run P w = _
          unfold Instr.sliceAt Instr.slice
          simp only [Sem.run_bind, run_underlying hu, Result.andThen_ok, hsb, run_sizeOf h5 (by omega), Nat.mul_one]
          rfl
        · cases h
      · cases h
    · rename_i n e hu
      split at h
      · rename_i k off
        split at h
        · rename_i l m hb
          simp only [Option.some.injEq, Prod.mk.injEq] at h
          obtain ⟨rfl, rfl, rfl⟩ := h
          obtain ⟨h1, h2, h3, h4, h5⟩ := hc
          refine ⟨rfl, ?_⟩
          have hsb := bnds_sound (P := P) (w := w) (isS := false) hev hb h1 h2 h3
          show (Instr.sliceAt t (.pointer (some ⟨nmB γ k, off, none⟩)) _ _ _).run P w = _
          unfold Instr.sliceAt
          have hne : ¬ n = l.toNat := by omega
          simp only [Sem.run_bind, run_underlying hu, Instr.sureAddr, Sem.run_pure, Result.andThen_ok, hsb, run_sizeOf h5 (by omega), hne, if_false, Nat.mul_one, add_plain]
          rfl
        · cases h
      · cases h
    · cases h
  · cases h
theorem fieldOff_some {f o : Nat} {ft : TypeId} (h : fieldOff P t f = some (o, ft)) : ∃ fs fd, P.underlying t = some (.struct fs) ∧ fs[f]? = some fd ∧ fd.offset = o ∧ fd.type = ft := by
  unfold fieldOff at h
  split at h
  · rename_i fs hu
    split at h
    · rename_i fd hf
      simp only [Option.some.injEq, Prod.mk.injEq] at h
      exact ⟨fs, fd, hu, hf, h.1, h.2⟩
    · cases h
  · cases h
theorem fieldS_sound {f : Nat} {a : Sv} (h : fieldS P t f hp a = some (c, v, hp')) (hc : c) : hp' = hp ∧ (Instr.field t (a.val γ) f).run P w = .ok (v.val γ) w := by
  unfold fieldS at h
  split at h
  · rename_i l
    split at h
    · rename_i o ft hf
      split at h
      · rename_i hfl
        simp only [Option.some.injEq, Prod.mk.injEq] at h
        obtain ⟨rfl, rfl, rfl⟩ := h
        obtain ⟨fs, fd, hu, h1, rfl, rfl⟩ := fieldOff_some hf
        refine ⟨rfl, ?_⟩
        unfold Instr.field
        have hx : (l.map (At.val γ)).toArray[fd.offset]? = some ((l.getD fd.offset (.v undef)).val γ) := by
          rw [List.getElem?_toArray, List.getElem?_map, List.getElem?_eq_getElem hc, List.getD_eq_getElem?_getD, List.getElem?_eq_getElem hc]; rfl
        simp only [Sem.run_bind, run_underlying hu, Result.andThen_ok, h1, Sv.val, Sc.val, asAgg, Sem.run_pure]
        exact run_part_flat hfl hx
      · cases h
    · cases h
  · cases h
theorem run_fieldAt {fs : Array Field} {fd : Field} {f : Nat} {a : Addr} (hu : P.underlying t = some (.struct fs)) (hf : fs[f]? = some fd) (hs : sz P fd.type ≠ 0) : (Instr.fieldAt t (.pointer (some a)) f).run P w = .ok (.pointer (some (a.add fd.offset))) w := by
  unfold Instr.fieldAt
  have := run_sizeOf (P := P) (t := fd.type) rfl hs w
  simp [Sem.run_bind, run_underlying hu, hf, Instr.sureAddr, fieldPlace, this, hs]
theorem fieldAddrS_sound {f : Nat} {a : Sv} (h : fieldAddrS P t f hp a = some (c, v, hp')) (hc : c) : hp' = hp ∧ (Instr.fieldAt t (a.val γ) f).run P w = .ok (v.val γ) w := by
  unfold fieldAddrS at h
  split at h
  · split at h
    · rename_i o ft hf
      simp only [Option.some.injEq, Prod.mk.injEq] at h
      obtain ⟨rfl, rfl, rfl⟩ := h
      obtain ⟨fs, fd, hu, h1, rfl, rfl⟩ := fieldOff_some hf
      refine ⟨rfl, (run_fieldAt hu h1 hc).trans ?_⟩
      rw [add_plain]
      rfl
    · cases h
  · rename_i A
    split at h
    · rename_i o ft hf
      simp only [Option.some.injEq, Prod.mk.injEq] at h
      obtain ⟨rfl, rfl, rfl⟩ := h
      obtain ⟨fs, fd, hu, h1, rfl, rfl⟩ := fieldOff_some hf
      obtain ⟨b, hb, hp2⟩ := pAdd_some _ fd.offset hc.2
      subst hb
      refine ⟨rfl, (run_fieldAt hu h1 hc.1).trans ?_⟩
      rfl
    · cases h
  · cases h
theorem extrS_sound {i : Nat} {a : Sv} (h : extrS i hp a = some (c, v, hp')) : hp' = hp ∧ (Instr.extract (a.val γ) i).run P w = .ok (v.val γ) w := by
  unfold extrS at h
  split at h
  · rename_i l
    split at h
    · rename_i s hs
      simp only [Option.some.injEq, Prod.mk.injEq] at h
      obtain ⟨rfl, rfl, rfl⟩ := h
      refine ⟨rfl, ?_⟩
      have hx : (l.map (Sc.val γ)).toArray[i]? = some (s.val γ) := by rw [List.getElem?_toArray, List.getElem?_map, hs]; rfl
      simp only [Sv.val, Instr.extract, hx]
      rfl
    · cases h
  · cases h
theorem run_nilCheck {o : Oper} {x : Operand} {ρ : Operand → Value} (ho : o.op = .nilCheck x) (a : Addr) (h : ρ x = .pointer (some a)) : (execOp ρ o).run P w = .ok (.value (.pointer (some a))) w := by
  unfold execOp
  simp only [ho, h]
  rfl
theorem nilS_sound {a : Sv} {o : Oper} {x : Operand} {ρ : Operand → Value} (ho : o.op = .nilCheck x) (hx : ρ x = a.val γ) (h : nilS hp a = some (c, v, hp')) (hc : c) : hp' = hp ∧ (execOp ρ o).run P w = .ok (.value (v.val γ)) w := by
  unfold nilS at h
  split at h
  · simp only [Option.some.injEq, Prod.mk.injEq] at h
    obtain ⟨rfl, rfl, rfl⟩ := h
    exact ⟨rfl, run_nilCheck ho _ hx⟩
  · rename_i A
    simp only [Option.some.injEq, Prod.mk.injEq] at h
    obtain ⟨rfl, rfl, rfl⟩ := h
    cases A with
    | none => cases hc
    | some a => exact ⟨rfl, run_nilCheck ho _ hx⟩
  · cases h
theorem lenS_sound {a : Sv} {ty : TypeId} (hS : Sat w0 ow γ hp w) (h : lenS P t hp a = some (c, v, hp')) (hc : c) : hp' = hp ∧ (Builtin.len_ #[t] ty #[a.val γ]).run P w = .ok (v.val γ) w := by
  unfold lenS at h
  split at h
  · split at h
    · rename_i hu
      obtain ⟨rfl, rfl, rfl⟩ := ret1_some h
      refine ⟨rfl, ?_⟩
      unfold Builtin.len_
      simp [Sem.run_bind, run_underlying hu, Sv.val, Sc.val, At.val, goInt]
    · cases h
  · split at h
    · rename_i hu
      obtain ⟨rfl, rfl, rfl⟩ := ret1_some h
      refine ⟨rfl, ?_⟩
      unfold Builtin.len_
      simp [Sem.run_bind, run_underlying hu, Sv.val, Sc.val, At.val, goInt]
    · cases h
  · split at h
    · rename_i hu
      obtain ⟨rfl, rfl, rfl⟩ := ret1_some h
      refine ⟨rfl, ?_⟩
      unfold Builtin.len_
      simp [Sem.run_bind, run_underlying hu, Sv.val, Sc.val, At.val, goInt]
    · cases h
  · rename_i k
    split at h
    · rename_i ct hu hr
      obtain ⟨rfl, rfl, rfl⟩ := ret1_some h
      refine ⟨rfl, ?_⟩
      obtain ⟨A, m, h1, _⟩ := own_rd hS hr
      unfold Builtin.len_
      simp [Sem.run_bind, run_underlying hu, Sv.val, Sc.val, At.val, goInt, h1]
    · cases h
  · rename_i k l m
    split at h
    · rename_i hu
      obtain ⟨rfl, rfl, rfl⟩ := ret1_some h
      refine ⟨rfl, ?_⟩
      obtain ⟨A, n, m', e⟩ := own_slice hS hc
      unfold Builtin.len_
      simp [Sem.run_bind, run_underlying hu, Sv.val, Sc.val, At.val, goInt, e]
    · cases h
  · split at h
    · rename_i hu
      obtain ⟨rfl, rfl, rfl⟩ := ret1_some h
      refine ⟨rfl, ?_⟩
      unfold Builtin.len_
      simp [Sem.run_bind, run_underlying hu, Sv.val, Sc.val, At.val, goInt]
    · cases h
theorem pickS_sound {a x y : Sv} (h : pickS hp a x y = some (c, v, hp')) : hp' = hp ∧ ∃ b, a.val γ = .bool b ∧ (if b = true then x.val γ else y.val γ) = v.val γ := by
  unfold pickS at h
  split at h
  · rename_i b p q
    simp only [Option.some.injEq, Prod.mk.injEq] at h
    obtain ⟨rfl, rfl, rfl⟩ := h
    exact ⟨rfl, b, rfl, by cases b <;> rfl⟩
  · rename_i p q b _
    simp only [Option.some.injEq, Prod.mk.injEq] at h
    obtain ⟨rfl, rfl, rfl⟩ := h
    exact ⟨rfl, b, rfl, by cases b <;> rfl⟩
  · cases h
end
end Go.Proofs.YtkchdhkpjnnliaaDoor
