/- The engine: conversions, places, parts. No program in sight. -/
import Derived.Test.YtkchdhkpjnnliaaDoorE7
namespace Go.Proofs.YtkchdhkpjnnliaaDoor
open Go.RowKit
set_option linter.unusedSimpArgs false
section
variable {P : Program} {w0 w : World} {ow : Nat → Prop} {γ : List Nm} {hp hp' : List Res} {c : Prop} {v : Sv} {t : TypeId}
theorem rd8_length (w0 : World) (A : Option Addr) (n : Nat) : (rd8 w0 A n).length = n := by simp [rd8]
theorem own_rd (hS : Sat w0 ow γ hp w) {k : Nat} {e : TypeId} {ct : Cont} (hr : hp[k]? = some (.own e ct)) : ∃ A m, nmS γ k = .slice A ct.len m ∧ ct.len ≤ m ∧ m ≤ maxLen ∧ RdV w w.heap.size A (ct.vals γ) ∧ ∀ a, A = some a → (Res.own e ct).block γ k = some a.block := by
  obtain ⟨A, m, h1, h2, h3, h4, h5⟩ := (hS.own hr).2.rd
  rw [Cont.len_vals] at h1 h2
  exact ⟨A, m, h1, h2, h3, h4, fun a ha => (h5 a ha).2.2.2⟩
theorem cvtS_sound {src dst : TypeId} {a : Sv} (hS : Sat w0 ow γ hp w) (h : cvtS P w0 ow src dst hp a = some (c, v, hp')) (hc : c) : hp' = hp ∧ (convert src dst (a.val γ)).run P w = .ok (v.val γ) w := by
  unfold cvtS at h
  split at h
  · rename_i k n
    split at h
    · rename_i ds d hs hd
      obtain ⟨z, h1, rfl, rfl⟩ := val1_some h
      refine ⟨rfl, ?_⟩
      unfold convert
      rw [Sem.run_bind, run_underlying hs, Result.andThen_ok, Sem.run_bind, run_underlying hd, Result.andThen_ok]
      exact cvtN_sound h1 hc
    · cases h
  · rename_i s
    split at h
    · rename_i ds hs hd
      obtain ⟨rfl, rfl, rfl⟩ := ret1_some h
      refine ⟨rfl, ?_⟩
      unfold convert
      rw [Sem.run_bind, run_underlying hs, Result.andThen_ok, Sem.run_bind, run_underlying hd, Result.andThen_ok]
      cases ds <;> rfl
    · cases h
  · rename_i A n m
    split at h
    · rename_i e hs hd
      split at h
      · rename_i he
        obtain ⟨rfl, rfl, rfl⟩ := ret1_some h
        refine ⟨rfl, ?_⟩
        have := conv_str (P := P) (rd8 w0 A n) m src e hs he (hS.rdv hc) dst hd
        rw [rd8_length] at this
        exact this
      · cases h
    · cases h
  · rename_i k
    split at h
    · rename_i e _ l hs hd hr
      split at h
      · rename_i he
        obtain ⟨rfl, rfl, rfl⟩ := ret1_some h
        refine ⟨rfl, ?_⟩
        obtain ⟨A, m, h1, _, _, h4, _⟩ := own_rd hS hr
        show (convert src dst (nmS γ k)).run P w = _
        rw [h1]
        exact conv_str (P := P) l m src e hs he h4 dst hd
      · cases h
    · cases h
  · cases h
theorem ifcS_sound {a : Sv} (h : ifcS P t hp a = some (c, v, hp')) (hc : c) : hp' = hp ∧ (Instr.makeInterface t (a.val γ)).run P w = .ok (v.val γ) w := by
  unfold ifcS at h
  split at h
  · split at h
    · cases h
    · rename_i d hu hn
      obtain ⟨rfl, rfl, rfl⟩ := ret1_some h
      refine ⟨rfl, ?_⟩
      unfold Instr.makeInterface
      rw [Sem.run_bind, run_underlying hn, Result.andThen_ok]
      cases d <;> first | rfl | exact absurd rfl (hu _)
    · cases h
  · cases h
theorem pAdd_some (A : Option Addr) (j : Nat) (h : A.isSome = true) : ∃ a, A = some a ∧ pAdd A j = some (a.add j) := by
  cases A with
  | none => cases h
  | some a => exact ⟨a, rfl, rfl⟩
theorem run_asInt {k : IntKind} {n : Int} : (asIntOf (.int k n)).run P w = .ok (k, n) w := rfl
theorem run_indexAt_slice {e : TypeId} {A : Option Addr} {a : Addr} {len cap : Nat} {k : IntKind} {i : Int} (hu : P.underlying t = some (.slice e)) (hs : sz P e = 1) (hA : A = some a) (h0 : 0 ≤ i) (h1 : i < (len : Int)) :
    (Instr.indexAt t (.slice A len cap) (.int k i)).run P w = .ok (.pointer (some (a.add i.toNat))) w := by
  subst hA
  unfold Instr.indexAt
  simp [Sem.run_bind, run_asInt, run_underlying hu, run_sizeOf hs (by omega), h0, h1]
theorem run_indexAt_array {e : TypeId} {n : Nat} {a : Addr} {k : IntKind} {i : Int} (hu : P.underlying t = some (.array n e)) (hs : sz P e = 1) (h0 : 0 ≤ i) (h1 : i < (n : Int)) :
    (Instr.indexAt t (.pointer (some a)) (.int k i)).run P w = .ok (.pointer (some (a.add i.toNat))) w := by
  unfold Instr.indexAt
  simp [Sem.run_bind, run_asInt, run_underlying hu, Instr.sureAddr, run_sizeOf hs (by omega), h0, h1]
theorem own_form (hS : Sat w0 ow γ hp w) {k : Nat} {e : TypeId} {ct : Cont} (hr : hp[k]? = some (.own e ct)) (hl : 0 < ct.len) : ∃ g cap, nmS γ k = .slice (some ⟨g, 0, none⟩) ct.len cap := by
  obtain ⟨g, cap, h⟩ := (hS.own hr).2.shape (by rw [Cont.len_vals]; exact hl)
  rw [Cont.len_vals] at h
  exact ⟨g, cap, h⟩
theorem idxS_sound {a b : Sv} (hS : Sat w0 ow γ hp w) (h : idxS P t hp a b = some (c, v, hp')) (hc : c) : hp' = hp ∧ (Instr.indexAt t (a.val γ) (b.val γ)).run P w = .ok (v.val γ) w := by
  unfold idxS at h
  split at h
  · rename_i b k i
    split at h
    · rename_i e hu
      split at h
      · simp only [Option.some.injEq, Prod.mk.injEq] at h
        obtain ⟨rfl, rfl, rfl⟩ := h
        refine ⟨rfl, (run_indexAt_slice hu hc.2.2 rfl hc.1 hc.2.1).trans ?_⟩
        rw [add_plain]
        rfl
      · rename_i kk
        split at h
        · rename_i hr
          simp only [Option.some.injEq, Prod.mk.injEq] at h
          obtain ⟨rfl, rfl, rfl⟩ := h
          obtain ⟨g, cap, hg⟩ := own_form hS hr (by have := hc.1; have := hc.2.1; omega)
          refine ⟨rfl, ?_⟩
          show (Instr.indexAt t (nmS γ kk) (.int k i)).run P w = _
          rw [hg]
          refine (run_indexAt_slice hu hc.2.2 rfl hc.1 hc.2.1).trans ?_
          rw [add_plain]
          simp [Sv.val, Sc.val, At.val, hg]
        · cases h
      · rename_i kk ll mm
        split at h
        · rename_i hr
          simp only [Option.some.injEq, Prod.mk.injEq] at h
          obtain ⟨rfl, rfl, rfl⟩ := h
          obtain ⟨h1, h2, h3, h4⟩ := hc
          obtain ⟨g, cap, hg⟩ := own_form hS hr (by omega)
          obtain ⟨A, m, e1, e2, _⟩ := own_rd hS hr
          rw [hg] at e1
          cases e1
          refine ⟨rfl, ?_⟩
          have hne : ¬ cap = ll := by omega
          have e3 : (Sv.x (.a (.z kk ll mm))).val γ = .slice (some ⟨g, ll, none⟩) mm (cap - ll) := by simp [Sv.val, Sc.val, At.val, hg, pCut, hne, pAdd, add_plain]
          rw [e3]
          show (Instr.indexAt t _ (.int k i)).run P w = _
          refine (run_indexAt_slice hu h4 rfl h1 h2).trans ?_
          rw [add_plain]
          simp [Sv.val, Sc.val, At.val, hg]
        · cases h
      · simp only [Option.some.injEq, Prod.mk.injEq] at h
        obtain ⟨rfl, rfl, rfl⟩ := h
        obtain ⟨h1, h2, h3, h4⟩ := hc
        obtain ⟨a, ha, hp2⟩ := pAdd_some _ i.toNat h4
        refine ⟨rfl, (run_indexAt_slice hu h3 ha h1 h2).trans ?_⟩
        simp only [Sv.val, Sc.val, At.val]
        rw [hp2]
      · cases h
    · rename_i n e hu
      split at h
      · simp only [Option.some.injEq, Prod.mk.injEq] at h
        obtain ⟨rfl, rfl, rfl⟩ := h
        refine ⟨rfl, (run_indexAt_array hu hc.2.2 hc.1 hc.2.1).trans ?_⟩
        rw [add_plain]
        rfl
      · cases h
    · cases h
  · cases h
theorem run_part_flat {e : TypeId} {cs : Array Value} {i : Nat} {x : Value} (hf : flat (P.underlying e) = true) (hx : cs[i]? = some x) : (part e cs i).run P w = .ok x w := by
  simp [part, Sem.run_bind, flat_isAgg hf w, hx]
theorem run_index_arr {e : TypeId} {n : Nat} {cs : Array Value} {x : Value} {k : IntKind} {i : Int} (hu : P.underlying t = some (.array n e)) (hs : sz P e = 1) (hf : flat (P.underlying e) = true) (h0 : 0 ≤ i) (h1 : i < (n : Int)) (hx : cs[i.toNat]? = some x) :
    (Instr.index t (.agg cs) (.int k i)).run P w = .ok x w := by
  unfold Instr.index
  simp [Sem.run_bind, run_asInt, run_underlying hu, run_sizeOf hs (by omega), h0, h1, run_part_flat hf hx]
theorem indexS_sound {a b : Sv} (h : indexS P t hp a b = some (c, v, hp')) (hc : c) : hp' = hp ∧ (Instr.index t (a.val γ) (b.val γ)).run P w = .ok (v.val γ) w := by
  unfold indexS at h
  split at h
  · rename_i k i
    split at h
    · rename_i n e hu
      split at h
      · simp only [Option.some.injEq, Prod.mk.injEq] at h
        obtain ⟨rfl, rfl, rfl⟩ := h
        obtain ⟨h1, h2, h3, h4, h5⟩ := hc
        exact ⟨rfl, run_index_arr hu h4 h5 h1 h2 (arr8_get _ _ (by omega))⟩
      · simp only [Option.some.injEq, Prod.mk.injEq] at h
        obtain ⟨rfl, rfl, rfl⟩ := h
        obtain ⟨h1, h2, h3, h4, h5⟩ := hc
        exact ⟨rfl, run_index_arr hu h4 h5 h1 h2 (arr32_get _ _ (by omega))⟩
      · simp only [Option.some.injEq, Prod.mk.injEq] at h
        obtain ⟨rfl, rfl, rfl⟩ := h
        obtain ⟨h1, h2, h3, h4, h5⟩ := hc
        exact ⟨rfl, run_index_arr hu h4 h5 h1 h2 (arr64_get _ _ (by omega))⟩
      · cases h
    · rename_i hu
      split at h
      · rename_i s
        simp only [Option.some.injEq, Prod.mk.injEq] at h
        obtain ⟨rfl, rfl, rfl⟩ := h
        refine ⟨rfl, ?_⟩
        obtain ⟨h0, h1⟩ := hc
        have hlt : i.toNat < s.size := by omega
        have hg : s[i.toNat]? = some (sAt s i.toNat) := by
          have e : s[i.toNat]? = some s[i.toNat] := by simp [getElem?_pos, hlt]
          rw [e]
          have hl : i.toNat < s.data.toList.length := by simpa using hlt
          unfold sAt ix
          rw [List.getD_eq_getElem?_getD, List.getElem?_eq_getElem hl]
          rfl
        show (Instr.index t (.string s) (.int k i)).run P w = _
        unfold Instr.index
        simp only [Sem.run_bind, run_asInt, run_underlying hu, Result.andThen_ok, h0, if_true, hg]
        rfl
      · cases h
    · cases h
  · cases h
/-! ### x[lo:hi] -/
theorem bound_ok {k : IntKind} {i : Int} {y : Nat} {code : BoundsCode} (h0 : 0 ≤ i) (h1 : i ≤ (y : Int)) : (Instr.sliceBound (.int k i) y code).run P w = .ok i.toNat w := by
  unfold Instr.sliceBound
  simp [Sem.run_bind, run_asInt, h0, h1]
theorem bnds_sound {s : S} {ρ : Operand → Value} {lo hi : Option Operand} {len cap : Nat} {isS : Bool} {l m : Int} (hev : ∀ x sv, Fr.ev s.fr x = some sv → ρ x = sv.val γ)
    (h : bnds (Fr.ev s.fr) len lo hi = some (l, m)) (h0 : 0 ≤ l) (h1 : l ≤ m) (h2 : m ≤ (cap : Int)) : (Instr.sliceBounds isS len cap (lo.map ρ) (hi.map ρ) none).run P w = .ok (l.toNat, m.toNat, cap) w := by
  unfold bnds at h
  split at h
  · rename_i l' m' hl hm
    simp only [Option.some.injEq, Prod.mk.injEq] at h
    obtain ⟨rfl, rfl⟩ := h
    have eh : (hi = none ∧ m' = len) ∨ ∃ o k, hi = some o ∧ ρ o = .int k m' := by
      cases hi with
      | none => simp only [Option.some.injEq] at hm; exact .inl ⟨rfl, hm.symm⟩
      | some o =>
        simp only at hm
        split at hm
        · rename_i he
          simp only [Option.some.injEq] at hm
          subst hm
          exact .inr ⟨o, _, rfl, hev _ _ he⟩
        · cases hm
    have el : (lo = none ∧ l' = 0) ∨ ∃ o k, lo = some o ∧ ρ o = .int k l' := by
      cases lo with
      | none => simp only [Option.some.injEq] at hl; exact .inl ⟨rfl, hl.symm⟩
      | some o =>
        simp only at hl
        split at hl
        · rename_i he
          simp only [Option.some.injEq] at hl
          subst hl
          exact .inr ⟨o, _, rfl, hev _ _ he⟩
        · cases hl
    have b1 : ∀ k, (Instr.sliceBound (.int k m') cap (if isS = true then .sliceAcap else .sliceAlen)).run P w = .ok m'.toNat w := fun k => bound_ok (by omega) h2
    have b2 : ∀ k, (Instr.sliceBound (.int k l') m'.toNat .sliceB).run P w = .ok l'.toNat w := fun k => bound_ok h0 (by omega)
    clear hl hm hev
    unfold Instr.sliceBounds
    rcases eh with ⟨rfl, rfl⟩ | ⟨o, k, rfl, e1⟩
    · rcases el with ⟨rfl, rfl⟩ | ⟨o2, k2, rfl, e2⟩
      · rfl
      · have := b2 k2
        simp only [Int.toNat_natCast] at this
        simp [Sem.run_bind, e2, this]
    · rcases el with ⟨rfl, rfl⟩ | ⟨o2, k2, rfl, e2⟩
      · simp [Sem.run_bind, e1, b1]
      · simp [Sem.run_bind, e1, e2, b1, b2]
  · cases h
end
end Go.Proofs.YtkchdhkpjnnliaaDoor
