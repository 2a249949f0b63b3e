/- The engine: memory that is made: variables, literals, append. No program in sight. -/
import Derived.Test.YtkchdhkpjnnliaaDoorE9
namespace Go.Proofs.YtkchdhkpjnnliaaDoor
open Go.RowKit
set_option linter.unusedSimpArgs false
section
variable {P : Program} {w0 w : World} {ow : Nat → Prop} {γ : List Nm} {hp hp' : List Res} {c : Prop} {v : Sv} {t : TypeId}
theorem nmB_last {n : Nat} (hl : γ.length = n) (g : Nat) : nmB (γ ++ [.b g]) n = g := by subst hl; simp [nmB]
theorem nmS_last {n : Nat} (hl : γ.length = n) (x : Value) : nmS (γ ++ [.s x]) n = x := by subst hl; simp [nmS]
theorem get_last {n : Nat} (hl : γ.length = n) (x : Nm) : (γ ++ [x])[n]? = some x := by subst hl; simp
/-- A block made anew. -/
theorem Sat.made (hS : Sat w0 ow γ hp w) (hb : ∀ r ∈ hp, Res.bnd hp.length r) {k : Cont} {e : TypeId} (hk : k.bnd hp.length) {cs : Array Value} (hcs : cs.toList = k.vals γ) :
    Sat w0 ow (γ ++ [.b w.heap.size]) (hp ++ [.blk e k]) (w.alloc (.cells cs e)) := by
  have hl := hS.len
  refine hS.push (X := fun _ => False) (Keeps.of_below (own := fun _ => False) ((Below.refl _ _).alloc (Nat.le_refl _) _)) (fun b h => h.elim) hb ?_ ?_
  · have e1 : k.vals (γ ++ [.b w.heap.size]) = k.vals γ := Cont.ext (by rw [hl]; exact hk)
    refine ⟨by rw [get_last hl, nmB_last hl], ?_⟩
    rw [nmB_last hl, e1, ← hcs]
    exact Blk.new _ _ _
  · intro b hb2
    simp only [Res.block, nmB_last hl, Option.some.injEq] at hb2
    subst hb2
    exact ⟨.inr (Nat.le_refl _), by simp⟩
theorem run_newVar (e : TypeId) (x : Value) : (newVar e x).run P w = .ok ⟨w.heap.size, 0, none⟩ (w.alloc (.cells x.cells e)) := by
  rfl
theorem cells_one {x : Value} (h : scalar x) : x.cells = #[x] := by cases x <;> first | rfl | exact h.elim
theorem At.scalar_val {x : At} (hS : Sat w0 ow γ hp w) (h : x.scalar hp) : Go.Proofs.YtkchdhkpjnnliaaDoor.scalar (x.val γ) := by
  cases x with
  | v x => exact h
  | p k o => trivial
  | s k o l c => trivial
  | o k => obtain ⟨A, n, m, e⟩ := own_slice hS h; simp only [At.val, e]; trivial
  | q k i => exact h.elim
  | z k l m => obtain ⟨A, n, m', e⟩ := own_slice hS h; simp only [At.val, e]; trivial
theorem Sc.cont_cells {s : Sc} (hS : Sat w0 ow γ hp w) (h : (s.cont hp).1) : (s.val γ).cells.toList = (s.cont hp).2.vals γ := by
  cases s with
  | a x =>
    have := cells_one (At.scalar_val hS h)
    simp only [Sc.val, Sc.cont, Cont.vals, this]
    rfl
  | a8 l => simp [Sc.val, Sc.cont, Cont.vals, Value.cells, arr8]
  | a32 l => simp [Sc.val, Sc.cont, Cont.vals, Value.cells, arr32]
  | a64 l => simp [Sc.val, Sc.cont, Cont.vals, Value.cells, arr64]
  | g l => simp [Sc.val, Sc.cont, Cont.vals, Value.cells]
theorem Sc.cont_bnd {s : Sc} {n : Nat} (h : s.bnd n) : (s.cont hp).2.bnd n := by
  cases s <;> simp_all [Sc.cont, Sc.bnd, Cont.bnd]
theorem zeroCont_bnd {k : Cont} {n : Nat} (h : zeroCont P t = some k) : k.bnd n := by
  unfold zeroCont at h
  split at h <;> first | (simp at h; done) | (split at h <;> first | (simp at h; done) | (simp only [Option.some.injEq] at h; subst h; simp [Cont.bnd, At.bnd])) | (simp only [Option.some.injEq] at h; subst h; simp [Cont.bnd, At.bnd])
theorem run_zero {k : Cont} (h : ZOk P t k) : ∃ z, (zeroValue t).run P w = .ok z w ∧ ∀ γ, z.cells.toList = k.vals γ := by
  obtain ⟨z, h1, h2⟩ := h
  refine ⟨z, ?_, h2⟩
  cases hi : P.info? t with
  | none => simp [hi] at h1
  | some i =>
    have : i.zero = some z := by simpa [hi] using h1
    simp [zeroValue, typeInfo, hi, this]
/-! ### literals -/
theorem cont8_vals : ∀ {l : List At} {c : Prop} {m : List UInt8}, cont8 l = some (c, m) → c → m.map vU8 = l.map (At.val γ)
  | [], c, m, h, _ => by simp only [cont8, Option.some.injEq, Prod.mk.injEq] at h; obtain ⟨_, rfl⟩ := h; rfl
  | x :: r, c, m, h, hc => by
    unfold cont8 at h
    split at h
    · simp at *
    · rename_i heq
      obtain ⟨rfl, rfl⟩ := List.cons.inj heq
      split at h
      · rename_i hr
        simp only [Option.some.injEq, Prod.mk.injEq] at h
        obtain ⟨rfl, rfl⟩ := h
        simp only [List.map_cons, cont8_vals hr hc.2, vU8, toU8_val hc.1, At.val]
      · simp at h
    · simp at h
theorem cont32_vals : ∀ {l : List At} {c : Prop} {m : List UInt32}, cont32 l = some (c, m) → c → m.map vU32 = l.map (At.val γ)
  | [], c, m, h, _ => by simp only [cont32, Option.some.injEq, Prod.mk.injEq] at h; obtain ⟨_, rfl⟩ := h; rfl
  | x :: r, c, m, h, hc => by
    unfold cont32 at h
    split at h
    · simp at *
    · rename_i heq
      obtain ⟨rfl, rfl⟩ := List.cons.inj heq
      split at h
      · rename_i hr
        simp only [Option.some.injEq, Prod.mk.injEq] at h
        obtain ⟨rfl, rfl⟩ := h
        simp only [List.map_cons, cont32_vals hr hc.2, vU32, toU32_val hc.1, At.val]
      · simp at h
    · simp at h
theorem cont64_vals : ∀ {l : List At} {c : Prop} {m : List UInt64}, cont64 l = some (c, m) → c → m.map vU64 = l.map (At.val γ)
  | [], c, m, h, _ => by simp only [cont64, Option.some.injEq, Prod.mk.injEq] at h; obtain ⟨_, rfl⟩ := h; rfl
  | x :: r, c, m, h, hc => by
    unfold cont64 at h
    split at h
    · simp at *
    · rename_i heq
      obtain ⟨rfl, rfl⟩ := List.cons.inj heq
      split at h
      · rename_i hr
        simp only [Option.some.injEq, Prod.mk.injEq] at h
        obtain ⟨rfl, rfl⟩ := h
        simp only [List.map_cons, cont64_vals hr hc.2, vU64, toU64_val hc.1, At.val]
      · simp at h
    · simp at h
theorem contI_vals : ∀ {l : List At} {m : List Int}, contI l = some m → m.map (Value.int .i64) = l.map (At.val γ)
  | [], m, h => by simp only [contI, Option.some.injEq] at h; subst h; rfl
  | x :: r, m, h => by
    unfold contI at h
    split at h
    · simp at *
    · rename_i heq
      obtain ⟨rfl, rfl⟩ := List.cons.inj heq
      split at h
      · rename_i hr
        simp only [Option.some.injEq] at h
        subst h
        simp only [List.map_cons, contI_vals hr, At.val]
      · simp at h
    · simp at h
/-- What a literal holds: each of its values takes one cell. -/
theorem contOf_vals {d : Option TypeDesc} {l : List At} {k : Cont} (hS : Sat w0 ow γ hp w) (h : contOf hp d l = some (c, k)) (hc : c) : k.vals γ = l.map (At.val γ) ∧ ∀ u ∈ k.vals γ, u.cells = #[u] := by
  unfold contOf at h
  split at h
  · split at h
    · rename_i hr
      simp only [Option.some.injEq, Prod.mk.injEq] at h
      obtain ⟨rfl, rfl⟩ := h
      exact ⟨cont8_vals hr hc, by simp [Cont.vals, Value.cells]⟩
    · simp at h
  · split at h
    · rename_i hr
      simp only [Option.some.injEq, Prod.mk.injEq] at h
      obtain ⟨rfl, rfl⟩ := h
      exact ⟨cont32_vals hr hc, by simp [Cont.vals, Value.cells]⟩
    · simp at h
  · split at h
    · rename_i hr
      simp only [Option.some.injEq, Prod.mk.injEq] at h
      obtain ⟨rfl, rfl⟩ := h
      exact ⟨cont64_vals hr hc, by simp [Cont.vals, Value.cells]⟩
    · simp at h
  · split at h
    · rename_i hr
      simp only [Option.some.injEq, Prod.mk.injEq] at h
      obtain ⟨rfl, rfl⟩ := h
      exact ⟨contI_vals hr, by simp [Cont.vals, Value.cells]⟩
    · simp at h
  · simp only [Option.some.injEq, Prod.mk.injEq] at h
    obtain ⟨rfl, rfl⟩ := h
    refine ⟨rfl, fun u hu => ?_⟩
    simp only [Cont.vals, List.mem_map] at hu
    obtain ⟨x, hx, rfl⟩ := hu
    exact cells_one (At.scalar_val hS (hc x hx))
theorem contOf_bnd {d : Option TypeDesc} {l : List At} {k : Cont} {n : Nat} (h : contOf hp d l = some (c, k)) (hb : ∀ x ∈ l, x.bnd n) : k.bnd n := by
  unfold contOf at h
  split at h <;> first | (split at h <;> first | (simp at h; done) | (simp only [Option.some.injEq, Prod.mk.injEq] at h; obtain ⟨_, rfl⟩ := h; trivial)) | (simp only [Option.some.injEq, Prod.mk.injEq] at h; obtain ⟨_, rfl⟩ := h; exact hb)
theorem parts_spec {ev : Operand → Option Sv} {ρ : Operand → Value} {n : Nat} (hev : ∀ x sv, ev x = some sv → ρ x = sv.val γ) (hbn : ∀ x sv, ev x = some sv → sv.bnd n) : ∀ (ps : List (Nat × Operand)) (k : Nat) (l : List At), parts ev k ps = some l →
    ps.map (fun p => (p.1, ρ p.2)) = ((l.map (At.val γ)).zipIdx k).map (fun p => (p.2, p.1)) ∧ ∀ x ∈ l, At.bnd n x
  | [], k, l, h => by simp only [parts, Option.some.injEq] at h; subst h; simp
  | (i, x) :: r, k, l, h => by
    unfold parts at h
    split at h
    · rename_i hi
      subst hi
      split at h
      · rename_i y hy
        split at h
        · rename_i l' hr
          simp only [Option.some.injEq] at h
          subst h
          obtain ⟨h1, h2⟩ := parts_spec hev hbn r (i + 1) l' hr
          refine ⟨?_, ?_⟩
          · simp only [List.map_cons, List.zipIdx_cons, h1, hev x _ hy]
            rfl
          · intro z hz
            rcases List.mem_cons.1 hz with rfl | hz
            · exact hbn x _ hy
            · exact h2 z hz
        · simp at h
      · simp at h
    · simp at h
end
end Go.Proofs.YtkchdhkpjnnliaaDoor
