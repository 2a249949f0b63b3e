/- The listed variable of the claims that ask for an error's number and for no table: the handle of the type error; a world that has it. How long what came in may be. -/
import Derived.Test.YteiifdpikcnbgaaDoorPre
import Derived.Test.YteiifdpikcnbgaaDoorHnd
import Derived.Test.YteiifdpikcnbgaaDoorOpn
import Derived.LaidHandle
namespace Go.Proofs.YteiifdpikcnbgaaDoor
open Go.ChangeShapes Go.WideShapes Go.ChangeAt Go.RowKit
abbrev laidHE : List (String × DataW Unit) := [("errors.errorType", Rows.laid_errors_errorType)]
theorem et_globalE : Tryd.prog.globalNamed "errors.errorType" = some 0 := by kernel_rfl
theorem rtype_rowE : (Tryd.prog.cutTypes.find? (·.1 == "internal/reflectlite.rtype")).map (·.2) = some 184 := by kernel_rfl
theorem error_rowE : ((List.range Tryd.prog.types.size).filter fun t => Tryd.prog.rowNamed t [101, 114, 114, 111, 114]) = [31] := by kernel_rfl
theorem error_handleE : typeHandle Tryd.prog 31 = .pointer (some ⟨5, 31, none⟩) := by kernel_rfl
theorem of_laidHE {W : World} (h : laidMetH Tryd.prog laidHE W) : Handle W := by
  have h' : laidMet Tryd.prog [] W ∧ handlesMet Tryd.prog [("errors.errorType", Rows.laid_errors_errorType)] W := h
  obtain ⟨name, u, ty, e1, e2, e3, e4, e5⟩ := h'.2 _ (List.mem_singleton.2 rfl)
  have en : name = [101, 114, 114, 111, 114] := (Option.some.inj e1).symm
  subst en
  obtain rfl := Option.some.inj (rtype_rowE.symm.trans e2)
  have hm : ty ∈ (List.range Tryd.prog.types.size).filter fun t => Tryd.prog.rowNamed t [101, 114, 114, 111, 114] := List.mem_filter.2 ⟨List.mem_range.2 e3, e4⟩
  rw [error_rowE] at hm
  obtain rfl := List.mem_singleton.1 hm
  rw [error_handleE] at e5
  unfold Handle
  simpa using World.var?_cell et_globalE e5 0
/-- A world that meets the condition. -/
noncomputable def worldHE (os : Os) : World :=
  let w0 := World.laidAll Tryd.prog os []
  { w0 with heap := w0.heap.modify 0 fun
      | .cells _ t frozen => .cells #[.iface 184 (.agg #[.pointer (some ⟨5, 31, none⟩)])] t frozen
      | o => o }
theorem laidHE_start (os : Os) (args : Array Value) : laidMetH Tryd.prog laidHE ((worldHE os).forCall (fun _ _ => 0) ⟨#[], args, []⟩).memory :=
  laidMetH_of_parts (laidMet_of_run' 8 (by kernel_rfl) (by kernel_rfl)) (by kernel_rfl)
/-! ### How long -/
section
variable {H : Type} {enc : TypeId × Value → H} {W : World} {P : Program}
theorem len_weight {t e : TypeId} (ht : P.underlying t = some (.slice e)) (hb : 0 < P.bytesOf e) {v : Value} {d : DataW H} {ps : List MemPlace} (hx : DataW.Trod enc P W 0 (fun _ => true) true t v d ps) (hw : ∀ n ∈ d.weights P t, n ≤ reachBytes) {A : Option Addr} {n c : Nat} (hv : v = .slice A n c) : n ≤ reachBytes := by
  subst hv
  obtain ⟨fuel, hf⟩ := hx
  have hcs : (Value.slice A n c).cells.toList = [.slice A n c] := by simp [Value.cells]
  rcases DataW.trod_slice ht hf with ⟨h1, _⟩ | ⟨a, len, cap, elems, rest, k, _, h1, h2, _, _, _, hlen, _⟩
  · rw [hcs] at h1
    simp only [List.cons.injEq, Value.slice.injEq, and_true] at h1
    omega
  · rw [hcs] at h1
    simp only [List.cons.injEq, Value.slice.injEq, and_true] at h1
    have h2 : d = .slice (elems.map (·.1)) (rest.map (·.1)) := congrArg Prod.fst h2
    subst h2
    have := hw (((elems.map (·.1)).length + (rest.map (·.1)).length) * P.bytesOf e) (by unfold DataW.weights; rw [ht]; exact List.mem_cons_self ..)
    rw [List.length_map] at this
    have h3 : elems.length ≤ (elems.length + (rest.map (·.1)).length) * P.bytesOf e := Nat.le_trans (Nat.le_add_right _ _) (Nat.le_mul_of_pos_right _ hb)
    omega
theorem weight_cons {t : TypeId} {ts : List TypeId} {d : DataW H} {ds : List (DataW H)} (h : (DataW.weightsEach P (t :: ts) (d :: ds)).all (· ≤ reachBytes) = true) : (∀ n ∈ d.weights P t, n ≤ reachBytes) ∧ (DataW.weightsEach P ts ds).all (· ≤ reachBytes) = true := by
  unfold DataW.weightsEach at h
  rw [List.all_append, Bool.and_eq_true] at h
  refine ⟨fun n hn => ?_, h.2⟩
  have := List.all_eq_true.1 h.1 n hn
  simpa using this
end
end Go.Proofs.YteiifdpikcnbgaaDoor
