/- The listed variables of the claims that ask for an error's number: the table, and the handle of the type error; a world that has both. -/
import Derived.Test.YteiifdpikcnbgaaDoorPre
import Derived.Test.YteiifdpikcnbgaaDoorHnd
import Derived.LaidHandle
namespace Go.Proofs.YteiifdpikcnbgaaDoor
open Go.ChangeShapes Go.WideShapes Go.ChangeAt Go.RowKit
abbrev laidHR : List (String × DataW Unit) := [("errors.errorType", Rows.laid_errors_errorType), ("caucus/sha.rounds", Rows.laid_caucus_sha_rounds)]
theorem et_global : Tryd.prog.globalNamed "errors.errorType" = some 0 := by kernel_rfl
theorem rtype_row : (Tryd.prog.cutTypes.find? (·.1 == "internal/reflectlite.rtype")).map (·.2) = some 184 := by kernel_rfl
theorem error_row : ((List.range Tryd.prog.types.size).filter fun t => Tryd.prog.rowNamed t [101, 114, 114, 111, 114]) = [31] := by kernel_rfl
theorem error_handle : typeHandle Tryd.prog 31 = .pointer (some ⟨5, 31, none⟩) := by kernel_rfl
theorem of_laidHR {W : World} (h : laidMetH Tryd.prog laidHR W) : LaidK 2 W ∧ Handle W := by
  have h' : laidMet Tryd.prog [("caucus/sha.rounds", Rows.laid_caucus_sha_rounds)] W ∧ handlesMet Tryd.prog [("errors.errorType", Rows.laid_errors_errorType)] W := h
  refine ⟨laidK_of_met h'.1, ?_⟩
  obtain ⟨name, u, ty, e1, e2, e3, e4, e5⟩ := h'.2 _ (List.mem_singleton.2 rfl)
  have en : name = [101, 114, 114, 111, 114] := (Option.some.inj e1).symm
  subst en
  obtain rfl := Option.some.inj (rtype_row.symm.trans e2)
  have hm : ty ∈ (List.range Tryd.prog.types.size).filter fun t => Tryd.prog.rowNamed t [101, 114, 114, 111, 114] := List.mem_filter.2 ⟨List.mem_range.2 e3, e4⟩
  rw [error_row] at hm
  obtain rfl := List.mem_singleton.1 hm
  rw [error_handle] at e5
  unfold Handle
  simpa using World.var?_cell et_global e5 0
/-- A world that meets the condition. -/
noncomputable def worldHR (os : Os) : World :=
  let w0 := World.laidAll Tryd.prog os [("caucus/sha.rounds", Rows.laid_caucus_sha_rounds)]
  { w0 with heap := w0.heap.modify 0 fun
      | .cells _ t frozen => .cells #[.iface 184 (.agg #[.pointer (some ⟨5, 31, none⟩)])] t frozen
      | o => o }
theorem laidHR_start (os : Os) (args : Array Value) : laidMetH Tryd.prog laidHR ((worldHR os).forCall (fun _ _ => 0) ⟨#[], args, []⟩).memory :=
  laidMetH_of_parts (laidMet_of_run' 8 (by kernel_rfl) (by kernel_rfl)) (by kernel_rfl)
end Go.Proofs.YteiifdpikcnbgaaDoor
