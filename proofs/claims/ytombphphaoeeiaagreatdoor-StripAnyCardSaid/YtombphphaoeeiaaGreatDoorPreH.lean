import Derived.Test.YtombphphaoeeiaaGreatDoorAs
import Derived.Test.YtombphphaoeeiaaGreatDoorBase
import Derived.Test.YtombphphaoeeiaaGreatDoorTy
import Derived.Test.YtombphphaoeeiaaGreatDoorPre
import Derived.LaidHandle
/- The handle of the type error, as errors.As asks for it; errors by their numbers. -/
namespace Go.Proofs.YtombphphaoeeiaaGreatDoor
open Go.RowKit Go.Extern.Stop Go.Stop Go.Extern
def Handle (w : World) : Prop := w.cell? ⟨0, 0, none⟩ = some (.iface 134 (.agg #[.pointer (some ⟨2, 39, none⟩)]))
theorem Handle.below {w w' : World} {B : Nat} (h : Handle w) (hb : Below B w w') (hB : w.heap.size ≤ B) : Handle w' := by
  have hlt : 0 < w.heap.size := block_lt_of_cell h
  exact (hb.cell (p := ⟨0, 0, none⟩) (Nat.lt_of_lt_of_le hlt hB)).trans h
theorem handle_sat {w0 : World} {hp : List Res} {γ : List Nm} {w : World} (h : Handle w0) (hS : Sat w0 No γ hp w) : Handle w := h.below (keeps_below hS.keeps) (Nat.le_refl _)
/-- The error of a number; nought: none. -/
def erV (n : Int) : Value := if n = 0 then .nilIface else .iface 63 (.int .i64 n)
theorem erV_ne {n : Int} (h : ¬ n = 0) : erV n = .iface 63 (.int .i64 n) := by unfold erV; rw [if_neg h]
end Go.Proofs.YtombphphaoeeiaaGreatDoor
/- The listed variables of the claims that ask for an error's number: the table, and the handle of the type error; a world that has both. -/
namespace Go.Proofs.YtombphphaoeeiaaGreatDoor
open Go.ChangeShapes Go.WideShapes Go.ChangeAt Go.RowKit
abbrev laidHR : List (String × DataW Unit) := [("errors.errorType", Rows.laid_errors_errorType), ("caucus/sha.rounds", Rows.laid_caucus_sha_rounds)]
theorem et_global : Tryz.prog.globalNamed "errors.errorType" = some 0 := by kernel_rfl
theorem rtype_row : (Tryz.prog.cutTypes.find? (·.1 == "internal/reflectlite.rtype")).map (·.2) = some 134 := by kernel_rfl
theorem error_row : ((List.range Tryz.prog.types.size).filter fun t => Tryz.prog.rowNamed t [101, 114, 114, 111, 114]) = [39] := by kernel_rfl
theorem error_handle : typeHandle Tryz.prog 39 = .pointer (some ⟨2, 39, none⟩) := by kernel_rfl
theorem of_laidHR {W : World} (h : laidMetH Tryz.prog laidHR W) : LaidK 1 W ∧ Handle W := by
  have h' : laidMet Tryz.prog [("caucus/sha.rounds", Rows.laid_caucus_sha_rounds)] W ∧ handlesMet Tryz.prog [("errors.errorType", Rows.laid_errors_errorType)] W := h
  refine ⟨laidK_of_met h'.1, ?_⟩
  obtain ⟨name, u, ty, e1, e2, e3, e4, e5⟩ := h'.2 _ (List.mem_singleton.2 rfl)
  have en : name = [101, 114, 114, 111, 114] := (Option.some.inj e1).symm
  subst en
  obtain rfl := Option.some.inj (rtype_row.symm.trans e2)
  have hm : ty ∈ (List.range Tryz.prog.types.size).filter fun t => Tryz.prog.rowNamed t [101, 114, 114, 111, 114] := List.mem_filter.2 ⟨List.mem_range.2 e3, e4⟩
  rw [error_row] at hm
  obtain rfl := List.mem_singleton.1 hm
  rw [error_handle] at e5
  unfold Handle
  simpa using World.var?_cell et_global e5 0
/-- A world that meets the condition. -/
noncomputable def worldHR (os : Os) : World :=
  let w0 := World.laidAll Tryz.prog os [("caucus/sha.rounds", Rows.laid_caucus_sha_rounds)]
  { w0 with heap := w0.heap.modify 0 fun
      | .cells _ t frozen => .cells #[.iface 134 (.agg #[.pointer (some ⟨2, 39, none⟩)])] t frozen
      | o => o }
theorem laidHR_start (os : Os) (args : Array Value) : laidMetH Tryz.prog laidHR ((worldHR os).forCall (fun _ _ => 0) ⟨#[], args, []⟩).memory :=
  laidMetH_of_parts (laidMet_of_run' 8 (by kernel_rfl) (by kernel_rfl)) (by kernel_rfl)
end Go.Proofs.YtombphphaoeeiaaGreatDoor
