/- The listed variables of the claims of law 24: the tables, and the handle of the type error; a world that has them. -/
import Derived.Test.YteiifdpikcnbgaaGreatDoorPre
import Derived.Test.YteiifdpikcnbgaaGreatDoorHnd
import Derived.Test.YteiifdpikcnbgaaGreatDoorDr1
import Derived.LaidHandle
namespace Go.Proofs.YteiifdpikcnbgaaGreatDoor
open Go.ChangeShapes Go.WideShapes Go.ChangeAt Go.RowKit
abbrev laidD4 : List (String × DataW Unit) := [("math/bits.deBruijn32tab", Rows.laid_math_bits_deBruijn32tab), ("math/bits.deBruijn64tab", Rows.laid_math_bits_deBruijn64tab), ("internal/strconv.uint64pow10", Rows.laid_internal_strconv_uint64pow10), ("caucus/sha.rounds", Rows.laid_caucus_sha_rounds)]
abbrev laidHD : List (String × DataW Unit) := [("math/bits.deBruijn32tab", Rows.laid_math_bits_deBruijn32tab), ("math/bits.deBruijn64tab", Rows.laid_math_bits_deBruijn64tab), ("internal/strconv.uint64pow10", Rows.laid_internal_strconv_uint64pow10), ("errors.errorType", Rows.laid_errors_errorType), ("caucus/sha.rounds", Rows.laid_caucus_sha_rounds)]
theorem et_global : Tryz.prog.globalNamed "errors.errorType" = some 0 := by kernel_rfl
theorem rtype_row : (Tryz.prog.cutTypes.find? (·.1 == "internal/reflectlite.rtype")).map (·.2) = some 155 := by kernel_rfl
theorem error_row : ((List.range Tryz.prog.types.size).filter fun t => Tryz.prog.rowNamed t [101, 114, 114, 111, 114]) = [36] := by kernel_rfl
theorem error_handle : typeHandle Tryz.prog 36 = .pointer (some ⟨5, 36, none⟩) := by kernel_rfl
theorem tab_of_vars {P : Program} {W : World} {name : String} {k : IntKind} {zs : List Int} {rest : List (String × DataW Unit)} {ps : List MemPlace} {g : Nat} {t e : TypeId} {n : Nat}
    (hg : P.globalNamed name = some g) (hty : (P.globals[g]?).map (·.type) = some t) (ht : P.underlying t = some (.array n e)) (he : P.underlying e = some (.int k)) (hce : P.cellsOf e = 1) (hct : P.cellsOf t = n)
    (h : DataW.LaidVars P W ((name, Lib.tabData k zs) :: rest) ps) : Lib.TabIs P W name k zs := by
  obtain ⟨g', t', cs, fuel, p, q, hg', ht', hvar, hd, _, _⟩ := h
  obtain rfl := Option.some.inj (hg.symm.trans hg')
  obtain rfl := Option.some.inj (hty.symm.trans ht')
  unfold Lib.TabIs
  rw [hvar, ← Lib.cells_of_tab ht he hce hct hd]
theorem pow_type : (Tryz.prog.globals[1]?).map (·.type) = some 197 := by kernel_rfl
theorem pow_data : (Rows.laid_internal_strconv_uint64pow10 : DataW Unit) = Lib.tabData .u64 Lib.pow10Tab := by kernel_rfl
theorem kt_data : (Rows.laid_caucus_sha_rounds : DataW Unit) = Lib.tabData .u32 (kt.map n32) := by kernel_rfl
theorem laidK_of_tab {W : World} (h : Lib.TabIs Tryz.prog W "caucus/sha.rounds" .u32 (kt.map n32)) : LaidK 4 W := by
  intro i hi
  have := h.cell rounds_global i (by rw [List.length_map]; exact hi)
  rw [this]
  simp [ix, List.getD_eq_getElem?_getD, List.getElem?_eq_getElem (show i < kt.length from hi), vU32]
theorem of_laidHD {W : World} (h : laidMetH Tryz.prog laidHD W) : LaidK 4 W ∧ Handle W ∧ TabW W := by
  have h' : laidMet Tryz.prog laidD4 W ∧ handlesMet Tryz.prog [("errors.errorType", Rows.laid_errors_errorType)] W := h
  obtain ⟨⟨ps, hv, _⟩, hh⟩ := h'
  obtain ⟨_, _, _, _, _, _, _, _, _, _, hv, _⟩ := hv
  obtain ⟨_, _, _, _, _, _, _, _, _, _, hv, _⟩ := hv
  have hv0 := hv
  rw [pow_data] at hv0
  obtain ⟨_, _, _, _, _, _, _, _, _, _, hv, _⟩ := hv
  rw [kt_data] at hv
  refine ⟨laidK_of_tab (tab_of_vars rounds_global rounds_type Tryz.underlying209 Tryz.underlying49 (by kernel_rfl) (by kernel_rfl) hv), ?_, tab_of_vars pow_global pow_type Tryz.underlying197 Tryz.underlying23 (by kernel_rfl) (by kernel_rfl) hv0⟩
  obtain ⟨name, u, ty, e1, e2, e3, e4, e5⟩ := hh _ (List.mem_singleton.2 rfl)
  have en : name = [101, 114, 114, 111, 114] := (Option.some.inj e1).symm
  subst en
  obtain rfl := Option.some.inj (rtype_row.symm.trans e2)
  have hm : ty ∈ (List.range Tryz.prog.types.size).filter fun t => Tryz.prog.rowNamed t [101, 114, 114, 111, 114] := List.mem_filter.2 ⟨List.mem_range.2 e3, e4⟩
  rw [error_row] at hm
  obtain rfl := List.mem_singleton.1 hm
  rw [error_handle] at e5
  unfold Handle
  simpa using World.var?_cell et_global e5 0
/-- A world that meets the condition. -/
noncomputable def worldHD (os : Os) : World :=
  let w0 := World.laidAll Tryz.prog os laidD4
  { w0 with heap := w0.heap.modify 0 fun
      | .cells _ t frozen => .cells #[.iface 155 (.agg #[.pointer (some ⟨5, 36, none⟩)])] t frozen
      | o => o }
theorem laidHD_start (os : Os) (args : Array Value) : laidMetH Tryz.prog laidHD ((worldHD os).forCall (fun _ _ => 0) ⟨#[], args, []⟩).memory :=
  laidMetH_of_parts (laidMet_of_run' 8 (by kernel_rfl) (by kernel_rfl)) (by kernel_rfl)
end Go.Proofs.YteiifdpikcnbgaaGreatDoor
