import Derived.Test.YtiaeollemmkclaaDoorPre0
import Derived.Test.YtiaeollemmkclaaDoorHnd
import Derived.Test.YtiaeollemmkclaaDoorSc1
import Derived.LaidHandle
import Derived.LaidSub
import Derived.LaidLaws
/- The listed variables of law 40's claim: tables, the handle of the type error, the errors of strconv; a world that has them; and a wrap that hands the world's shape on. -/
namespace Go.Proofs.YtiaeollemmkclaaDoor
open Go.ChangeShapes Go.WideShapes Go.ChangeAt Go.RowKit
abbrev laidX : List (String × DataW Unit) := [("math/bits.deBruijn32tab", Rows.laid_math_bits_deBruijn32tab), ("math/bits.deBruijn64tab", Rows.laid_math_bits_deBruijn64tab), ("internal/strconv.uint64pow10", Rows.laid_internal_strconv_uint64pow10), ("unicode/utf8.acceptRanges", Rows.laid_unicode_utf8_acceptRanges), ("strconv.ErrRange", Rows.laid_strconv_ErrRange), ("strconv.ErrSyntax", Rows.laid_strconv_ErrSyntax), ("unicode/utf8.first", Rows.laid_unicode_utf8_first)]
abbrev laidHX : List (String × DataW Unit) := [("math/bits.deBruijn32tab", Rows.laid_math_bits_deBruijn32tab), ("math/bits.deBruijn64tab", Rows.laid_math_bits_deBruijn64tab), ("internal/strconv.uint64pow10", Rows.laid_internal_strconv_uint64pow10), ("unicode/utf8.acceptRanges", Rows.laid_unicode_utf8_acceptRanges), ("errors.errorType", Rows.laid_errors_errorType), ("strconv.ErrRange", Rows.laid_strconv_ErrRange), ("strconv.ErrSyntax", Rows.laid_strconv_ErrSyntax), ("unicode/utf8.first", Rows.laid_unicode_utf8_first)]
theorem et_global : Tryd.prog.globalNamed "errors.errorType" = some 0 := by kernel_rfl
theorem er_global : Tryd.prog.globalNamed "strconv.ErrRange" = some 2 := by kernel_rfl
theorem er_type : (Tryd.prog.globals[2]?).map (·.type) = some 41 := by kernel_rfl
theorem rtype_row : (Tryd.prog.cutTypes.find? (·.1 == "internal/reflectlite.rtype")).map (·.2) = some 229 := by kernel_rfl
theorem error_row : ((List.range Tryd.prog.types.size).filter fun t => Tryd.prog.rowNamed t [101, 114, 114, 111, 114]) = [41] := by kernel_rfl
theorem error_handle : typeHandle Tryd.prog 41 = .pointer (some ⟨9, 41, none⟩) := by kernel_rfl
theorem ml_shaped {W : World} (h : W.ShapedOpen Tryd.prog) : ∃ m : Int, W.cell? ⟨3, 0, none⟩ = some (.int .i64 m) :=
  cell_of_shapedOpen_int (t := 3) (zero := #[.int .i64 0]) h (of_decide_eq_true (by kernel_rfl)) (by kernel_rfl) rfl (by kernel_rfl) (by kernel_rfl) Tryd.underlying3
theorem of_laidHX {W : World} (h : laidMetH Tryd.prog laidHX W) (hs : W.ShapedOpen Tryd.prog) : Handle W ∧ Vars W := by
  have h' : laidMet Tryd.prog laidX W ∧ handlesMet Tryd.prog [("errors.errorType", Rows.laid_errors_errorType)] W := h
  obtain ⟨⟨ps, hv, _⟩, hh⟩ := h'
  obtain ⟨_, _, _, _, _, _, _, _, _, _, hv, _⟩ := hv
  obtain ⟨_, _, _, _, _, _, _, _, _, _, hv, _⟩ := hv
  obtain ⟨_, _, _, _, _, _, _, _, _, _, hv, _⟩ := hv
  obtain ⟨_, _, _, _, _, _, _, _, _, _, hv, _⟩ := hv
  obtain ⟨g, t, cs, fuel, p, q, hg, ht, hvar, hd, _, _⟩ := hv
  obtain rfl := Option.some.inj (er_global.symm.trans hg)
  obtain rfl := Option.some.inj (er_type.symm.trans ht)
  obtain ⟨_, u, v, hcs, _⟩ := iface_of_trod Tryd.underlying41 hd
  obtain rfl : cs = #[.iface u v] := Array.eq_one_of_toList hcs
  refine ⟨?_, ⟨.iface u v, by simpa using World.var?_cell er_global hvar 0, .inr ⟨u, v, rfl⟩⟩, ml_shaped hs⟩
  obtain ⟨name, u, ty, e1, e2, e3, e4, e5⟩ := hh _ (List.mem_singleton.2 rfl)
  have en : name = [101, 114, 114, 111, 114] := (Option.some.inj e1).symm
  subst en
  obtain rfl := Option.some.inj (rtype_row.symm.trans e2)
  have hm : ty ∈ (List.range Tryd.prog.types.size).filter fun t => Tryd.prog.rowNamed t [101, 114, 114, 111, 114] := List.mem_filter.2 ⟨List.mem_range.2 e3, e4⟩
  rw [error_row] at hm
  obtain rfl := List.mem_singleton.1 hm
  rw [error_handle] at e5
  unfold Handle
  simpa using World.var?_cell et_global e5 0
/-- A world that meets the condition. -/
noncomputable def worldHX (os : Os) : World :=
  let w0 := World.laidAll Tryd.prog os laidX
  { w0 with heap := w0.heap.modify 0 fun
      | .cells _ t frozen => .cells #[.iface 229 (.agg #[.pointer (some ⟨9, 41, none⟩)])] t frozen
      | o => o }
theorem laidHX_start (os : Os) (args : Array Value) : laidMetH Tryd.prog laidHX ((worldHX os).forCall (fun _ _ => 0) ⟨#[], args, []⟩).memory :=
  laidMetH_of_parts (laidMet_of_run' 8 (by kernel_rfl) (by kernel_rfl)) (by kernel_rfl)
end Go.Proofs.YtiaeollemmkclaaDoor
