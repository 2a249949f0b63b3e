/- The listed variables of the claims of law 33: the tables; and what opens its argument. -/
import Derived.Test.YtohnlajccfnecaaDoorPreD
import Derived.Test.YtohnlajccfnecaaDoorFtd
namespace Go.Proofs.YtohnlajccfnecaaDoor
open Go.ChangeShapes Go.WideShapes Go.ChangeAt Go.WideMaps Go.WideElems Go.RowKit
abbrev laidF3 : List (String × DataW Unit) := [("math/bits.deBruijn32tab", Rows.laid_math_bits_deBruijn32tab), ("math/bits.deBruijn64tab", Rows.laid_math_bits_deBruijn64tab), ("internal/strconv.uint64pow10", Rows.laid_internal_strconv_uint64pow10)]
theorem of_laidF {W : World} (h : laidMetH Tryd.prog laidF3 W) : TabW W := by
  rw [MakeChecks.laidMetH_plain _ _ _ (by kernel_rfl)] at h
  obtain ⟨ps, hv, _⟩ := h
  obtain ⟨_, _, _, _, _, _, _, _, _, _, hv, _⟩ := hv
  obtain ⟨_, _, _, _, _, _, _, _, _, _, hv, _⟩ := hv
  rw [pow_data] at hv
  exact tab_of_vars pow_global pow_type Tryd.underlying130 Tryd.underlying47 (by kernel_rfl) (by kernel_rfl) hv
theorem laidF_start (os : Os) (args : Array Value) : laidMetH Tryd.prog laidF3 ((World.laidAll Tryd.prog os laidF3).forCall (fun _ _ => 0) ⟨#[], args, []⟩).memory := by
  rw [MakeChecks.laidMetH_plain _ _ _ (by kernel_rfl)]
  exact laidMet_laidAll args (by kernel_rfl) (by kernel_rfl)
section
variable {H : Type} {enc : TypeId × Value → H} {W : World}
set_option maxRecDepth 100000 in
theorem opnAct : Opn enc Tryd.prog W 37 av (fun p => True ∧ (p.2.1.l.length ≤ p.2.1.c ∧ p.2.1.c ≤ maxLen ∧ RdV W W.heap.size p.2.1.A (p.2.1.l.map vI64) ∧ ∀ a ∈ p.2.1.l, -9223372036854775808 ≤ a ∧ a ≤ 9223372036854775807) ∧ (p.2.2.1.l.length ≤ p.2.2.1.c ∧ p.2.2.1.c ≤ maxLen ∧ RdV W W.heap.size p.2.2.1.A (p.2.2.1.l.map vU32) ∧ ∀ a ∈ p.2.2.1.l, True) ∧ (-9223372036854775808 ≤ p.2.2.2.1 ∧ p.2.2.2.1 ≤ 9223372036854775807) ∧ True) :=
  Opn.struct (m := 4) Tryd.underlying37 (by kernel_rfl)
    (OpnF.cons (k := 1) rfl (by kernel_rfl) (Opn.bool Tryd.underlying4) (OpnF.cons (k := 1) rfl (by kernel_rfl) (Opn.ones Tryd.underlying24 (by kernel_rfl) (Opn.i64 Tryd.underlying3))
      (OpnF.cons (k := 1) rfl (by kernel_rfl) (Opn.ones Tryd.underlying25 (by kernel_rfl) (Opn.u32 Tryd.underlying46)) (OpnF.cons (k := 1) rfl (by kernel_rfl) (Opn.i64 Tryd.underlying3) OpnF.nil))))
set_option maxRecDepth 100000 in
theorem openActs {v : Value} {d : DataW H} {ps : List MemPlace} {r : Reach} {b : Nat} (hv : Value.okWide Tryd.prog W r b 22 v) (h : DataW.Trod enc Tryd.prog W 0 (fun _ => true) true 22 v d ps) :
    ∃ (A : Option Addr) (c : Nat) (l : List Ac), v = .slice A l.length c ∧ RdV W W.heap.size A (avs l) ∧ ∀ p ∈ l, AcOk W p := by
  obtain ⟨s, rfl, _, _, h3, h4⟩ := (Opn.slice (f := av) (m := 4) Tryd.underlying22 (by kernel_rfl) (by decide) av_len opnAct).useL Tryd.underlying22 hv h
  exact ⟨s.A, s.c, s.l, rfl, h3, fun p hp => ⟨(h4 p hp).2.1.1, (h4 p hp).2.1.2.2.1, (h4 p hp).2.2.1.1, (h4 p hp).2.2.1.2.2.1⟩⟩
end
end Go.Proofs.YtohnlajccfnecaaDoor
