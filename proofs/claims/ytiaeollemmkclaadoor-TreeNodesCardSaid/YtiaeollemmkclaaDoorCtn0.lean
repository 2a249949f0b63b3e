/- What opens who there is (layer 21's reference Conf), with how long its rows may be. -/
import Derived.Test.YtiaeollemmkclaaDoorOpw
import Derived.Test.YtiaeollemmkclaaDoorTs2
namespace Go.Proofs.YtiaeollemmkclaaDoor
open Go.ChangeShapes Go.WideShapes Go.ChangeAt Go.WideMaps Go.WideElems Go.RowKit
instance : Inhabited (Int × Int × Int × Unit) := ⟨(0, 0, 0, ())⟩
section
variable {H : Type} {enc : TypeId × Value → H} {W : World}
set_option maxRecDepth 100000 in
theorem opnPl : Opn enc Tryd.prog W 145 plV (fun _ => True) := fun fuel cs y h => by
  obtain ⟨⟨a, b, n, _⟩, h1, _⟩ := (Opn.struct (m := 3) Tryd.underlying145 (by kernel_rfl)
    (OpnF.cons (k := 1) rfl (by kernel_rfl) (Opn.i64 Tryd.underlying3) (OpnF.cons (k := 1) rfl (by kernel_rfl) (Opn.i64 Tryd.underlying3) (OpnF.cons (k := 1) rfl (by kernel_rfl) (Opn.i64 Tryd.underlying3) OpnF.nil)))) fuel cs y h
  exact ⟨⟨a, b, n⟩, h1, trivial⟩
theorem bytes_int : Tryd.prog.bytesOf 3 = 8 := by kernel_rfl
theorem bytes_pl : Tryd.prog.bytesOf 145 = 24 := by kernel_rfl
theorem bytes_gr : Tryd.prog.bytesOf 147 = 40 := by kernel_rfl
set_option maxRecDepth 100000 in
theorem opnGr : OpnW enc Tryd.prog W 147 grV (fun g : GrR => g.ids.l.length ≤ g.ids.c ∧ g.ids.l.length * 8 ≤ 140737488351232 ∧ RdV W W.heap.size g.ids.A (g.ids.l.map (Value.int .i64))) := fun fuel cs y h hw => by
  obtain ⟨⟨a, s, n, _⟩, h1, _, ⟨s1, s2, s3, _⟩, _⟩ := (OpnW.struct (m := 3) Tryd.underlying147 (by kernel_rfl)
    (OpnFW.cons (k := 1) rfl (by kernel_rfl) (Opn.i64 Tryd.underlying3).w (OpnFW.cons (k := 1) rfl (by kernel_rfl) (OpnW.ones Tryd.underlying69 (by kernel_rfl) (Opn.i64 Tryd.underlying3).w) (OpnFW.cons (k := 1) rfl (by kernel_rfl) (Opn.i64 Tryd.underlying3).w OpnFW.nil)))) fuel cs y h hw
  rw [bytes_int] at s2
  exact ⟨⟨a, ⟨s.A, s.c, s.l⟩, n⟩, h1, s1, s2, s3⟩
set_option maxRecDepth 100000 in
theorem opnCf : OpnW enc Tryd.prog W 61 cfV (fun c : CfR => c.Wide W) := fun fuel cs y h hw => by
  obtain ⟨⟨dim, ps, gs, least, term, _⟩, h1, _, ⟨p1, p2, p3, _⟩, ⟨g1, g2, g3, g4⟩, _⟩ := (OpnW.struct (m := 5) Tryd.underlying61 (by kernel_rfl)
    (OpnFW.cons (k := 1) rfl (by kernel_rfl) (Opn.i64 Tryd.underlying3).w (OpnFW.cons (k := 1) rfl (by kernel_rfl) (OpnW.slice (m := 3) Tryd.underlying58 (by kernel_rfl) (by omega) plV_len opnPl.w)
    (OpnFW.cons (k := 1) rfl (by kernel_rfl) (OpnW.slice (m := 3) Tryd.underlying59 (by kernel_rfl) (by omega) grV_len opnGr) (OpnFW.cons (k := 1) rfl (by kernel_rfl) (Opn.i64 Tryd.underlying3).w (OpnFW.cons (k := 1) rfl (by kernel_rfl) (Opn.i64 Tryd.underlying3).w OpnFW.nil)))))) fuel cs y h hw
  rw [bytes_pl] at p2
  rw [bytes_gr] at g2
  exact ⟨⟨dim, ⟨ps.A, ps.c, ps.l⟩, ⟨gs.A, gs.c, gs.l⟩, least, term⟩, h1, ⟨p1, p2, p3, g1, g2, g3, g4⟩⟩
set_option maxRecDepth 100000 in
theorem openCf {v : Value} {d : DataW H} {ps : List MemPlace} {r : Reach} {b : Nat} (hv : Value.okWide Tryd.prog W r b 61 v) (h : DataW.Trod enc Tryd.prog W 0 (fun _ => true) true 61 v d ps) (hw : ∀ n ∈ d.weights Tryd.prog 61, n ≤ reachBytes) :
    ∃ c : CfR, v = .agg (cfV c).toArray ∧ c.Wide W := opnCf.useS Tryd.underlying61 hv h hw
end
end Go.Proofs.YtiaeollemmkclaaDoor
