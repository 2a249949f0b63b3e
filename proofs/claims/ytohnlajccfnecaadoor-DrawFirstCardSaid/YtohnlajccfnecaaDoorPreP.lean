/- What opens the arguments of law 7's claims: two ints, two bytes. -/
import Derived.Test.YtohnlajccfnecaaDoorPreU
namespace Go.Proofs.YtohnlajccfnecaaDoor
open Go.ChangeShapes Go.WideShapes Go.ChangeAt Go.WideMaps Go.WideElems Go.RowKit
section
variable {H : Type} {enc : TypeId × Value → H} {W : World}
set_option maxRecDepth 100000 in
theorem keyI3 : ArrKey Tryd.prog 48 3 3 := ⟨Tryd.underlying48, by kernel_rfl, by kernel_rfl, by kernel_rfl⟩
set_option maxRecDepth 100000 in
theorem openI3 {v : Value} {d : DataW H} {ps : List MemPlace} {r : Reach} {b : Nat} (hv : Value.okWide Tryd.prog W r b 48 v) (h : DataW.Trod enc Tryd.prog W 0 (fun _ => true) true 48 v d ps) : ∃ x y z : Int, v = .agg #[.int .i64 x, .int .i64 y, .int .i64 z] := by
  obtain ⟨xs, rfl, hx⟩ := okWide_arr keyI3 hv
  obtain ⟨fuel, hf⟩ := h
  obtain ⟨zs, h1, _, h3, h4⟩ := arr_ints keyI3 Tryd.underlying3 hf
  match zs, (show zs.length = 3 by omega) with
  | [x, y, z], _ =>
    refine ⟨x, y, z, ?_⟩
    have h1 : xs.toList = [.int .i64 x, .int .i64 y, .int .i64 z] := h1
    congr 1
    exact Array.ext' h1
set_option maxRecDepth 100000 in
theorem key2b : ArrKey Tryd.prog 62 5 2 := ⟨Tryd.underlying62, by kernel_rfl, by kernel_rfl, by kernel_rfl⟩
set_option maxRecDepth 100000 in
theorem openB2 {v : Value} {d : DataW H} {ps : List MemPlace} {r : Reach} {b : Nat} (hv : Value.okWide Tryd.prog W r b 62 v) (h : DataW.Trod enc Tryd.prog W 0 (fun _ => true) true 62 v d ps) : ∃ x y : UInt8, v = .agg (arr8 [x, y]) := by
  obtain ⟨l, h1, h2⟩ := openA8 key2b hv h
  match l, h2 with
  | [x, y], _ => exact ⟨x, y, h1⟩
end
end Go.Proofs.YtohnlajccfnecaaDoor
