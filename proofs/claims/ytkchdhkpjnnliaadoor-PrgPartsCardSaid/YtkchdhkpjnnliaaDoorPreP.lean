/- What opens the arguments of law 7's claims: two ints, two bytes. -/
import Derived.Test.YtkchdhkpjnnliaaDoorPreU
namespace Go.Proofs.YtkchdhkpjnnliaaDoor
open Go.ChangeShapes Go.WideShapes Go.ChangeAt Go.WideMaps Go.WideElems Go.RowKit
section
variable {H : Type} {enc : TypeId × Value → H} {W : World}
set_option maxRecDepth 100000 in
theorem key2i : ArrKey Tryd.prog 55 3 2 := ⟨Tryd.underlying55, by kernel_rfl, by kernel_rfl, by kernel_rfl⟩
set_option maxRecDepth 100000 in
theorem key2b : ArrKey Tryd.prog 68 5 2 := ⟨Tryd.underlying68, by kernel_rfl, by kernel_rfl, by kernel_rfl⟩
set_option maxRecDepth 100000 in
theorem openI2 {v : Value} {d : DataW H} {ps : List MemPlace} {r : Reach} {b : Nat} (hv : Value.okWide Tryd.prog W r b 55 v) (h : DataW.Trod enc Tryd.prog W 0 (fun _ => true) true 55 v d ps) : ∃ x y : Int, v = .agg #[.int .i64 x, .int .i64 y] := by
  obtain ⟨xs, rfl, hx⟩ := okWide_arr key2i hv
  obtain ⟨fuel, hf⟩ := h
  obtain ⟨zs, h1, _, h3, h4⟩ := arr_ints key2i Tryd.underlying3 hf
  match zs, (show zs.length = 2 by omega) with
  | [x, y], _ =>
    refine ⟨x, y, ?_⟩
    have h1 : xs.toList = [.int .i64 x, .int .i64 y] := h1
    congr 1
    exact Array.ext' h1
set_option maxRecDepth 100000 in
theorem openB2 {v : Value} {d : DataW H} {ps : List MemPlace} {r : Reach} {b : Nat} (hv : Value.okWide Tryd.prog W r b 68 v) (h : DataW.Trod enc Tryd.prog W 0 (fun _ => true) true 68 v d ps) : ∃ x y : UInt8, v = .agg (arr8 [x, y]) := by
  obtain ⟨l, h1, h2⟩ := openA8 key2b hv h
  match l, h2 with
  | [x, y], _ => exact ⟨x, y, h1⟩
end
end Go.Proofs.YtkchdhkpjnnliaaDoor
