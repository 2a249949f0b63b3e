/- What opens EscrowJoins's arguments. -/
import Derived.Test.YteiifdpikcnbgaaGreatDoorPre
import Derived.Test.YteiifdpikcnbgaaGreatDoorOpn
import Derived.Test.YteiifdpikcnbgaaGreatDoorSvA
namespace Go.Proofs.YteiifdpikcnbgaaGreatDoor
open Go.ChangeShapes Go.WideShapes Go.ChangeAt Go.WideMaps Go.WideElems Go.RowKit
section
variable {H : Type} {enc : TypeId × Value → H} {W : World}
set_option maxRecDepth 100000 in
theorem key2j : ArrKey Tryz.prog 28 23 2 := ⟨Tryz.underlying28, by kernel_rfl, by kernel_rfl, by kernel_rfl⟩
set_option maxRecDepth 100000 in
theorem key3j : ArrKey Tryz.prog 24 5 3 := ⟨Tryz.underlying24, by kernel_rfl, by kernel_rfl, by kernel_rfl⟩
theorem two_ofJ {l : List UInt64} (h : l.length = 2) : ∃ a b, l = [a, b] := by
  match l, h with
  | [a, b], _ => exact ⟨a, b, rfl⟩
theorem three_ofJ {l : List UInt8} (h : l.length = 3) : ∃ a b c, l = [a, b, c] := by
  match l, h with
  | [a, b, c], _ => exact ⟨a, b, c, rfl⟩
theorem opnTwoJ : Opn enc Tryz.prog W 28 shv (fun _ => True) := fun fuel cs x hx => by
  obtain ⟨l, h1, h2⟩ := Opn.arr64 key2j Tryz.underlying23 fuel cs x hx
  obtain ⟨a, b, rfl⟩ := two_ofJ h2
  exact ⟨(a, b), h1, trivial⟩
set_option maxRecDepth 100000 in
theorem openLotsJ {v : Value} {d : DataW H} {ps : List MemPlace} {r : Reach} {b : Nat} (hv : Value.okWide Tryz.prog W r b 22 v) (h : DataW.Trod enc Tryz.prog W 0 (fun _ => true) true 22 v d ps) :
    ∃ (A : Option Addr) (c : Nat) (l : List Sh), v = .slice A l.length c ∧ l.length ≤ c ∧ RdV W W.heap.size A (shs l) := by
  obtain ⟨⟨A, c, l⟩, h1, h2, _, h4, _⟩ := (Opn.slice (m := 2) Tryz.underlying22 (by kernel_rfl) (by omega) shv_len opnTwoJ).useL Tryz.underlying22 hv h
  exact ⟨A, c, l, h1, h2, h4⟩
set_option maxRecDepth 100000 in
theorem openU64J {v : Value} {d : DataW H} {ps : List MemPlace} {r : Reach} {b : Nat} (hv : Value.okWide Tryz.prog W r b 23 v) (h : DataW.Trod enc Tryz.prog W 0 (fun _ => true) true 23 v d ps) : ∃ x : UInt64, v = vU64 x := by
  obtain ⟨n, rfl, _, _, hw⟩ := open_int Tryz.underlying23 hv h
  obtain ⟨l, h1, h2⟩ := u64s' [n] (fun z hz => by rw [List.mem_singleton.1 hz]; exact hw)
  match l, h2 with
  | [x], _ => exact ⟨x, by simpa using h1⟩
set_option maxRecDepth 100000 in
theorem openOfJ {v : Value} {d : DataW H} {ps : List MemPlace} {r : Reach} {b : Nat} (hv : Value.okWide Tryz.prog W r b 24 v) (h : DataW.Trod enc Tryz.prog W 0 (fun _ => true) true 24 v d ps) : ∃ x y z : UInt8, v = .agg #[vU8 x, vU8 y, vU8 z] := by
  obtain ⟨l, h1, h2⟩ := (Opn.arr8 key3j Tryz.underlying5).useA key3j hv h
  obtain ⟨x, y, z, rfl⟩ := three_ofJ h2
  exact ⟨x, y, z, h1⟩
end
end Go.Proofs.YteiifdpikcnbgaaGreatDoor
