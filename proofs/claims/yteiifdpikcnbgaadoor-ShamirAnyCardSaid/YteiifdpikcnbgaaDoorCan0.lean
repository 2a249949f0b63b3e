/- What opens ShamirAny's arguments. -/
import Derived.Test.YteiifdpikcnbgaaDoorPreE
import Derived.Test.YteiifdpikcnbgaaDoorSm1
namespace Go.Proofs.YteiifdpikcnbgaaDoor
open Go.ChangeShapes Go.WideShapes Go.ChangeAt Go.WideMaps Go.WideElems Go.RowKit
section
variable {H : Type} {enc : TypeId × Value → H} {W : World}
set_option maxRecDepth 100000 in
theorem key2s : ArrKey Tryd.prog 66 23 2 := ⟨Tryd.underlying66, by kernel_rfl, by kernel_rfl, by kernel_rfl⟩
theorem two_of {l : List UInt64} (h : l.length = 2) : ∃ a b, l = [a, b] := by
  match l, h with
  | [a, b], _ => exact ⟨a, b, rfl⟩
theorem opnTwo04 : Opn enc Tryd.prog W 66 shv (fun _ => True) := fun fuel cs x hx => by
  obtain ⟨l, h1, h2⟩ := Opn.arr64 key2s Tryd.underlying23 fuel cs x hx
  obtain ⟨a, b, rfl⟩ := two_of h2
  exact ⟨(a, b), h1, trivial⟩
set_option maxRecDepth 100000 in
theorem openTwo04 {v : Value} {d : DataW H} {ps : List MemPlace} {r : Reach} {b : Nat} (hv : Value.okWide Tryd.prog W r b 66 v) (h : DataW.Trod enc Tryd.prog W 0 (fun _ => true) true 66 v d ps) : ∃ s0 s1, v = .agg #[vU64 s0, vU64 s1] := by
  obtain ⟨l, h1, h2⟩ := (Opn.arr64 key2s Tryd.underlying23).useA key2s hv h
  obtain ⟨a, b, rfl⟩ := two_of h2
  exact ⟨a, b, h1⟩
set_option maxRecDepth 100000 in
theorem openChance04 {v : Value} {d : DataW H} {ps : List MemPlace} {r : Reach} {b : Nat} (hv : Value.okWide Tryd.prog W r b 106 v) (h : DataW.Trod enc Tryd.prog W 0 (fun _ => true) true 106 v d ps) :
    ∃ (A : Option Addr) (c : Nat) (l : List Sh), v = .slice A l.length c ∧ l.length ≤ c ∧ RdV W W.heap.size A (shs l) := by
  obtain ⟨⟨A, c, l⟩, h1, h2, _, h4, _⟩ := (Opn.slice (m := 2) Tryd.underlying106 (by kernel_rfl) (by omega) shv_len opnTwo04).useL Tryd.underlying106 hv h
  exact ⟨A, c, l, h1, h2, h4⟩
set_option maxRecDepth 100000 in
theorem openSkip04 {v : Value} {d : DataW H} {ps : List MemPlace} {r : Reach} {b : Nat} (hv : Value.okWide Tryd.prog W r b 107 v) (h : DataW.Trod enc Tryd.prog W 0 (fun _ => true) true 107 v d ps) :
    ∃ (A : Option Addr) (c : Nat) (l : List Bool), v = .slice A l.length c ∧ l.length ≤ c ∧ RdV W W.heap.size A (l.map Value.bool) := by
  obtain ⟨⟨A, c, l⟩, h1, h2, _, h4, _⟩ := (Opn.ones Tryd.underlying107 (by kernel_rfl) (Opn.bool Tryd.underlying4)).useL Tryd.underlying107 hv h
  exact ⟨A, c, l, h1, h2, h4⟩
end
end Go.Proofs.YteiifdpikcnbgaaDoor
