/- What opens ShamirTells's arguments. -/
import Derived.Test.YteiifdpikcnbgaaDoorPreE
import Derived.Test.YteiifdpikcnbgaaDoorSm1
namespace Go.Proofs.YteiifdpikcnbgaaDoor
open Go.ChangeShapes Go.WideShapes Go.ChangeAt Go.WideMaps Go.WideElems Go.RowKit
section
variable {H : Type} {enc : TypeId × Value → H} {W : World}
set_option maxRecDepth 100000 in
theorem opnShare04 : Opn enc Tryd.prog W 80 (fun p : UInt64 × UInt64 × Unit => [vU64 p.1] ++ ([vU64 p.2.1] ++ [])) (fun _ => True ∧ True ∧ True) :=
  Opn.struct (m := 2) Tryd.underlying80 (by kernel_rfl) (OpnF.cons (k := 1) rfl (by kernel_rfl) (Opn.u64 Tryd.underlying23) (OpnF.cons (k := 1) rfl (by kernel_rfl) (Opn.u64 Tryd.underlying23) OpnF.nil))
theorem shs_of (l : List (UInt64 × UInt64 × Unit)) : shs (l.map fun p => (p.1, p.2.1)) = l.flatMap fun p : UInt64 × UInt64 × Unit => [vU64 p.1] ++ ([vU64 p.2.1] ++ []) := by
  unfold shs
  rw [List.flatMap_map]
  rfl
set_option maxRecDepth 100000 in
theorem openShares04 {v : Value} {d : DataW H} {ps : List MemPlace} {r : Reach} {b : Nat} (hv : Value.okWide Tryd.prog W r b 89 v) (h : DataW.Trod enc Tryd.prog W 0 (fun _ => true) true 89 v d ps) :
    ∃ (A : Option Addr) (c : Nat) (l : List Sh), v = .slice A l.length c ∧ l.length ≤ c ∧ RdV W W.heap.size A (shs l) := by
  obtain ⟨⟨A, c, l⟩, h1, h2, _, h4, _⟩ := (Opn.slice (m := 2) Tryd.underlying89 (by kernel_rfl) (by omega) (fun _ => rfl) opnShare04).useL Tryd.underlying89 hv h
  exact ⟨A, c, l.map fun p => (p.1, p.2.1), by rw [List.length_map]; exact h1, by rw [List.length_map]; exact h2, by rw [shs_of]; exact h4⟩
set_option maxRecDepth 100000 in
theorem openAsk04 {v : Value} {d : DataW H} {ps : List MemPlace} {r : Reach} {b : Nat} (hv : Value.okWide Tryd.prog W r b 88 v) (h : DataW.Trod enc Tryd.prog W 0 (fun _ => true) true 88 v d ps) :
    ∃ (s : UInt64) (A3 : Option Addr) (c3 : Nat) (ch : List UInt64) (many need : Int), v = (Sv.x (.g [.v (vU64 s), .v (.slice A3 ch.length c3), .v (.int .i64 many), .v (.int .i64 need)])).val [] ∧ ch.length ≤ c3 ∧ RdV W W.heap.size A3 (ch.map vU64) := by
  obtain ⟨⟨s, ⟨A3, c3, ch⟩, many, need, _⟩, h1, _, hC, _⟩ := (Opn.struct (m := 4) Tryd.underlying88 (by kernel_rfl)
    (OpnF.cons (k := 1) rfl (by kernel_rfl) (Opn.u64 Tryd.underlying23) (OpnF.cons (k := 1) rfl (by kernel_rfl) (Opn.ones Tryd.underlying62 (by kernel_rfl) (Opn.u64 Tryd.underlying23))
    (OpnF.cons (k := 1) rfl (by kernel_rfl) (Opn.i64 Tryd.underlying3) (OpnF.cons (k := 1) rfl (by kernel_rfl) (Opn.i64 Tryd.underlying3) OpnF.nil))))).useS Tryd.underlying88 hv h
  exact ⟨s, A3, c3, ch, many, need, h1, hC.1, hC.2.2.1⟩
end
end Go.Proofs.YteiifdpikcnbgaaDoor
