/- What opens law 25's arguments: what is asked for. -/
import Derived.Test.YteiifdpikcnbgaaDoorCb0
namespace Go.Proofs.YteiifdpikcnbgaaDoor
open Go.ChangeShapes Go.WideShapes Go.ChangeAt Go.WideMaps Go.WideElems Go.RowKit
section
variable {H : Type} {enc : TypeId × Value → H} {W : World}
set_option maxRecDepth 100000 in
theorem key2d : ArrKey Tryd.prog 66 23 2 := ⟨Tryd.underlying66, by kernel_rfl, by kernel_rfl, by kernel_rfl⟩
set_option maxRecDepth 100000 in
theorem openAsk25 {v : Value} {d : DataW H} {ps : List MemPlace} {r : Reach} {b : Nat} (hv : Value.okWide Tryd.prog W r b 68 v) (h : DataW.Trod enc Tryd.prog W 0 (fun _ => true) true 68 v d ps) :
    ∃ (me gen : Int) (self key : UInt64) (AF : Option Addr) (cF : Nat) (of : List UInt64) (AN : Option Addr) (cN : Nat) (an : List UInt64) (need : Int) (k2 : UInt64) (from_ : Pr) (t0 t1 : UInt64),
      v = (Sv.x (.g [.v (.int .i64 me), .v (.int .i64 gen), .v (vU64 self), .v (vU64 key), .v (.slice AF of.length cF), .v (.slice AN an.length cN), .v (.int .i64 need), .v (vU64 k2), .v (.int .i64 from_.1), .v (vU64 from_.2), .v (vU64 t0), .v (vU64 t1)])).val [] ∧
      of.length ≤ cF ∧ RdV W W.heap.size AF (of.map vU64) ∧ an.length ≤ cN ∧ RdV W W.heap.size AN (an.map vU64) := by
  obtain ⟨⟨me, gen, ⟨self, key, ⟨AF, cF, of⟩, ⟨AN, cN, an⟩, _⟩, need, k2, ⟨id, pu, _⟩, two, _⟩, h1, _, _, hL, _, _, _, hT, _⟩ := (Opn.struct (m := 12) Tryd.underlying68 (by kernel_rfl)
    (OpnF.cons (k := 1) rfl (by kernel_rfl) (Opn.i64 Tryd.underlying3) (OpnF.cons (k := 1) rfl (by kernel_rfl) (Opn.i64 Tryd.underlying3)
    (OpnF.cons (k := 4) rfl (by kernel_rfl) (Opn.struct (m := 4) Tryd.underlying64 (by kernel_rfl) (OpnF.cons (k := 1) rfl (by kernel_rfl) (Opn.u64 Tryd.underlying23) (OpnF.cons (k := 1) rfl (by kernel_rfl) (Opn.u64 Tryd.underlying23)
      (OpnF.cons (k := 1) rfl (by kernel_rfl) (Opn.ones Tryd.underlying62 (by kernel_rfl) (Opn.u64 Tryd.underlying23)) (OpnF.cons (k := 1) rfl (by kernel_rfl) (Opn.ones Tryd.underlying62 (by kernel_rfl) (Opn.u64 Tryd.underlying23)) OpnF.nil)))))
    (OpnF.cons (k := 1) rfl (by kernel_rfl) (Opn.i64 Tryd.underlying3) (OpnF.cons (k := 1) rfl (by kernel_rfl) (Opn.u64 Tryd.underlying23)
    (OpnF.cons (k := 2) rfl (by kernel_rfl) opnPeer10 (OpnF.cons (k := 2) rfl (by kernel_rfl) (Opn.arr64 key2d Tryd.underlying23) OpnF.nil)))))))).useS Tryd.underlying68 hv h
  obtain ⟨t0, t1, rfl⟩ : ∃ t0 t1, two = [t0, t1] := by
    match two, hT with
    | [a, b], _ => exact ⟨a, b, rfl⟩
  obtain ⟨_, _, hF, hN, _⟩ := hL
  exact ⟨me, gen, self, key, AF, cF, of, AN, cN, an, need, k2, (id, pu), t0, t1, h1, hF.1, hF.2.2.1, hN.1, hN.2.2.1⟩
end
end Go.Proofs.YteiifdpikcnbgaaDoor
