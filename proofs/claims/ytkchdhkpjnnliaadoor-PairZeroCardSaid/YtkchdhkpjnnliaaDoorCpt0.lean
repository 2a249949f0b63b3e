/- What opens law 9's arguments: peers, and who asks. -/
import Derived.Test.YtkchdhkpjnnliaaDoorOpn
namespace Go.Proofs.YtkchdhkpjnnliaaDoor
open Go.ChangeShapes Go.WideShapes Go.ChangeAt Go.WideMaps Go.WideElems Go.RowKit
section
variable {H : Type} {enc : TypeId × Value → H} {W : World}
set_option maxRecDepth 100000 in
theorem opnPeer : Opn enc Tryd.prog W 116 (fun p : Int × UInt64 × Unit => [.int .i64 p.1] ++ ([vU64 p.2.1] ++ [])) (fun p => (-9223372036854775808 ≤ p.1 ∧ p.1 ≤ 9223372036854775807) ∧ True ∧ True) :=
  Opn.struct (m := 2) Tryd.underlying116 (by kernel_rfl) (OpnF.cons (k := 1) rfl (by kernel_rfl) (Opn.i64 Tryd.underlying3) (OpnF.cons (k := 1) rfl (by kernel_rfl) (Opn.u64 Tryd.underlying22) OpnF.nil))
set_option maxRecDepth 100000 in
theorem openPeers {v : Value} {d : DataW H} {ps : List MemPlace} {r : Reach} {b : Nat} (hv : Value.okWide Tryd.prog W r b 75 v) (h : DataW.Trod enc Tryd.prog W 0 (fun _ => true) true 75 v d ps) :
    ∃ (A : Option Addr) (c : Nat) (l : List Pr), v = .slice A l.length c ∧ l.length ≤ c ∧ RdV W W.heap.size A (pvs l) := by
  obtain ⟨⟨A, c, l⟩, h1, h2, _, h4, _⟩ := (Opn.slice (m := 2) Tryd.underlying75 (by kernel_rfl) (by omega) (fun _ => rfl) opnPeer).useL Tryd.underlying75 hv h
  refine ⟨A, c, l.map fun p => (p.1, p.2.1), by rw [List.length_map]; exact h1, by rw [List.length_map]; exact h2, ?_⟩
  have e : pvs (l.map fun p => (p.1, p.2.1)) = l.flatMap fun p : Int × UInt64 × Unit => [.int .i64 p.1] ++ ([vU64 p.2.1] ++ []) := by
    unfold pvs
    rw [List.flatMap_map]
    rfl
  rw [e]
  exact h4
set_option maxRecDepth 100000 in
theorem openAsk09 {v : Value} {d : DataW H} {ps : List MemPlace} {r : Reach} {b : Nat} (hv : Value.okWide Tryd.prog W r b 74 v) (h : DataW.Trod enc Tryd.prog W 0 (fun _ => true) true 74 v d ps) :
    ∃ (me : Int) (key oth : UInt64) (dim : Int), v = (Sv.x (.g [.v (.int .i64 me), .v (vU64 key), .v (vU64 oth), .v (.int .i64 dim)])).val [] := by
  obtain ⟨⟨me, key, oth, dim, _⟩, h1, _⟩ := (Opn.struct (m := 4) Tryd.underlying74 (by kernel_rfl) (OpnF.cons (k := 1) rfl (by kernel_rfl) (Opn.i64 Tryd.underlying3) (OpnF.cons (k := 1) rfl (by kernel_rfl) (Opn.u64 Tryd.underlying22) (OpnF.cons (k := 1) rfl (by kernel_rfl) (Opn.u64 Tryd.underlying22) (OpnF.cons (k := 1) rfl (by kernel_rfl) (Opn.i64 Tryd.underlying3) OpnF.nil))))).useS Tryd.underlying74 hv h
  exact ⟨me, key, oth, dim, h1⟩
set_option maxRecDepth 100000 in
theorem openL64 {v : Value} {d : DataW H} {ps : List MemPlace} {r : Reach} {b : Nat} (hv : Value.okWide Tryd.prog W r b 91 v) (h : DataW.Trod enc Tryd.prog W 0 (fun _ => true) true 91 v d ps) :
    ∃ (A : Option Addr) (c : Nat) (l : List UInt64), v = .slice A l.length c ∧ l.length ≤ c ∧ RdV W W.heap.size A (l.map vU64) := by
  obtain ⟨⟨A, c, l⟩, h1, h2, _, h4, _⟩ := (Opn.ones Tryd.underlying91 (by kernel_rfl) (Opn.u64 Tryd.underlying22)).useL Tryd.underlying91 hv h
  exact ⟨A, c, l, h1, h2, h4⟩
set_option maxRecDepth 100000 in
theorem key4u : ArrKey Tryd.prog 85 22 4 := ⟨Tryd.underlying85, by kernel_rfl, by kernel_rfl, by kernel_rfl⟩
set_option maxRecDepth 100000 in
theorem openU4 {v : Value} {d : DataW H} {ps : List MemPlace} {r : Reach} {b : Nat} (hv : Value.okWide Tryd.prog W r b 85 v) (h : DataW.Trod enc Tryd.prog W 0 (fun _ => true) true 85 v d ps) : ∃ x y z u : UInt64, v = .agg (arr64 [x, y, z, u]) := by
  obtain ⟨l, h1, h2⟩ := (Opn.arr64 key4u Tryd.underlying22).useA key4u hv h
  match l, h2 with
  | [x, y, z, u], _ => exact ⟨x, y, z, u, h1⟩
end
end Go.Proofs.YtkchdhkpjnnliaaDoor
