/- What opens law 10's arguments: peers, numbers of clients, and what is asked for. -/
import Derived.Test.YteiifdpikcnbgaaDoorOpn
import Derived.Test.YteiifdpikcnbgaaDoorSetA
namespace Go.Proofs.YteiifdpikcnbgaaDoor
open Go.ChangeShapes Go.WideShapes Go.ChangeAt Go.WideMaps Go.WideElems Go.RowKit
section
variable {H : Type} {enc : TypeId × Value → H} {W : World}
set_option maxRecDepth 100000 in
theorem opnPeer10 : Opn enc Tryd.prog W 65 (fun p : Int × UInt64 × Unit => [.int .i64 p.1] ++ ([vU64 p.2.1] ++ [])) (fun p => (-9223372036854775808 ≤ p.1 ∧ p.1 ≤ 9223372036854775807) ∧ True ∧ True) :=
  Opn.struct (m := 2) Tryd.underlying65 (by kernel_rfl) (OpnF.cons (k := 1) rfl (by kernel_rfl) (Opn.i64 Tryd.underlying3) (OpnF.cons (k := 1) rfl (by kernel_rfl) (Opn.u64 Tryd.underlying23) OpnF.nil))
set_option maxRecDepth 100000 in
theorem opnNums10 : Opn enc Tryd.prog W 126 (fun p : Int × UInt64 × Unit => [.int .i64 p.1] ++ ([vU64 p.2.1] ++ [])) (fun p => (-9223372036854775808 ≤ p.1 ∧ p.1 ≤ 9223372036854775807) ∧ True ∧ True) :=
  Opn.struct (m := 2) Tryd.underlying126 (by kernel_rfl) (OpnF.cons (k := 1) rfl (by kernel_rfl) (Opn.i64 Tryd.underlying3) (OpnF.cons (k := 1) rfl (by kernel_rfl) (Opn.u64 Tryd.underlying23) OpnF.nil))
theorem pvs_of (l : List (Int × UInt64 × Unit)) : pvs (l.map fun p => (p.1, p.2.1)) = l.flatMap fun p : Int × UInt64 × Unit => [.int .i64 p.1] ++ ([vU64 p.2.1] ++ []) := by
  unfold pvs
  rw [List.flatMap_map]
  rfl
set_option maxRecDepth 100000 in
theorem openPeers {v : Value} {d : DataW H} {ps : List MemPlace} {r : Reach} {b : Nat} (hv : Value.okWide Tryd.prog W r b 28 v) (h : DataW.Trod enc Tryd.prog W 0 (fun _ => true) true 28 v d ps) :
    ∃ (A : Option Addr) (c : Nat) (l : List Pr), v = .slice A l.length c ∧ l.length ≤ c ∧ RdV W W.heap.size A (pvs l) := by
  obtain ⟨⟨A, c, l⟩, h1, h2, _, h4, _⟩ := (Opn.slice (m := 2) Tryd.underlying28 (by kernel_rfl) (by omega) (fun _ => rfl) opnPeer10).useL Tryd.underlying28 hv h
  exact ⟨A, c, l.map fun p => (p.1, p.2.1), by rw [List.length_map]; exact h1, by rw [List.length_map]; exact h2, by rw [pvs_of]; exact h4⟩
set_option maxRecDepth 100000 in
/-- What is asked for. -/
theorem openAsk10 {v : Value} {d : DataW H} {ps : List MemPlace} {r : Reach} {b : Nat} (hv : Value.okWide Tryd.prog W r b 27 v) (h : DataW.Trod enc Tryd.prog W 0 (fun _ => true) true 27 v d ps) :
    ∃ (me : Int) (AX : Option Addr) (cX : Nat) (x : List UInt32) (seed key : UInt64) (AC : Option Addr) (cC : Nat) (came : List Int) (AS : Option Addr) (cS : Nat) (seeds : List Pr) (AK : Option Addr) (cK : Nat) (keys : List Pr) (dim : Int),
      v = (Sv.x (.g [.v (.int .i64 me), .v (.slice AX x.length cX), .v (vU64 seed), .v (vU64 key), .v (.slice AC came.length cC), .v (.slice AS seeds.length cS), .v (.slice AK keys.length cK), .v (.int .i64 dim)])).val [] ∧
      x.length ≤ cX ∧ RdV W W.heap.size AX (x.map vU32) ∧ came.length ≤ cC ∧ RdV W W.heap.size AC (came.map vI64) ∧ seeds.length ≤ cS ∧ RdV W W.heap.size AS (pvs seeds) ∧ keys.length ≤ cK ∧ RdV W W.heap.size AK (pvs keys) := by
  have hN : Opn enc Tryd.prog W 25 (fun s : Slc (Int × UInt64 × Unit) => [s.val]) _ := Opn.slice (m := 2) Tryd.underlying25 (by kernel_rfl) (by omega) (fun _ => rfl) opnNums10
  obtain ⟨⟨me, ⟨AX, cX, x⟩, seed, key, ⟨AC, cC, came⟩, ⟨AS, cS, seeds⟩, ⟨AK, cK, keys⟩, dim, _⟩, h1, _, hX, _, _, hC, hS, hK, _⟩ := (Opn.struct (m := 8) Tryd.underlying27 (by kernel_rfl)
    (OpnF.cons (k := 1) rfl (by kernel_rfl) (Opn.i64 Tryd.underlying3) (OpnF.cons (k := 1) rfl (by kernel_rfl) (Opn.ones Tryd.underlying22 (by kernel_rfl) (Opn.u32 Tryd.underlying50))
    (OpnF.cons (k := 1) rfl (by kernel_rfl) (Opn.u64 Tryd.underlying23) (OpnF.cons (k := 1) rfl (by kernel_rfl) (Opn.u64 Tryd.underlying23)
    (OpnF.cons (k := 1) rfl (by kernel_rfl) (Opn.ones Tryd.underlying24 (by kernel_rfl) (Opn.i64 Tryd.underlying3)) (OpnF.cons (k := 1) rfl (by kernel_rfl) hN (OpnF.cons (k := 1) rfl (by kernel_rfl) hN
    (OpnF.cons (k := 1) rfl (by kernel_rfl) (Opn.i64 Tryd.underlying3) OpnF.nil))))))))).useS Tryd.underlying27 hv h
  refine ⟨me, AX, cX, x, seed, key, AC, cC, came, AS, cS, seeds.map fun p => (p.1, p.2.1), AK, cK, keys.map fun p => (p.1, p.2.1), dim, ?_, hX.1, hX.2.2.1, hC.1, hC.2.2.1, ?_, ?_, ?_, ?_⟩
  · rw [List.length_map, List.length_map]; exact h1
  · rw [List.length_map]; exact hS.1
  · rw [pvs_of]; exact hS.2.2.1
  · rw [List.length_map]; exact hK.1
  · rw [pvs_of]; exact hK.2.2.1
set_option maxRecDepth 100000 in
theorem key3w : ArrKey Tryd.prog 60 50 3 := ⟨Tryd.underlying60, by kernel_rfl, by kernel_rfl, by kernel_rfl⟩
set_option maxRecDepth 100000 in
theorem openW3 {v : Value} {d : DataW H} {ps : List MemPlace} {r : Reach} {b : Nat} (hv : Value.okWide Tryd.prog W r b 60 v) (h : DataW.Trod enc Tryd.prog W 0 (fun _ => true) true 60 v d ps) : ∃ x : List UInt32, v = .agg (arr32 x) ∧ x.length = 3 :=
  (Opn.arr32 key3w Tryd.underlying50).useA key3w hv h
end
end Go.Proofs.YteiifdpikcnbgaaDoor
