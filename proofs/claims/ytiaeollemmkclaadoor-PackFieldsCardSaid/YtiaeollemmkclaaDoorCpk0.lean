/- What opens law 13's arguments: a field, a row of fields, a short number. -/
import Derived.Test.YtiaeollemmkclaaDoorOpn
import Derived.Test.YtiaeollemmkclaaDoorPkG
namespace Go.Proofs.YtiaeollemmkclaaDoor
open Go.ChangeShapes Go.WideShapes Go.ChangeAt Go.WideMaps Go.WideElems Go.RowKit
section
variable {H : Type} {enc : TypeId × Value → H} {W : World}
set_option maxRecDepth 100000 in
theorem key32p : ArrKey Tryd.prog 29 5 32 := ⟨Tryd.underlying29, by kernel_rfl, by kernel_rfl, by kernel_rfl⟩
set_option maxRecDepth 100000 in
theorem opnFd : Opn enc Tryd.prog W 32 fdW (fun f : FdR => f.s.length = 32 ∧ f.Ok W) := fun fuel cs y h => by
  obtain ⟨⟨k, n, l, b, s, x, many, most, _⟩, h1, _, _, ⟨l1, _, l3, _⟩, ⟨b1, _, b3, _⟩, hs, ⟨x1, _, x3, _⟩, hm, _⟩ := (Opn.struct (m := 39) Tryd.underlying32 (by kernel_rfl)
    (OpnF.cons (k := 1) rfl (by kernel_rfl) (Opn.u8 Tryd.underlying5) (OpnF.cons (k := 1) rfl (by kernel_rfl) (Opn.u64 Tryd.underlying27)
    (OpnF.cons (k := 1) rfl (by kernel_rfl) (Opn.ones Tryd.underlying28 (by kernel_rfl) (Opn.u64 Tryd.underlying27)) (OpnF.cons (k := 1) rfl (by kernel_rfl) (Opn.ones Tryd.underlying23 (by kernel_rfl) (Opn.u8 Tryd.underlying5))
    (OpnF.cons (k := 32) rfl (by kernel_rfl) (Opn.arr8 key32p Tryd.underlying5) (OpnF.cons (k := 1) rfl (by kernel_rfl) (Opn.ones Tryd.underlying30 (by kernel_rfl) (Opn.u32 Tryd.underlying136))
    (OpnF.cons (k := 1) rfl (by kernel_rfl) (Opn.i64 Tryd.underlying3) (OpnF.cons (k := 1) rfl (by kernel_rfl) (Opn.u64 Tryd.underlying27) OpnF.nil))))))))) fuel cs y h
  refine ⟨⟨k, n, ⟨l.A, l.c, l.l⟩, ⟨b.A, b.c, b.l⟩, s, ⟨x.A, x.c, x.l⟩, many, most⟩, ?_, hs, ⟨⟨l1, l3⟩, ⟨b1, b3⟩, hs, ⟨x1, x3⟩, hm⟩⟩
  rw [fdW_eq hs, h1]
  rfl
set_option maxRecDepth 100000 in
theorem openFds {v : Value} {d : DataW H} {ps : List MemPlace} {r : Reach} {b : Nat} (hv : Value.okWide Tryd.prog W r b 22 v) (h : DataW.Trod enc Tryd.prog W 0 (fun _ => true) true 22 v d ps) :
    ∃ (A : Option Addr) (c : Nat) (l : List FdR), v = .slice A l.length c ∧ RdV W W.heap.size A (l.flatMap fdW) ∧ ∀ f ∈ l, f.s.length = 32 ∧ f.Ok W := by
  obtain ⟨⟨A, c, l⟩, h1, _, _, h4, h5⟩ := (Opn.slice (m := 39) Tryd.underlying22 (by kernel_rfl) (by omega) fdW_len opnFd).useL Tryd.underlying22 hv h
  exact ⟨A, c, l, h1, h4, h5⟩
set_option maxRecDepth 100000 in
theorem openU16 {v : Value} {d : DataW H} {ps : List MemPlace} {r : Reach} {b : Nat} (hv : Value.okWide Tryd.prog W r b 55 v) (h : DataW.Trod enc Tryd.prog W 0 (fun _ => true) true 55 v d ps) : ∃ n : Nat, v = .int .u16 n ∧ n < 65536 := by
  obtain ⟨m, rfl⟩ := okWide_int Tryd.underlying55 hv
  obtain ⟨fuel, hf⟩ := h
  obtain ⟨n, h1, h2⟩ := Opn.int (k := .u16) Tryd.underlying55 fuel _ _ hf
  obtain rfl : m = n := by simpa [Value.cells] using h1
  simp only [Lit.wf, Bool.and_eq_true, decide_eq_true_eq] at h2
  have h2 : 0 ≤ m ∧ m ≤ 65535 := h2
  exact ⟨m.toNat, by congr 1; omega, by omega⟩
end
end Go.Proofs.YtiaeollemmkclaaDoor
