/- What opens law 10's other argument: what each has. -/
import Derived.Test.YteiifdpikcnbgaaDoorOpn
import Derived.Test.YteiifdpikcnbgaaDoorBlA
namespace Go.Proofs.YteiifdpikcnbgaaDoor
open Go.ChangeShapes Go.WideShapes Go.ChangeAt Go.WideMaps Go.WideElems Go.RowKit
section
variable {H : Type} {enc : TypeId × Value → H} {W : World}
abbrev HadT := UInt64 × UInt64 × List UInt32 × Bool × Unit
def hadE (p : HadT) : List Value := [vU64 p.1] ++ ([vU64 p.2.1] ++ (p.2.2.1.map vU32 ++ ([.bool p.2.2.2.1] ++ [])))
def hadQ (p : HadT) : Prop := True ∧ True ∧ p.2.2.1.length = 4 ∧ True ∧ True
set_option maxRecDepth 100000 in
theorem key4w : ArrKey Tryd.prog 51 50 4 := ⟨Tryd.underlying51, by kernel_rfl, by kernel_rfl, by kernel_rfl⟩
set_option maxRecDepth 100000 in
theorem opnHad : Opn enc Tryd.prog W 53 hadE hadQ :=
  Opn.struct (m := 7) Tryd.underlying53 (by kernel_rfl) (OpnF.cons (k := 1) rfl (by kernel_rfl) (Opn.u64 Tryd.underlying23) (OpnF.cons (k := 1) rfl (by kernel_rfl) (Opn.u64 Tryd.underlying23)
    (OpnF.cons (k := 4) rfl (by kernel_rfl) (Opn.arr32 key4w Tryd.underlying50) (OpnF.cons (k := 1) rfl (by kernel_rfl) (Opn.bool Tryd.underlying4) OpnF.nil))))
def hadF (p : HadT) : List Value := if p.2.2.1.length = 4 then hadE p else List.replicate 7 (.bool false)
theorem hadF_len (p : HadT) : (hadF p).length = 7 := by
  unfold hadF
  split
  · rename_i h; simp [hadE, h]
  · simp
theorem opnHadF : Opn enc Tryd.prog W 53 hadF hadQ := fun fuel cs x h => by
  obtain ⟨a, h1, h2⟩ := opnHad fuel cs x h
  exact ⟨a, by rw [h1]; unfold hadF; rw [if_pos h2.2.2.1], h2⟩
def toHad (p : HadT) : Had := ⟨p.1, p.2.1, ix p.2.2.1 0, ix p.2.2.1 1, ix p.2.2.1 2, ix p.2.2.1 3, p.2.2.2.1⟩
theorem toHad_vals (p : HadT) (h : p.2.2.1.length = 4) : (toHad p).vals = hadF p := by
  obtain ⟨a, b, l, c, _⟩ := p
  match l, h with
  | [x, y, z, u], _ => rfl
theorem flat_toHad : ∀ (l : List HadT), (∀ p ∈ l, hadQ p) → (l.map toHad).flatMap Had.vals = l.flatMap hadF
  | [], _ => rfl
  | p :: l, h => by
    rw [List.map_cons, List.flatMap_cons, List.flatMap_cons, toHad_vals p (h p (List.mem_cons_self ..)).2.2.1, flat_toHad l fun q hq => h q (List.mem_cons_of_mem _ hq)]
set_option maxRecDepth 100000 in
theorem openHads {v : Value} {d : DataW H} {ps : List MemPlace} {r : Reach} {b : Nat} (hv : Value.okWide Tryd.prog W r b 48 v) (h : DataW.Trod enc Tryd.prog W 0 (fun _ => true) true 48 v d ps) :
    ∃ (A : Option Addr) (c : Nat) (l : List Had), v = .slice A l.length c ∧ RdV W W.heap.size A (l.flatMap Had.vals) := by
  obtain ⟨⟨A, c, l⟩, h1, _, _, h4, h5⟩ := (Opn.slice (m := 7) Tryd.underlying48 (by kernel_rfl) (by omega) hadF_len opnHadF).useL Tryd.underlying48 hv h
  exact ⟨A, c, l.map toHad, by rw [List.length_map]; exact h1, by rw [flat_toHad l h5]; exact h4⟩
end
end Go.Proofs.YteiifdpikcnbgaaDoor
