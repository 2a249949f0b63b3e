/- What opens arguments: numbers of 64 and 8 bits, two ints, two bytes. -/
import Derived.Test.YtkchdhkpjnnliaaDoorPre
namespace Go.Proofs.YtkchdhkpjnnliaaDoor
open Go.ChangeShapes Go.WideShapes Go.ChangeAt Go.WideMaps Go.WideElems Go.RowKit
section
variable {H : Type} {enc : TypeId × Value → H} {W : World}
theorem u64s : ∀ (zs : List Int), (∀ z ∈ zs, (Lit.int .u64 z).wf = true) → ∃ l : List UInt64, zs.map (Value.int .u64) = l.map vU64 ∧ l.length = zs.length
  | [], _ => ⟨[], rfl, rfl⟩
  | z :: zs, h => by
    obtain ⟨l, h1, h2⟩ := u64s zs fun y hy => h y (List.mem_cons_of_mem _ hy)
    obtain ⟨b, hb⟩ : ∃ b : UInt64, Value.int .u64 z = vU64 b := by
      have hw := h z (List.mem_cons_self ..)
      simp only [Lit.wf, Bool.and_eq_true, decide_eq_true_eq] at hw
      have hw : 0 ≤ z ∧ z ≤ 18446744073709551615 := hw
      exact ⟨UInt64.ofNat z.toNat, by unfold vU64 n64; rw [UInt64.toNat_ofNat']; congr 1; omega⟩
    exact ⟨b :: l, by rw [List.map_cons, List.map_cons, h1, hb], by simp [h2]⟩
set_option maxRecDepth 100000 in
theorem openU64 {v : Value} {d : DataW H} {ps : List MemPlace} {r : Reach} {b : Nat} (hv : Value.okWide Tryd.prog W r b 22 v) (h : DataW.Trod enc Tryd.prog W 0 (fun _ => true) true 22 v d ps) : ∃ x : UInt64, v = vU64 x := by
  obtain ⟨n, rfl, _, _, hw⟩ := open_int Tryd.underlying22 hv h
  obtain ⟨l, h1, h2⟩ := u64s [n] (fun z hz => by rw [List.mem_singleton.1 hz]; exact hw)
  match l, h2 with
  | [x], _ => exact ⟨x, by simpa using h1⟩
set_option maxRecDepth 100000 in
theorem openU8 {v : Value} {d : DataW H} {ps : List MemPlace} {r : Reach} {b : Nat} (hv : Value.okWide Tryd.prog W r b 5 v) (h : DataW.Trod enc Tryd.prog W 0 (fun _ => true) true 5 v d ps) : ∃ x : UInt8, v = vU8 x := by
  obtain ⟨n, rfl, _, _, hw⟩ := open_int Tryd.underlying5 hv h
  obtain ⟨l, h1, h2⟩ := u8s [n] (fun z hz => by rw [List.mem_singleton.1 hz]; exact hw)
  match l, h2 with
  | [x], _ => exact ⟨x, by simpa using h1⟩
set_option maxRecDepth 100000 in
theorem openI {v : Value} {d : DataW H} {ps : List MemPlace} {r : Reach} {b : Nat} (hv : Value.okWide Tryd.prog W r b 3 v) (h : DataW.Trod enc Tryd.prog W 0 (fun _ => true) true 3 v d ps) : ∃ x : Int, v = .int .i64 x ∧ -9223372036854775808 ≤ x ∧ x ≤ 9223372036854775807 := by
  obtain ⟨n, rfl, _, _, hw⟩ := open_int Tryd.underlying3 hv h
  simp only [Lit.wf, Bool.and_eq_true, decide_eq_true_eq] at hw
  exact ⟨n, rfl, hw⟩
end
end Go.Proofs.YtkchdhkpjnnliaaDoor
