/- MacZeros: the tied card: for every key, text and byte the law returns true, and what it was handed reads as it did; the listed table is tied to the program's text. -/
import Derived.Test.YtkchdhkpjnnliaaDoorCmz
namespace Go.Proofs.YtkchdhkpjnnliaaDoor
open Go
theorem macZeros_card : Rows.MacZerosCardSaid :=
  Claim7.holds_tied_plain_at .later [] [.data] true (true, "2d461312edb2cf045bfb773bb25617bc1b06ab1e0ee5ee78f1c1b186b44c7c97") true
    macZeros_holds (fun _ h => by cases h) (by kernel_rfl) (fun _ h => by cases h) macZeros_row_tie rfl ⟨rfl, rfl⟩ (by kernel_rfl) rfl
    (fun f fn hf hfn => by
      obtain rfl : f = 6 := Option.some.inj ((show Tryd.prog.funcNamed "caucus/caucuslaw06.MacZeros" = some 6 by kernel_rfl).symm.trans hf) |>.symm
      obtain rfl : fn = Tryd.f6 := (Option.some.inj (Tryd.func6.symm.trans hfn)).symm
      exact ⟨by kernel_rfl, fun j t ht => by
        rw [Tryd.params6] at ht
        have h3 : t = 27 ∨ t = 5 := by
          rcases j with _ | _ | _ | j
          · left; simpa using ht.symm
          · left; simpa using ht.symm
          · right; simpa using ht.symm
          · simp at ht
        rcases h3 with rfl | rfl
        · exact (show Tryd.prog.wantsStandIn 27 = false by kernel_rfl)
        · exact (show Tryd.prog.wantsStandIn 5 = false by kernel_rfl)⟩)
    (by kernel_rfl)
end Go.Proofs.YtkchdhkpjnnliaaDoor
