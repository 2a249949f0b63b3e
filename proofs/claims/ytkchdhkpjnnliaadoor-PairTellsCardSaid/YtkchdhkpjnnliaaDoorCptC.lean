/- PairTells: for whoever asks, and any peers, the law returns true, and what it was handed reads as it did. The tied card. -/
import Derived.Test.YtkchdhkpjnnliaaDoorCpt
namespace Go.Proofs.YtkchdhkpjnnliaaDoor
open Go
theorem pairTells_card : Rows.PairTellsCardSaid :=
  Claim7.holds_tied_plain_at .later [] [.handle, .data] true (true, "2d461312edb2cf045bfb773bb25617bc1b06ab1e0ee5ee78f1c1b186b44c7c97") true
    pairTells_holds (fun _ h => by cases h) (by kernel_rfl) (fun _ h => by cases h) pairTells_row_tie rfl ⟨rfl, rfl⟩ (by kernel_rfl) rfl
    (fun f fn hf hfn => by
      obtain rfl : f = 12 := Option.some.inj ((show Tryd.prog.funcNamed "caucus/caucuslaw09.PairTells" = some 12 by kernel_rfl).symm.trans hf) |>.symm
      obtain rfl : fn = Tryd.f12 := (Option.some.inj (Tryd.func12.symm.trans hfn)).symm
      exact ⟨by kernel_rfl, fun j t ht => by
        rw [Tryd.params12] at ht
        have h3 : t = 74 ∨ t = 75 := by
          rcases j with _ | _ | j
          · left; simpa using ht.symm
          · right; simpa using ht.symm
          · simp at ht
        rcases h3 with rfl | rfl
        · exact (show Tryd.prog.wantsStandIn 74 = false by kernel_rfl)
        · exact (show Tryd.prog.wantsStandIn 75 = false by kernel_rfl)⟩)
    (by kernel_rfl)
end Go.Proofs.YtkchdhkpjnnliaaDoor
