/- PairMore: for any keys, and a byte, the law returns true, and what it was handed reads as it did. The tied card. -/
import Derived.Test.YtkchdhkpjnnliaaDoorCpm
namespace Go.Proofs.YtkchdhkpjnnliaaDoor
open Go
theorem pairMore_card : Rows.PairMoreCardSaid :=
  Claim7.holds_tied_plain_at .later [] [.handle, .data] true (true, "2d461312edb2cf045bfb773bb25617bc1b06ab1e0ee5ee78f1c1b186b44c7c97") true
    pairMore_holds (fun _ h => by cases h) (by kernel_rfl) (fun _ h => by cases h) pairMore_row_tie rfl ⟨rfl, rfl⟩ (by kernel_rfl) rfl
    (fun f fn hf hfn => by
      obtain rfl : f = 13 := Option.some.inj ((show Tryd.prog.funcNamed "caucus/caucuslaw09.PairMore" = some 13 by kernel_rfl).symm.trans hf) |>.symm
      obtain rfl : fn = Tryd.f13 := (Option.some.inj (Tryd.func13.symm.trans hfn)).symm
      exact ⟨by kernel_rfl, fun j t ht => by
        rw [Tryd.params13] at ht
        have h3 : t = 85 ∨ t = 5 := by
          rcases j with _ | _ | j
          · left; simpa using ht.symm
          · right; simpa using ht.symm
          · simp at ht
        rcases h3 with rfl | rfl
        · exact (show Tryd.prog.wantsStandIn 85 = false by kernel_rfl)
        · exact (show Tryd.prog.wantsStandIn 5 = false by kernel_rfl)⟩)
    (by kernel_rfl)
end Go.Proofs.YtkchdhkpjnnliaaDoor
