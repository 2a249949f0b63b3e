/- PackFields: whatever fields and bytes are handed in, writing and reading answer as the document's, and nil ones answer nothing; the law returns true, and what it was handed reads as it did. The tied card. -/
import Derived.Test.YtiaeollemmkclaaDoorCpq
namespace Go.Proofs.YtiaeollemmkclaaDoor
open Go
theorem packFields_card : Rows.PackFieldsCardSaid :=
  Claim7.holds_tied_plain_at .later [] [.handle] true (true, "a4d007851a61f30127531b2b332f862faf3a0e6b1779b6392f01ca79a77bc5c0") true
    packFields_holds (fun _ h => by cases h) (by kernel_rfl) (fun _ h => by cases h) packFields_row_tie rfl ⟨rfl, rfl⟩ (by kernel_rfl) rfl
    (fun f fn hf hfn => by
      obtain rfl : f = 3 := Option.some.inj ((show Tryd.prog.funcNamed "caucus/caucuslaw13.PackFields" = some 3 by kernel_rfl).symm.trans hf) |>.symm
      obtain rfl : fn = Tryd.f3 := (Option.some.inj (Tryd.func3.symm.trans hfn)).symm
      exact ⟨by kernel_rfl, fun j t ht => by
        rw [Tryd.params3] at ht
        have h3 : t = 22 ∨ t = 23 := by
          rcases j with _ | _ | j
          · left; simpa using ht.symm
          · right; simpa using ht.symm
          · simp at ht
        rcases h3 with rfl | rfl
        · exact (show Tryd.prog.wantsStandIn 22 = false by kernel_rfl)
        · exact (show Tryd.prog.wantsStandIn 23 = false by kernel_rfl)⟩)
    (by kernel_rfl)
end Go.Proofs.YtiaeollemmkclaaDoor
