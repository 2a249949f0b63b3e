import Derived.Test.YtiaeollemmkclaaDoorCmb
/- MsgBack: what is said comes back; cut short, or longer, it is none; two have the same bytes just if they are the same; the law returns true, and what it was handed reads as it did. The tied card. -/
namespace Go.Proofs.YtiaeollemmkclaaDoor
open Go
theorem msgBack_card : Rows.MsgBackCardSaid :=
  Claim7.holds_tied_plain_at .later [] [.handle] true (true, "a4d007851a61f30127531b2b332f862faf3a0e6b1779b6392f01ca79a77bc5c0") true
    msgBack_holds (fun _ h => by cases h) (by kernel_rfl) (fun _ h => by cases h) msgBack_row_tie rfl ⟨rfl, rfl⟩ (by kernel_rfl) rfl
    (fun f fn hf hfn => by
      obtain rfl : f = 7 := Option.some.inj ((show Tryd.prog.funcNamed "caucus/caucuslaw16.MsgBack" = some 7 by kernel_rfl).symm.trans hf) |>.symm
      obtain rfl : fn = Tryd.f7 := (Option.some.inj (Tryd.func7.symm.trans hfn)).symm
      exact ⟨by kernel_rfl, fun j t ht => by
        rw [Tryd.params7] at ht
        have h3 : t = 83 ∨ t = 55 := by
          rcases j with _ | _ | _ | j
          · left; simpa using ht.symm
          · left; simpa using ht.symm
          · right; simpa using ht.symm
          · simp at ht
        rcases h3 with rfl | rfl
        · exact (show Tryd.prog.wantsStandIn 83 = false by kernel_rfl)
        · exact (show Tryd.prog.wantsStandIn 55 = false by kernel_rfl)⟩)
    (by kernel_rfl)
end Go.Proofs.YtiaeollemmkclaaDoor
