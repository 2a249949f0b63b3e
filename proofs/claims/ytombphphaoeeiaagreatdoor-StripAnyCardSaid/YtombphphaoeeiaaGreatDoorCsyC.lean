import Derived.Test.YtombphphaoeeiaaGreatDoorCsy
/- StripAny: whatever groups there are, and whatever the row, the law returns true, and what it was handed reads as it did. The tied card. -/
namespace Go.Proofs.YtombphphaoeeiaaGreatDoor
open Go
theorem stripAny_card : Rows.StripAnyCardSaid :=
  Claim7.holds_tied_plain_at .later [] [.handle, .data] true (true, "669204a1dc557eac842e59bd99e43274aedf979028c7a27e2b33e840c403e995") true
    stripAny_holds (fun _ h => by cases h) (by kernel_rfl) (fun _ h => by cases h) stripAny_row_tie rfl ⟨rfl, rfl⟩ (by kernel_rfl) rfl
    (fun f fn hf hfn => by
      obtain rfl : f = 3 := Option.some.inj ((show Tryz.prog.funcNamed "caucus/caucuslaw32.StripAny" = some 3 by kernel_rfl).symm.trans hf) |>.symm
      obtain rfl : fn = Tryz.f3 := (Option.some.inj (Tryz.func3.symm.trans hfn)).symm
      exact ⟨by kernel_rfl, fun j t ht => by
        rw [Tryz.params3] at ht
        have h3 : t = 22 ∨ t = 24 := by
          rcases j with _ | _ | j
          · left; simpa using ht.symm
          · right; simpa using ht.symm
          · simp at ht
        rcases h3 with rfl | rfl
        · exact (show Tryz.prog.wantsStandIn 22 = false by kernel_rfl)
        · exact (show Tryz.prog.wantsStandIn 24 = false by kernel_rfl)⟩)
    (by kernel_rfl)
end Go.Proofs.YtombphphaoeeiaaGreatDoor
