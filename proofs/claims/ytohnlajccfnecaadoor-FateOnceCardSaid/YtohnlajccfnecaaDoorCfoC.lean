/- FateOnce: whatever is done to a fate, again and again, the law returns true, and what it was handed reads as it did. The tied card. -/
import Derived.Test.YtohnlajccfnecaaDoorCfo
namespace Go.Proofs.YtohnlajccfnecaaDoor
open Go
theorem fateOnce_card : Rows.FateOnceCardSaid :=
  Claim7.holds_tied_plain_at .later [] [.data, .data, .data] true (true, "01f90e8a1e5dcae9c6db411110a20453c36ff939c8a9e365d55d12f5cce3db14") true
    fateOnce_holds (fun _ h => by cases h) (by kernel_rfl) (fun _ h => by cases h) fateOnce_row_tie rfl ⟨rfl, rfl⟩ (by kernel_rfl) rfl
    (fun f fn hf hfn => by
      obtain rfl : f = 4 := Option.some.inj ((show Tryd.prog.funcNamed "caucus/caucuslaw33.FateOnce" = some 4 by kernel_rfl).symm.trans hf) |>.symm
      obtain rfl : fn = Tryd.f4 := (Option.some.inj (Tryd.func4.symm.trans hfn)).symm
      exact ⟨by kernel_rfl, fun j t ht => by
        rw [Tryd.params4] at ht
        have h3 : t = 22 := by
          rcases j with _ | j
          · simpa using ht.symm
          · simp at ht
        rcases h3 with rfl
        · exact (show Tryd.prog.wantsStandIn 22 = false by kernel_rfl)⟩)
    (by kernel_rfl)
end Go.Proofs.YtohnlajccfnecaaDoor
