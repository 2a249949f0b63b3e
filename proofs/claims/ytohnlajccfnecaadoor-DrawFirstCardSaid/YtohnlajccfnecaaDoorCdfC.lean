/- DrawFirst: for any number, and bytes, the law returns true, and what it was handed reads as it did. The tied card. -/
import Derived.Test.YtohnlajccfnecaaDoorCdf
namespace Go.Proofs.YtohnlajccfnecaaDoor
open Go
theorem drawFirst_card : Rows.DrawFirstCardSaid :=
  Claim7.holds_tied_plain_at .later [] [.data, .data, .data, .handle, .data] true (true, "01f90e8a1e5dcae9c6db411110a20453c36ff939c8a9e365d55d12f5cce3db14") true
    drawFirst_holds (fun _ h => by cases h) (by kernel_rfl) (fun _ h => by cases h) drawFirst_row_tie rfl ⟨rfl, rfl⟩ (by kernel_rfl) rfl
    (fun f fn hf hfn => by
      obtain rfl : f = 6 := Option.some.inj ((show Tryd.prog.funcNamed "caucus/caucuslaw24.DrawFirst" = some 6 by kernel_rfl).symm.trans hf) |>.symm
      obtain rfl : fn = Tryd.f6 := (Option.some.inj (Tryd.func6.symm.trans hfn)).symm
      exact ⟨by kernel_rfl, fun j t ht => by
        rw [Tryd.params6] at ht
        have h3 : t = 47 ∨ t = 62 := by
          rcases j with _ | _ | _ | j
          · left; simpa using ht.symm
          · right; simpa using ht.symm
          · right; simpa using ht.symm
          · simp at ht
        rcases h3 with rfl | rfl
        · exact (show Tryd.prog.wantsStandIn 47 = false by kernel_rfl)
        · exact (show Tryd.prog.wantsStandIn 62 = false by kernel_rfl)⟩)
    (by kernel_rfl)
end Go.Proofs.YtohnlajccfnecaaDoor
