/- EscrowTells: for whatever is asked for, and any peers, the law returns true, and what it was handed reads as it did. The tied card. -/
import Derived.Test.YteiifdpikcnbgaaDoorCe
namespace Go.Proofs.YteiifdpikcnbgaaDoor
open Go
theorem escrowTells_card : Rows.EscrowTellsCardSaid :=
  Claim7.holds_tied_plain_at .later [] [.data, .data, .data, .handle, .data] true (true, "219f488aa7ce178475a7fe67e3663bc2337b65dd0e9bb7e2d012163d66e131aa") true
    escrowTells_holds (fun _ h => by cases h) (by kernel_rfl) (fun _ h => by cases h) escrowTells_row_tie rfl ⟨rfl, rfl⟩ (by kernel_rfl) rfl
    (fun f fn hf hfn => by
      obtain rfl : f = 6 := Option.some.inj ((show Tryd.prog.funcNamed "caucus/caucuslaw25.EscrowTells" = some 6 by kernel_rfl).symm.trans hf) |>.symm
      obtain rfl : fn = Tryd.f6 := (Option.some.inj (Tryd.func6.symm.trans hfn)).symm
      exact ⟨by kernel_rfl, fun j t ht => by
        rw [Tryd.params6] at ht
        have h3 : t = 68 ∨ t = 28 := by
          rcases j with _ | _ | j
          · left; simpa using ht.symm
          · right; simpa using ht.symm
          · simp at ht
        rcases h3 with rfl | rfl
        · exact (show Tryd.prog.wantsStandIn 68 = false by kernel_rfl)
        · exact (show Tryd.prog.wantsStandIn 28 = false by kernel_rfl)⟩)
    (by kernel_rfl)
end Go.Proofs.YteiifdpikcnbgaaDoor
