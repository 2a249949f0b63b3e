/- EscrowJoins: the tied card. -/
import Derived.Test.YteiifdpikcnbgaaGreatDoorCej
namespace Go.Proofs.YteiifdpikcnbgaaGreatDoor
open Go
theorem escrowJoins_card : Rows.EscrowJoinsCardSaid :=
  Claim7.holds_tied_plain_at .later [] [.data, .data, .data, .handle, .data] true (true, "cd32aa441d855edddc72b609fe5d12c05d933b5471e122050624baaa8ce61aa2") true
    escrowJoins_holds (fun _ h => by cases h) (by kernel_rfl) (fun _ h => by cases h) escrowJoins_row_tie rfl ⟨rfl, rfl⟩ (by kernel_rfl) rfl
    (fun f fn hf hfn => by
      obtain rfl : f = 3 := Option.some.inj ((show Tryz.prog.funcNamed "caucus/caucuslaw25.EscrowJoins" = some 3 by kernel_rfl).symm.trans hf) |>.symm
      obtain rfl : fn = Tryz.f3 := (Option.some.inj (Tryz.func3.symm.trans hfn)).symm
      exact ⟨by kernel_rfl, fun j t ht => by
        rw [Tryz.params3] at ht
        have h3 : t = 22 ∨ t = 23 ∨ t = 24 := by
          rcases j with _ | _ | _ | j
          · left; simpa using ht.symm
          · right; left; simpa using ht.symm
          · right; right; simpa using ht.symm
          · simp at ht
        rcases h3 with rfl | rfl | rfl
        · exact (show Tryz.prog.wantsStandIn 22 = false by kernel_rfl)
        · exact (show Tryz.prog.wantsStandIn 23 = false by kernel_rfl)
        · exact (show Tryz.prog.wantsStandIn 24 = false by kernel_rfl)⟩)
    (by kernel_rfl)
end Go.Proofs.YteiifdpikcnbgaaGreatDoor
