/- BlindMoves: for any two rows, and whatever is asked for, the law returns true, and what it was handed reads as it did. The tied card. -/
import Derived.Test.YteiifdpikcnbgaaDoorCbm
namespace Go.Proofs.YteiifdpikcnbgaaDoor
open Go
theorem blindMoves_card : Rows.BlindMovesCardSaid :=
  Claim7.holds_tied_plain_at .later [] [.handle, .data] true (true, "219f488aa7ce178475a7fe67e3663bc2337b65dd0e9bb7e2d012163d66e131aa") true
    blindMoves_holds (fun _ h => by cases h) (by kernel_rfl) (fun _ h => by cases h) blindMoves_row_tie rfl ⟨rfl, rfl⟩ (by kernel_rfl) rfl
    (fun f fn hf hfn => by
      obtain rfl : f = 5 := Option.some.inj ((show Tryd.prog.funcNamed "caucus/caucuslaw10.BlindMoves" = some 5 by kernel_rfl).symm.trans hf) |>.symm
      obtain rfl : fn = Tryd.f5 := (Option.some.inj (Tryd.func5.symm.trans hfn)).symm
      exact ⟨by kernel_rfl, fun j t ht => by
        rw [Tryd.params5] at ht
        have h3 : t = 60 ∨ t = 27 := by
          rcases j with _ | _ | _ | j
          · left; simpa using ht.symm
          · left; simpa using ht.symm
          · right; simpa using ht.symm
          · simp at ht
        rcases h3 with rfl | rfl
        · exact (show Tryd.prog.wantsStandIn 60 = false by kernel_rfl)
        · exact (show Tryd.prog.wantsStandIn 27 = false by kernel_rfl)⟩)
    (by kernel_rfl)
end Go.Proofs.YteiifdpikcnbgaaDoor
