/- BlindSums: for any peers with keys, seeds and rows, whoever came, the law returns true, and what it was handed reads as it did. The tied card. -/
import Derived.Test.YteiifdpikcnbgaaDoorCbs
namespace Go.Proofs.YteiifdpikcnbgaaDoor
open Go
theorem blindSums_card : Rows.BlindSumsCardSaid :=
  Claim7.holds_tied_plain_at .later [] [.handle, .data] true (true, "219f488aa7ce178475a7fe67e3663bc2337b65dd0e9bb7e2d012163d66e131aa") true
    blindSums_holds (fun _ h => by cases h) (by kernel_rfl) (fun _ h => by cases h) blindSums_row_tie rfl ⟨rfl, rfl⟩ (by kernel_rfl) rfl
    (fun f fn hf hfn => by
      obtain rfl : f = 4 := Option.some.inj ((show Tryd.prog.funcNamed "caucus/caucuslaw10.BlindSums" = some 4 by kernel_rfl).symm.trans hf) |>.symm
      obtain rfl : fn = Tryd.f4 := (Option.some.inj (Tryd.func4.symm.trans hfn)).symm
      exact ⟨by kernel_rfl, fun j t ht => by
        rw [Tryd.params4] at ht
        have h3 : t = 48 := by
          rcases j with _ | j
          · simpa using ht.symm
          · simp at ht
        rcases h3 with rfl
        · exact (show Tryd.prog.wantsStandIn 48 = false by kernel_rfl)⟩)
    (by kernel_rfl)
end Go.Proofs.YteiifdpikcnbgaaDoor
