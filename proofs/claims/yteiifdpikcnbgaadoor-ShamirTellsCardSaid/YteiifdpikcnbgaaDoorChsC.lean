/- ShamirTells: the tied card. -/
import Derived.Test.YteiifdpikcnbgaaDoorChs
namespace Go.Proofs.YteiifdpikcnbgaaDoor
open Go
theorem shamirTells_card : Rows.ShamirTellsCardSaid :=
  Claim7.holds_tied_plain_at .later [] [.handle] true (true, "219f488aa7ce178475a7fe67e3663bc2337b65dd0e9bb7e2d012163d66e131aa") true
    shamirTells_holds (fun _ h => by cases h) (by kernel_rfl) (fun _ h => by cases h) shamirTells_row_tie rfl ⟨rfl, rfl⟩ (by kernel_rfl) rfl
    (fun f fn hf hfn => by
      obtain rfl : f = 7 := Option.some.inj ((show Tryd.prog.funcNamed "caucus/caucuslaw04.ShamirTells" = some 7 by kernel_rfl).symm.trans hf) |>.symm
      obtain rfl : fn = Tryd.f7 := (Option.some.inj (Tryd.func7.symm.trans hfn)).symm
      exact ⟨by kernel_rfl, fun j t ht => by
        rw [Tryd.params7] at ht
        have h3 : t = 88 ∨ t = 89 := by
          rcases j with _ | _ | _ | j
          · left; simpa using ht.symm
          · right; simpa using ht.symm
          · right; simpa using ht.symm
          · simp at ht
        rcases h3 with rfl | rfl
        · exact (show Tryd.prog.wantsStandIn 88 = false by kernel_rfl)
        · exact (show Tryd.prog.wantsStandIn 89 = false by kernel_rfl)⟩)
    (by kernel_rfl)
end Go.Proofs.YteiifdpikcnbgaaDoor
