/- ShamirAny: the tied card. -/
import Derived.Test.YteiifdpikcnbgaaDoorCan
namespace Go.Proofs.YteiifdpikcnbgaaDoor
open Go
theorem shamirAny_card : Rows.ShamirAnyCardSaid :=
  Claim7.holds_tied_plain_at .later [] [.handle] true (true, "219f488aa7ce178475a7fe67e3663bc2337b65dd0e9bb7e2d012163d66e131aa") true
    shamirAny_holds (fun _ h => by cases h) (by kernel_rfl) (fun _ h => by cases h) shamirAny_row_tie rfl ⟨rfl, rfl⟩ (by kernel_rfl) rfl
    (fun f fn hf hfn => by
      obtain rfl : f = 8 := Option.some.inj ((show Tryd.prog.funcNamed "caucus/caucuslaw04.ShamirAny" = some 8 by kernel_rfl).symm.trans hf) |>.symm
      obtain rfl : fn = Tryd.f8 := (Option.some.inj (Tryd.func8.symm.trans hfn)).symm
      exact ⟨by kernel_rfl, fun j t ht => by
        rw [Tryd.params8] at ht
        have h3 : t = 66 ∨ t = 106 ∨ t = 107 := by
          rcases j with _ | _ | _ | j
          · left; simpa using ht.symm
          · right; left; simpa using ht.symm
          · right; right; simpa using ht.symm
          · simp at ht
        rcases h3 with rfl | rfl | rfl
        · exact (show Tryd.prog.wantsStandIn 66 = false by kernel_rfl)
        · exact (show Tryd.prog.wantsStandIn 106 = false by kernel_rfl)
        · exact (show Tryd.prog.wantsStandIn 107 = false by kernel_rfl)⟩)
    (by kernel_rfl)
end Go.Proofs.YteiifdpikcnbgaaDoor
