/- TreeNodes: whoever there is, the nodes told are those of clients and of places, each once, and each place but the root stands below it; the law returns true, and what it was handed reads as it did. The tied card. -/
import Derived.Test.YtiaeollemmkclaaDoorCtn
namespace Go.Proofs.YtiaeollemmkclaaDoor
open Go
theorem treeNodes_card : Rows.TreeNodesCardSaid :=
  Claim7.holds_tied_plain_at .later [] [.handle] true (true, "a4d007851a61f30127531b2b332f862faf3a0e6b1779b6392f01ca79a77bc5c0") true
    treeNodes_holds (fun _ h => by cases h) (by kernel_rfl) (fun _ h => by cases h) treeNodes_row_tie rfl ⟨rfl, rfl⟩ (by kernel_rfl) rfl
    (fun f fn hf hfn => by
      obtain rfl : f = 5 := Option.some.inj ((show Tryd.prog.funcNamed "caucus/caucuslaw22.TreeNodes" = some 5 by kernel_rfl).symm.trans hf) |>.symm
      obtain rfl : fn = Tryd.f5 := (Option.some.inj (Tryd.func5.symm.trans hfn)).symm
      exact ⟨by kernel_rfl, fun j t ht => by
        rw [Tryd.params5] at ht
        have h3 : t = 61 := by
          rcases j with _ | j
          · simpa using ht.symm
          · simp at ht
        subst h3
        exact (show Tryd.prog.wantsStandIn 61 = false by kernel_rfl)⟩)
    (by kernel_rfl)
end Go.Proofs.YtiaeollemmkclaaDoor
