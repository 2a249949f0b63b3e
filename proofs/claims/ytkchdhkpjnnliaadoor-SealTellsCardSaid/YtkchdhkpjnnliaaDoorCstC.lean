/- SealTells: the tied card: for any seed, salt, sum and list the law returns true, and what it was handed reads as it did; the listed table is tied to the program's text. -/
import Derived.Test.YtkchdhkpjnnliaaDoorCst
namespace Go.Proofs.YtkchdhkpjnnliaaDoor
open Go
theorem sealTells_card : Rows.SealTellsCardSaid :=
  Claim7.holds_tied_plain_at .later [] [.data] true (true, "2d461312edb2cf045bfb773bb25617bc1b06ab1e0ee5ee78f1c1b186b44c7c97") true
    sealTells_holds (fun _ h => by cases h) (by kernel_rfl) (fun _ h => by cases h) sealTells_row_tie rfl ⟨rfl, rfl⟩ (by kernel_rfl) rfl
    (fun f fn hf hfn => by
      obtain rfl : f = 3 := Option.some.inj ((show Tryd.prog.funcNamed "caucus/caucuslaw08.SealTells" = some 3 by kernel_rfl).symm.trans hf) |>.symm
      obtain rfl : fn = Tryd.f3 := (Option.some.inj (Tryd.func3.symm.trans hfn)).symm
      exact ⟨by kernel_rfl, fun j t ht => by
        rw [Tryd.params3] at ht
        have h3 : t = 22 ∨ t = 26 := by
          rcases j with _ | _ | _ | j
          · left; simpa using ht.symm
          · left; simpa using ht.symm
          · right; simpa using ht.symm
          · simp at ht
        rcases h3 with rfl | rfl
        · exact (show Tryd.prog.wantsStandIn 22 = false by kernel_rfl)
        · exact (show Tryd.prog.wantsStandIn 26 = false by kernel_rfl)⟩)
    (by kernel_rfl)
end Go.Proofs.YtkchdhkpjnnliaaDoor
