/- ShaTexts: the tied card: for any two sums and any text the law returns true, and what it was handed reads as it did; the listed variables are tied to the program's text. -/
import Derived.Test.YtkchdhkpjnnliaaDoorCt5
namespace Go.Proofs.YtkchdhkpjnnliaaDoor
open Go
theorem shaTexts_card : Rows.ShaTextsCardSaid :=
  Claim7.holds_tied_plain_at .later [] [.handle, .data] true (true, "2d461312edb2cf045bfb773bb25617bc1b06ab1e0ee5ee78f1c1b186b44c7c97") true
    shaTexts_holds (fun _ h => by cases h) (by kernel_rfl) (fun _ h => by cases h) shaTexts_row_tie rfl ⟨rfl, rfl⟩ (by kernel_rfl) rfl
    (fun f fn hf hfn => by
      obtain rfl : f = 8 := Option.some.inj ((show Tryd.prog.funcNamed "caucus/caucuslaw05.ShaTexts" = some 8 by kernel_rfl).symm.trans hf) |>.symm
      obtain rfl : fn = Tryd.f8 := (Option.some.inj (Tryd.func8.symm.trans hfn)).symm
      exact ⟨by kernel_rfl, fun j t ht => by
        rw [Tryd.params8] at ht
        have h3 : t = 23 ∨ t = 9 := by
          rcases j with _ | _ | _ | j
          · left; simpa using ht.symm
          · left; simpa using ht.symm
          · right; simpa using ht.symm
          · simp at ht
        rcases h3 with rfl | rfl
        · exact (show Tryd.prog.wantsStandIn 23 = false by kernel_rfl)
        · exact (show Tryd.prog.wantsStandIn 9 = false by kernel_rfl)⟩)
    (by kernel_rfl)
end Go.Proofs.YtkchdhkpjnnliaaDoor
