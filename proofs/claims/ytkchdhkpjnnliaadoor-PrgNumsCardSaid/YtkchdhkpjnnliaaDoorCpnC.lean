/- PrgNums: for any seed, label, and two places the law returns true, and what it was handed reads as it did. The tied card. -/
import Derived.Test.YtkchdhkpjnnliaaDoorCpn
namespace Go.Proofs.YtkchdhkpjnnliaaDoor
open Go
theorem prgNums_card : Rows.PrgNumsCardSaid :=
  Claim7.holds_tied_plain_at .later [] [.handle, .data] true (true, "2d461312edb2cf045bfb773bb25617bc1b06ab1e0ee5ee78f1c1b186b44c7c97") true
    prgNums_holds (fun _ h => by cases h) (by kernel_rfl) (fun _ h => by cases h) prgNums_row_tie rfl ⟨rfl, rfl⟩ (by kernel_rfl) rfl
    (fun f fn hf hfn => by
      obtain rfl : f = 9 := Option.some.inj ((show Tryd.prog.funcNamed "caucus/caucuslaw07.PrgNums" = some 9 by kernel_rfl).symm.trans hf) |>.symm
      obtain rfl : fn = Tryd.f9 := (Option.some.inj (Tryd.func9.symm.trans hfn)).symm
      exact ⟨by kernel_rfl, fun j t ht => by
        rw [Tryd.params9] at ht
        have h3 : t = 22 ∨ t = 9 ∨ t = 55 := by
          rcases j with _ | _ | _ | j
          · left; simpa using ht.symm
          · right; left; simpa using ht.symm
          · right; right; simpa using ht.symm
          · simp at ht
        rcases h3 with rfl | rfl | rfl
        · exact (show Tryd.prog.wantsStandIn 22 = false by kernel_rfl)
        · exact (show Tryd.prog.wantsStandIn 9 = false by kernel_rfl)
        · exact (show Tryd.prog.wantsStandIn 55 = false by kernel_rfl)⟩)
    (by kernel_rfl)
end Go.Proofs.YtkchdhkpjnnliaaDoor
