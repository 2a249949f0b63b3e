/- PairZero: for any keys, gaps, and a byte, the law returns true, and what it was handed reads as it did. The tied card. -/
import Derived.Test.YtkchdhkpjnnliaaDoorCpz
namespace Go.Proofs.YtkchdhkpjnnliaaDoor
open Go
theorem pairZero_card : Rows.PairZeroCardSaid :=
  Claim7.holds_tied_plain_at .later [] [.handle, .data] true (true, "2d461312edb2cf045bfb773bb25617bc1b06ab1e0ee5ee78f1c1b186b44c7c97") true
    pairZero_holds (fun _ h => by cases h) (by kernel_rfl) (fun _ h => by cases h) pairZero_row_tie rfl ⟨rfl, rfl⟩ (by kernel_rfl) rfl
    (fun f fn hf hfn => by
      obtain rfl : f = 14 := Option.some.inj ((show Tryd.prog.funcNamed "caucus/caucuslaw09.PairZero" = some 14 by kernel_rfl).symm.trans hf) |>.symm
      obtain rfl : fn = Tryd.f14 := (Option.some.inj (Tryd.func14.symm.trans hfn)).symm
      exact ⟨by kernel_rfl, fun j t ht => by
        rw [Tryd.params14] at ht
        have h3 : t = 91 ∨ t = 27 ∨ t = 5 := by
          rcases j with _ | _ | _ | j
          · left; simpa using ht.symm
          · right; left; simpa using ht.symm
          · right; right; simpa using ht.symm
          · simp at ht
        rcases h3 with rfl | rfl | rfl
        · exact (show Tryd.prog.wantsStandIn 91 = false by kernel_rfl)
        · exact (show Tryd.prog.wantsStandIn 27 = false by kernel_rfl)
        · exact (show Tryd.prog.wantsStandIn 5 = false by kernel_rfl)⟩)
    (by kernel_rfl)
end Go.Proofs.YtkchdhkpjnnliaaDoor
