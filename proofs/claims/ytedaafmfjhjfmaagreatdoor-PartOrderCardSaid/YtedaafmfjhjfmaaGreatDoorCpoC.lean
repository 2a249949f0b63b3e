import Derived.Test.YtedaafmfjhjfmaaGreatDoorCpo
/- PartOrder: partials that can all be taken, in whatever order they come, are the same as one; the law returns true, and what it was handed reads as it did. The tied card. -/
namespace Go.Proofs.YtedaafmfjhjfmaaGreatDoor
open Go
theorem partOrder_card:Rows.PartOrderCardSaid:=
 Claim7.holds_tied_plain_at .later [] [.handle] true (true,"b0eb47576691eea61033515de389798fb34e8c50b71a31bf6d9985f5efbb9501") true
  A7g (fun _ h=>by cases h) (by kernel_rfl) (fun _ h=>by cases h) partOrder_row_tie rfl ⟨rfl,rfl⟩ (by kernel_rfl) rfl
  (fun f fn hf hfn=>by
   obtain rfl:f=5:=Option.some.inj ((show Tryz.prog.funcNamed "caucus/caucuslaw29.PartOrder"=some 5 by kernel_rfl).symm.trans hf)|>.symm
   obtain rfl:fn=Tryz.f5:=(Option.some.inj (Tryz.func5.symm.trans hfn)).symm
   exact⟨by kernel_rfl,fun j t ht=>by
    rw[Tryz.params5] at ht
    have h3:t=25∨t=27∨t=5:=by
     rcases j with _|_|_|j
     ·left;simpa using ht.symm
     ·right;left;simpa using ht.symm
     ·right;right;simpa using ht.symm
     ·simp at ht
    rcases h3 with rfl|rfl|rfl
    ·exact (show Tryz.prog.wantsStandIn 25=false by kernel_rfl)
    ·exact (show Tryz.prog.wantsStandIn 27=false by kernel_rfl)
    ·exact (show Tryz.prog.wantsStandIn 5=false by kernel_rfl)⟩)
  (by kernel_rfl)
end Go.Proofs.YtedaafmfjhjfmaaGreatDoor
