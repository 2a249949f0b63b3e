import Derived.Test.YtedaafmfjhjfmaaGreatDoorCpa
/- PartApart: whatever messages come, what is taken lies apart, each below the place, and all of it is the sum of just the rows that were taken; the law returns true, and what it was handed reads as it did. The tied card. -/
namespace Go.Proofs.YtedaafmfjhjfmaaGreatDoor
open Go
theorem partApart_card:Rows.PartApartCardSaid:=
 Claim7.holds_tied_plain_at .later [] [.handle] true (true,"b0eb47576691eea61033515de389798fb34e8c50b71a31bf6d9985f5efbb9501") true
  A74 (fun _ h=>by cases h) (by kernel_rfl) (fun _ h=>by cases h) partApart_row_tie rfl ⟨rfl,rfl⟩ (by kernel_rfl) rfl
  (fun f fn hf hfn=>by
   obtain rfl:f=4:=Option.some.inj ((show Tryz.prog.funcNamed "caucus/caucuslaw29.PartApart"=some 4 by kernel_rfl).symm.trans hf)|>.symm
   obtain rfl:fn=Tryz.f4:=(Option.some.inj (Tryz.func4.symm.trans hfn)).symm
   exact⟨by kernel_rfl,fun j t ht=>by
    rw[Tryz.params4] at ht
    have h3:t=25∨t=3∨t=27:=by
     rcases j with _|_|_|j
     ·left;simpa using ht.symm
     ·right;left;simpa using ht.symm
     ·right;right;simpa using ht.symm
     ·simp at ht
    rcases h3 with rfl|rfl|rfl
    ·exact (show Tryz.prog.wantsStandIn 25=false by kernel_rfl)
    ·exact (show Tryz.prog.wantsStandIn 3=false by kernel_rfl)
    ·exact (show Tryz.prog.wantsStandIn 27=false by kernel_rfl)⟩)
  (by kernel_rfl)
end Go.Proofs.YtedaafmfjhjfmaaGreatDoor
