import Derived.Test.YtedaafmfjhjfmaaGreatDoorChb
/- HubOnce: whatever comes, what a hub tells is the sum of just the partials that it said it took, of which no two have a client in common, and it is the same each time; the law returns true, and what it was handed reads as it did. The tied card. -/
namespace Go.Proofs.YtedaafmfjhjfmaaGreatDoor
open _root_.Go.Proofs.Tryz
open Go
theorem hubOnce_card:Rows.HubOnceCardSaid:=
 Claim7.holds_tied_plain_at .later [] [.handle] true (true,"b0eb47576691eea61033515de389798fb34e8c50b71a31bf6d9985f5efbb9501") true
  A14 (fun _ h=>by cases h) (by kernel_rfl) (fun _ h=>by cases h) hubOnce_row_tie rfl ⟨rfl,rfl⟩ (by kernel_rfl) rfl
  (fun f fn hf hfn=>by
   obtain rfl:f=6:=Option.some.inj ((show prog.funcNamed "caucus/caucuslaw30.HubOnce"=some 6 by kernel_rfl).symm.trans hf)|>.symm
   obtain rfl:fn=Tryz.f6:=(Option.some.inj (func6.symm.trans hfn)).symm
   exact⟨by kernel_rfl,fun j t ht=>by
    rw[Tryz.params6] at ht
    have h3:t=25∨t=26∨t=78:=by
     rcases j with _|_|_|j
     ·left;simpa using ht.symm
     ·right;left;simpa using ht.symm
     ·right;right;simpa using ht.symm
     ·simp at ht
    rcases h3 with rfl|rfl|rfl
    ·exact (show prog.wantsStandIn 25=false by kernel_rfl)
    ·exact (show prog.wantsStandIn 26=false by kernel_rfl)
    ·exact (show prog.wantsStandIn 78=false by kernel_rfl)⟩)
  (by kernel_rfl)
end Go.Proofs.YtedaafmfjhjfmaaGreatDoor
