import Derived.Test.YtiaeollemmkclaaDoorCmf
/- MsgForms: any message as bytes, that of any bytes, whether any may be, whether two are the same, and any kind's name and form, or the errors, are the document's; the law returns true, and what it was handed reads as it did. The tied card. -/
namespace Go.Proofs.YtiaeollemmkclaaDoor
open Go
theorem msgForms_card:Rows.MsgFormsCardSaid:=
 Claim7.holds_tied_plain_at .later [] [.handle] true (true,"a4d007851a61f30127531b2b332f862faf3a0e6b1779b6392f01ca79a77bc5c0") true
  Bcw (fun _ h=>by cases h) (by kernel_rfl) (fun _ h=>by cases h) msgForms_row_tie rfl ⟨rfl,rfl⟩ (by kernel_rfl) rfl
  (fun f fn hf hfn=>by
   obtain rfl:f=6:=Option.some.inj ((show Tryd.prog.funcNamed "caucus/caucuslaw16.MsgForms"=some 6 by kernel_rfl).symm.trans hf)|>.symm
   obtain rfl:fn=Tryd.f6:=(Option.some.inj (Tryd.func6.symm.trans hfn)).symm
   exact⟨by kernel_rfl,fun j t ht=>by
    rw[Tryd.params6] at ht
    have h3:t=83∨t=23:=by
     rcases j with _|_|_|j
     ·left;simpa using ht.symm
     ·left;simpa using ht.symm
     ·right;simpa using ht.symm
     ·simp at ht
    rcases h3 with rfl|rfl
    ·exact (show Tryd.prog.wantsStandIn 83=false by kernel_rfl)
    ·exact (show Tryd.prog.wantsStandIn 23=false by kernel_rfl)⟩)
  (by kernel_rfl)
end Go.Proofs.YtiaeollemmkclaaDoor
