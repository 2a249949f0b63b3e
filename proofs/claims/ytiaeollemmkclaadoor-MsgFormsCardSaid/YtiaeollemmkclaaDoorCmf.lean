import Derived.Test.YtiaeollemmkclaaDoorPreA
import Derived.Test.YtiaeollemmkclaaDoorCmb0
import Derived.Test.YtiaeollemmkclaaDoorMqA
import Derived.Test.YtiaeollemmkclaaDoorCards
/- MsgForms: any message as bytes, that of any bytes, whether any may be, whether two are the same, and any kind's name and form, or the errors, are the document's; the law returns true, and what it was handed reads as it did. -/
namespace Go.Proofs.YtiaeollemmkclaaDoor
open Go.ChangeShapes Go.WideShapes Go.ChangeAt Go.WideMaps Go.WideElems Go.RowKit
set_option maxRecDepth 100000 in
theorem Bcu {H:Type} {enc:TypeId×Value→H} {W:World} {v:Value} {d:DataW H} {ps:List MemPlace} {r:Reach} {b:Nat} (hv:Value.okWide Tryd.prog W r b 23 v) (h:DataW.Trod enc Tryd.prog W 0 (fun _=>true) true 23 v d ps):
  ∃(A:Option Addr) (c:Nat) (l:List UInt8),v=.slice A l.length c∧RdV W W.heap.size A (l.map vU8)∧l.length≤c:=by
 obtain⟨⟨A,c,l⟩,h1,h2,_,h4,_⟩:=(Opn.ones Tryd.underlying23 (by kernel_rfl) (Opn.u8 Tryd.underlying5)).useL Tryd.underlying23 hv h
 exact⟨A,c,l,h1,h4,h2⟩
set_option maxRecDepth 100000 in
theorem Bcv (os:Os) (started:os.Started) (H:Type) (enc:TypeId×Value→H):
  ReturnsInHanded {} Tryd.checked os 6 .any (fun w args=>(Rows.msgFormsSpec.pre enc Tryd.prog Tryd.f6 [] false w args∧laidMetH Tryd.prog Oy w)∧sizedMet enc Tryd.prog Tryd.f6 (OpenSpec.ofChange Rows.msgFormsSpec) false w args)
   (Rows.msgFormsSpec.post enc Tryd.prog Tryd.f6 false true false false):=by
 refine returnsInHanded_of_change_and (C:=Tryd.checked) (X:=fun w _=>laidMetH Tryd.prog Oy w) (fun _ _ _ hh h=>h.of_heap hh) own started (by kernel_rfl) Tryd.func6
  (ChangeSpec.witness_shaped (enc:=enc) (C:=Tryd.checked) (os:=os) (X:=fun w _=>laidMetH Tryd.prog Oy w) false (worldHA os) #[.agg (mgV zeroR).toArray,.agg (mgV zeroR).toArray,.slice none 0 0] 40 rfl (World.shaped_of_RefB (by kernel_rfl) (by kernel_rfl)) (by kernel_rfl) (by kernel_rfl) (by kernel_rfl) (A0b os _)) ?_
 intro W base args ds gs before hval0 hW _ _ hL _
 have hval:∀(j:Nat) t v,Tryd.f6.params[j]?=some t→args[j]?=some v→Value.okWide Tryd.prog W .any base t v:=hval0
 have hW':=hW
 obtain⟨p,q,hA0,hV,rfl,hfz,hnd⟩:=hW
 have hA:DataW.TrodAll enc Tryd.prog W 0 (fun _=>true) true Tryd.f6.params.toList args.toList ds p:=hA0
 rw[Tryd.params6] at hA hval
 obtain⟨v0,vs0,d0,ds0,p0,q0,hargs,rfl,rfl,h0,r0⟩:=trodAll_cons hA
 obtain⟨v1,vs1,d1,ds1,p1,q1,rfl,rfl,rfl,h1,r1⟩:=trodAll_cons r0
 obtain⟨v2,vs2,d2,ds2,p2,q2,rfl,rfl,rfl,h2,r2⟩:=trodAll_cons r1
 obtain⟨rfl,rfl,rfl⟩:=trodAll_nil r2
 obtain rfl:args=#[v0,v1,v2]:=by cases args;simp_all
 obtain⟨rfl,rfl⟩:=trodVars_none hV
 obtain⟨a,e0,ha⟩:=Ads (hval 0 _ v0 rfl rfl) h0
 obtain⟨b,e1,hb⟩:=Ads (hval 1 _ v1 rfl rfl) h1
 obtain⟨Ab,cb,bs,e2,rb,hbc⟩:=Bcu (hval 2 _ v2 rfl rfl) h2
 have hg:=A0a hL
 clear hA0 hval0
 have hwalk:=Bct a b Ab cb bs W ha hb hbc rb hg
 have hargs2:(List.map (Sv.val []) [.x (.g (mgA a)),.x (.g (mgA b)),.x (.a (.v (.slice Ab bs.length cb)))]).toArray=#[v0,v1,v2]:=by
  rw[e0,e1,e2]
  simp only[List.map_cons,List.map_nil,Es]
  rfl
 rw[hargs2] at hwalk
 refine hwalk.mono fun e W' ⟨he,bel⟩=>?_
 subst he
 exact⟨_,rfl,_,_,_,[],_,[],hW',trodAll_mk1 (shut_bool Tryd.underlying4 _),(trodAll_cons_mk (Below.trod Ue (by kernel_rfl) (of_decide_eq_true (by kernel_rfl)) h0 bel (Ug h0)) (trodAll_cons_mk (Below.trod Ue (by kernel_rfl) (of_decide_eq_true (by kernel_rfl)) h1 bel (Ug h1)) (trodAll_cons_mk (Below.trod Ue (by kernel_rfl) (of_decide_eq_true (by kernel_rfl)) h2 bel (Ug h2)) trodAll_mk0))),rfl,bel.frame _,fun h=>by cases h⟩
theorem Bcw:Rows.MsgFormsSaid:=
 OpenClaim.holds_of_wide 6 Tryd.f6 rfl rfl rfl rfl rfl rfl rfl ⟨rfl,rfl,rfl,rfl,rfl⟩ rfl rfl rfl rfl rfl (by kernel_rfl) Tryd.func6 (by kernel_rfl)
  (of_decide_eq_true (by kernel_rfl)) (by unfold Func.isWrapper;first|(rw[if_pos (by decide+kernel)];kernel_rfl)|(rw[if_neg (by decide+kernel)];exact⟨rfl,rfl⟩))
  (fun os started H enc _=>Bcv os started H enc)
end Go.Proofs.YtiaeollemmkclaaDoor
