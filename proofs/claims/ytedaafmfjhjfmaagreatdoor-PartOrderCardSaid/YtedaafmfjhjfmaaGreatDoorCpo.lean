import Derived.Test.YtedaafmfjhjfmaaGreatDoorPreA
import Derived.Test.YtedaafmfjhjfmaaGreatDoorPv0
import Derived.Test.YtedaafmfjhjfmaaGreatDoorPvC
import Derived.Test.YtedaafmfjhjfmaaGreatDoorCards
/- PartOrder: partials that can all be taken, in whatever order they come, are the same as one; the law returns true, and what it was handed reads as it did. -/
namespace Go.Proofs.YtedaafmfjhjfmaaGreatDoor
open Go.ChangeShapes Go.WideShapes Go.ChangeAt Go.WideMaps Go.WideElems Go.RowKit
theorem A7e {H:Type} {P:Program} {t:TypeId} {ts:List TypeId} {d:DataW H} {ds:List (DataW H)} (h:(DataW.weightsEach P (t::ts) (d::ds)).all (·≤reachBytes)=true):(∀n∈d.weights P t,n≤reachBytes)∧(DataW.weightsEach P ts ds).all (·≤reachBytes)=true:=by
 unfold DataW.weightsEach at h
 rw[List.all_append,Bool.and_eq_true] at h
 refine⟨fun n hn=>?_,h.2⟩
 have:=List.all_eq_true.1 h.1 n hn
 simpa using this
set_option maxRecDepth 100000 in
theorem A7f (os:Os) (started:os.Started) (H:Type) (enc:TypeId×Value→H):
  ReturnsInHanded {} Tryz.checked os 5 .any (fun w args=>(Rows.partOrderSpec.pre enc Tryz.prog Tryz.f5 [] false w args∧laidMetH Tryz.prog Md w)∧sizedMet enc Tryz.prog Tryz.f5 (OpenSpec.ofChange Rows.partOrderSpec) false w args)
   (Rows.partOrderSpec.post enc Tryz.prog Tryz.f5 false true false false):=by
 refine returnsInHanded_of_change_and (C:=Tryz.checked) (X:=fun w _=>laidMetH Tryz.prog Md w) (fun _ _ _ hh h=>h.of_heap hh) own started (by kernel_rfl) Tryz.func5
  (ChangeSpec.witness_shaped (enc:=enc) (C:=Tryz.checked) (os:=os) (X:=fun w _=>laidMetH Tryz.prog Md w) false (worldHA os) #[.agg #[.int .i64 0,.slice none 0 0,.slice none 0 0,.int .i64 0,.int .i64 0],.slice none 0 0,.int .u8 0] 40 rfl (World.shaped_of_RefB (by kernel_rfl) (by kernel_rfl)) (by kernel_rfl) (by kernel_rfl) (by kernel_rfl) (Awy os _)) ?_
 intro W base args ds gs before hval0 hW _ hWt hL _
 have hval:∀(j:Nat) t v,Tryz.f5.params[j]?=some t→args[j]?=some v→Value.okWide Tryz.prog W .any base t v:=hval0
 have hW':=hW
 obtain⟨p,q,hA0,hV,rfl,hfz,hnd⟩:=hW
 have hA:DataW.TrodAll enc Tryz.prog W 0 (fun _=>true) true Tryz.f5.params.toList args.toList ds p:=hA0
 rw[Tryz.params5] at hA hval
 obtain⟨v0,vs0,d0,ds0,p0,q0,hargs,rfl,rfl,h0,r0⟩:=trodAll_cons hA
 obtain⟨v1,vs1,d1,ds1,p1,q1,rfl,rfl,rfl,h1,r1⟩:=trodAll_cons r0
 obtain⟨v2,vs2,d2,ds2,p2,q2,rfl,rfl,rfl,h2,r2⟩:=trodAll_cons r1
 obtain⟨rfl,rfl,rfl⟩:=trodAll_nil r2
 obtain rfl:args=#[v0,v1,v2]:=by cases args;simp_all
 obtain⟨rfl,rfl⟩:=trodVars_none hV
 obtain⟨hw0,_⟩:=A7e hWt
 obtain⟨c,e0,hc⟩:=A6p (hval 0 _ v0 rfl rfl) h0 hw0
 obtain⟨Ab,cb,l,e1,hcap,rb,hl⟩:=A6v (hval 1 _ v1 rfl rfl) h1
 obtain⟨tu,e2⟩:=A6r (hval 2 _ v2 rfl rfl) h2
 have hg:=Awx hL
 clear hA0 hval0
 have hwalk:=A7d c Ab cb l tu W hg hc hcap rb hl
 rw[←e0,←e1,←e2] at hwalk
 refine hwalk.mono fun e W' ⟨he,bel⟩=>?_
 subst he
 exact⟨_,rfl,_,_,_,[],_,[],hW',trodAll_mk1 (shut_bool Tryz.underlying4 _),(trodAll_cons_mk (Below.trod R4 (by kernel_rfl) (of_decide_eq_true (by kernel_rfl)) h0 bel (R6 h0)) (trodAll_cons_mk (Below.trod R4 (by kernel_rfl) (of_decide_eq_true (by kernel_rfl)) h1 bel (R6 h1)) (trodAll_cons_mk (Below.trod R4 (by kernel_rfl) (of_decide_eq_true (by kernel_rfl)) h2 bel (R6 h2)) trodAll_mk0))),rfl,bel.frame _,fun h=>by cases h⟩
theorem A7g:Rows.PartOrderSaid:=
 OpenClaim.holds_of_wide 5 Tryz.f5 rfl rfl rfl rfl rfl rfl rfl ⟨rfl,rfl,rfl,rfl,rfl⟩ rfl rfl rfl rfl rfl (by kernel_rfl) Tryz.func5 (by kernel_rfl)
  (of_decide_eq_true (by kernel_rfl)) (by unfold Func.isWrapper;first|(rw[if_pos (by decide+kernel)];kernel_rfl)|(rw[if_neg (by decide+kernel)];exact⟨rfl,rfl⟩))
  (fun os started H enc _=>A7f os started H enc)
end Go.Proofs.YtedaafmfjhjfmaaGreatDoor
