/- DrawFirst: for any number, and bytes, the law returns true, and what it was handed reads as it did. -/
import Derived.Test.YtohnlajccfnecaaDoorPreD
import Derived.Test.YtohnlajccfnecaaDoorPreU
import Derived.Test.YtohnlajccfnecaaDoorPreP
import Derived.Test.YtohnlajccfnecaaDoorDr6
import Derived.Test.YtohnlajccfnecaaDoorCards
namespace Go.Proofs.YtohnlajccfnecaaDoor
open Go.ChangeShapes Go.WideShapes Go.ChangeAt Go.WideMaps Go.WideElems Go.RowKit
set_option maxRecDepth 100000 in
theorem drawFirst_lifted (os : Os) (started : os.Started) (H : Type) (enc : TypeId × Value → H) :
    ReturnsInHanded {} Tryd.checked os 6 .any (fun w args => (Rows.drawFirstSpec.pre enc Tryd.prog Tryd.f6 [] false w args ∧ laidMetH Tryd.prog laidHD w) ∧ sizedMet enc Tryd.prog Tryd.f6 (OpenSpec.ofChange Rows.drawFirstSpec) false w args)
      (Rows.drawFirstSpec.post enc Tryd.prog Tryd.f6 false true false false) := by
  refine returnsInHanded_of_change_and (C := Tryd.checked) (X := fun w _ => laidMetH Tryd.prog laidHD w) (fun _ _ _ hh h => h.of_heap hh) own started (by kernel_rfl) Tryd.func6
    (ChangeSpec.witness_shaped (enc := enc) (C := Tryd.checked) (os := os) (X := fun w _ => laidMetH Tryd.prog laidHD w) false (worldHD os) #[.int .u64 0, .agg #[.int .u8 0, .int .u8 0], .agg #[.int .u8 0, .int .u8 0]] 40 rfl (World.shaped_of_RefB (by kernel_rfl) (by kernel_rfl)) (by kernel_rfl) (by kernel_rfl) (by kernel_rfl) (laidHD_start os _)) ?_
  intro W base args ds gs before hval0 hW _ _ hL _
  have hval : ∀ (j : Nat) t v, Tryd.f6.params[j]? = some t → args[j]? = some v → Value.okWide Tryd.prog W .any base t v := hval0
  have hW' := hW
  obtain ⟨p, q, hA0, hV, rfl, hfz, hnd⟩ := hW
  have hA : DataW.TrodAll enc Tryd.prog W 0 (fun _ => true) true Tryd.f6.params.toList args.toList ds p := hA0
  rw [Tryd.params6] at hA hval
  obtain ⟨v0, vs0, d0, ds0, p0, q0, hargs, rfl, rfl, h0, r0⟩ := trodAll_cons hA
  obtain ⟨v1, vs1, d1, ds1, p1, q1, rfl, rfl, rfl, h1, r1⟩ := trodAll_cons r0
  obtain ⟨v2, vs2, d2, ds2, p2, q2, rfl, rfl, rfl, h2, r2⟩ := trodAll_cons r1
  obtain ⟨rfl, rfl, rfl⟩ := trodAll_nil r2
  obtain rfl : args = #[v0, v1, v2] := by cases args; simp_all
  obtain ⟨rfl, rfl⟩ := trodVars_none hV
  obtain ⟨x0, e0⟩ := openU64 (hval 0 _ v0 rfl rfl) h0
  obtain ⟨a1, b1, e1⟩ := openB2 (hval 1 _ v1 rfl rfl) h1
  obtain ⟨a2, b2, e2⟩ := openB2 (hval 2 _ v2 rfl rfl) h2
  obtain ⟨hk, hg, ht⟩ := of_laidHD hL
  clear hA0 hval0
  have hwalk := drawFirst_any x0 a1 b1 a2 b2 W hk hg ht
  have e3 : (List.map (Sv.val []) [.x (.a (.v (vU64 x0))), .x (.a8 [a1, b1]), .x (.a8 [a2, b2])]).toArray = #[v0, v1, v2] := by rw [e0, e1, e2]; rfl
  rw [e3] at hwalk
  refine hwalk.mono fun e W' ⟨he, bel⟩ => ?_
  subst he
  exact ⟨_, rfl, _, _, _, [], _, [], hW', trodAll_mk1 (shut_bool Tryd.underlying4 _), (trodAll_cons_mk (Below.trod laidOut (by kernel_rfl) (of_decide_eq_true (by kernel_rfl)) h0 bel (lt_trod h0)) (trodAll_cons_mk (Below.trod laidOut (by kernel_rfl) (of_decide_eq_true (by kernel_rfl)) h1 bel (lt_trod h1)) (trodAll_cons_mk (Below.trod laidOut (by kernel_rfl) (of_decide_eq_true (by kernel_rfl)) h2 bel (lt_trod h2)) trodAll_mk0))), rfl, bel.frame _, fun h => by cases h⟩
theorem drawFirst_holds : Rows.DrawFirstSaid :=
  OpenClaim.holds_of_wide 6 Tryd.f6 rfl rfl rfl rfl rfl rfl rfl ⟨rfl, rfl, rfl, rfl, rfl⟩ rfl rfl rfl rfl rfl (by kernel_rfl) Tryd.func6 (by kernel_rfl)
    (of_decide_eq_true (by kernel_rfl)) (by unfold Func.isWrapper; first | (rw [if_pos (by decide +kernel)]; kernel_rfl) | (rw [if_neg (by decide +kernel)]; exact ⟨rfl, rfl⟩))
    (fun os started H enc _ => drawFirst_lifted os started H enc)
end Go.Proofs.YtohnlajccfnecaaDoor
