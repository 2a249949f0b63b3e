/- ShamirTells: for whatever is asked for, and any shares, the law returns true, and what it was handed reads as it did. -/
import Derived.Test.YteiifdpikcnbgaaDoorPreE
import Derived.Test.YteiifdpikcnbgaaDoorChs0
import Derived.Test.YteiifdpikcnbgaaDoorSp6
import Derived.Test.YteiifdpikcnbgaaDoorCards
namespace Go.Proofs.YteiifdpikcnbgaaDoor
open Go.ChangeShapes Go.WideShapes Go.ChangeAt Go.WideMaps Go.WideElems Go.RowKit
set_option maxRecDepth 100000 in
theorem shamirTells_lifted (os : Os) (started : os.Started) (H : Type) (enc : TypeId × Value → H) :
    ReturnsInHanded {} Tryd.checked os 7 .any (fun w args => (Rows.shamirTellsSpec.pre enc Tryd.prog Tryd.f7 [] false w args ∧ laidMetH Tryd.prog laidHE w) ∧ sizedMet enc Tryd.prog Tryd.f7 (OpenSpec.ofChange Rows.shamirTellsSpec) false w args)
      (Rows.shamirTellsSpec.post enc Tryd.prog Tryd.f7 false true false false) := by
  refine returnsInHanded_of_change_and (C := Tryd.checked) (X := fun w _ => laidMetH Tryd.prog laidHE w) (fun _ _ _ hh h => h.of_heap hh) own started (by kernel_rfl) Tryd.func7
    (ChangeSpec.witness_shaped (enc := enc) (C := Tryd.checked) (os := os) (X := fun w _ => laidMetH Tryd.prog laidHE w) false (worldHE os) #[.agg #[.int .u64 0, .slice none 0 0, .int .i64 0, .int .i64 0], .slice none 0 0, .slice none 0 0] 40 rfl (World.shaped_of_RefB (by kernel_rfl) (by kernel_rfl)) (by kernel_rfl) (by kernel_rfl) (by kernel_rfl) (laidHE_start os _)) ?_
  intro W base args ds gs before hval0 hW _ _ hL _
  have hval : ∀ (j : Nat) t v, Tryd.f7.params[j]? = some t → args[j]? = some v → Value.okWide Tryd.prog W .any base t v := hval0
  have hW' := hW
  obtain ⟨p, q, hA0, hV, rfl, hfz, hnd⟩ := hW
  have hA : DataW.TrodAll enc Tryd.prog W 0 (fun _ => true) true Tryd.f7.params.toList args.toList ds p := hA0
  rw [Tryd.params7] at hA hval
  obtain ⟨v0, vs0, d0, ds0, p0, q0, hargs, rfl, rfl, h0, r0⟩ := trodAll_cons hA
  obtain ⟨v1, vs1, d1, ds1, p1, q1, rfl, rfl, rfl, h1, r1⟩ := trodAll_cons r0
  obtain ⟨v2, vs2, d2, ds2, p2, q2, rfl, rfl, rfl, h2, r2⟩ := trodAll_cons r1
  obtain ⟨rfl, rfl, rfl⟩ := trodAll_nil r2
  obtain rfl : args = #[v0, v1, v2] := by cases args; simp_all
  obtain ⟨rfl, rfl⟩ := trodVars_none hV
  obtain ⟨s, A3, c3, ch, many, need, e0, b3, r3'⟩ := openAsk04 (hval 0 _ v0 rfl rfl) h0
  obtain ⟨A, c, l, e1, b1, r1'⟩ := openShares04 (hval 1 _ v1 rfl rfl) h1
  obtain ⟨A2, c2, m, e2, b2, r2'⟩ := openShares04 (hval 2 _ v2 rfl rfl) h2
  have hg := of_laidHE hL
  clear hA0 hval0
  have hwalk := tells04_any s ch A3 c3 many need l A c m A2 c2 W b1 b2 b3 r1' r2' r3' hg
  have e3 : (List.map (Sv.val []) [.x (.g [.v (vU64 s), .v (.slice A3 ch.length c3), .v (.int .i64 many), .v (.int .i64 need)]), .x (.a (.v (.slice A l.length c))), .x (.a (.v (.slice A2 m.length c2)))]).toArray = #[v0, v1, v2] := by rw [e0, e1, e2]; rfl
  rw [e3] at hwalk
  refine hwalk.mono fun e W' ⟨he, bel⟩ => ?_
  subst he
  exact ⟨_, rfl, _, _, _, [], _, [], hW', trodAll_mk1 (shut_bool Tryd.underlying4 _), (trodAll_cons_mk (Below.trod laidOut (by kernel_rfl) (of_decide_eq_true (by kernel_rfl)) h0 bel (lt_trod h0)) (trodAll_cons_mk (Below.trod laidOut (by kernel_rfl) (of_decide_eq_true (by kernel_rfl)) h1 bel (lt_trod h1)) (trodAll_cons_mk (Below.trod laidOut (by kernel_rfl) (of_decide_eq_true (by kernel_rfl)) h2 bel (lt_trod h2)) trodAll_mk0))), rfl, bel.frame _, fun h => by cases h⟩
theorem shamirTells_holds : Rows.ShamirTellsSaid :=
  OpenClaim.holds_of_wide 7 Tryd.f7 rfl rfl rfl rfl rfl rfl rfl ⟨rfl, rfl, rfl, rfl, rfl⟩ rfl rfl rfl rfl rfl (by kernel_rfl) Tryd.func7 (by kernel_rfl)
    (of_decide_eq_true (by kernel_rfl)) (by unfold Func.isWrapper; first | (rw [if_pos (by decide +kernel)]; kernel_rfl) | (rw [if_neg (by decide +kernel)]; exact ⟨rfl, rfl⟩))
    (fun os started H enc _ => shamirTells_lifted os started H enc)
end Go.Proofs.YteiifdpikcnbgaaDoor
