/- EscrowTells: for whatever is asked for, and any peers, the law returns true, and what it was handed reads as it did. -/
import Derived.Test.YteiifdpikcnbgaaDoorPreD
import Derived.Test.YteiifdpikcnbgaaDoorCe0
import Derived.Test.YteiifdpikcnbgaaDoorEsI
import Derived.Test.YteiifdpikcnbgaaDoorCards
namespace Go.Proofs.YteiifdpikcnbgaaDoor
open Go.ChangeShapes Go.WideShapes Go.ChangeAt Go.WideMaps Go.WideElems Go.RowKit
set_option maxRecDepth 100000 in
theorem escrowTells_lifted (os : Os) (started : os.Started) (H : Type) (enc : TypeId × Value → H) :
    ReturnsInHanded {} Tryd.checked os 6 .any (fun w args => (Rows.escrowTellsSpec.pre enc Tryd.prog Tryd.f6 [] false w args ∧ laidMetH Tryd.prog laidHD w) ∧ sizedMet enc Tryd.prog Tryd.f6 (OpenSpec.ofChange Rows.escrowTellsSpec) false w args)
      (Rows.escrowTellsSpec.post enc Tryd.prog Tryd.f6 false true false false) := by
  refine returnsInHanded_of_change_and (C := Tryd.checked) (X := fun w _ => laidMetH Tryd.prog laidHD w) (fun _ _ _ hh h => h.of_heap hh) own started (by kernel_rfl) Tryd.func6
    (ChangeSpec.witness_shaped (enc := enc) (C := Tryd.checked) (os := os) (X := fun w _ => laidMetH Tryd.prog laidHD w) false (worldHD os) #[.agg #[.int .i64 0, .int .i64 0, .int .u64 0, .int .u64 0, .slice none 0 0, .slice none 0 0, .int .i64 0, .int .u64 0, .int .i64 0, .int .u64 0, .int .u64 0, .int .u64 0], .slice none 0 0] 40 rfl (World.shaped_of_RefB (by kernel_rfl) (by kernel_rfl)) (by kernel_rfl) (by kernel_rfl) (by kernel_rfl) (laidHD_start os _)) ?_
  intro W base args ds gs before hval0 hW _ _ hL _
  have hval : ∀ (j : Nat) t v, Tryd.f6.params[j]? = some t → args[j]? = some v → Value.okWide Tryd.prog W .any base t v := hval0
  have hW' := hW
  obtain ⟨p, q, hA0, hV, rfl, hfz, hnd⟩ := hW
  have hA : DataW.TrodAll enc Tryd.prog W 0 (fun _ => true) true Tryd.f6.params.toList args.toList ds p := hA0
  rw [Tryd.params6] at hA hval
  obtain ⟨v0, vs0, d0, ds0, p0, q0, hargs, rfl, rfl, h0, r0⟩ := trodAll_cons hA
  obtain ⟨v1, vs1, d1, ds1, p1, q1, rfl, rfl, rfl, h1, r1⟩ := trodAll_cons r0
  obtain ⟨rfl, rfl, rfl⟩ := trodAll_nil r1
  obtain rfl : args = #[v0, v1] := by cases args; simp_all
  obtain ⟨rfl, rfl⟩ := trodVars_none hV
  obtain ⟨me, gen, self, key, AF, cF, of, AN, cN, an, need, k2, from_, t0, t1, e0, bF, rF, bN, rN⟩ := openAsk25 (hval 0 _ v0 rfl rfl) h0
  obtain ⟨A, c, l, e1, b1, r1'⟩ := openPeers (hval 1 _ v1 rfl rfl) h1
  obtain ⟨hk, hg, ht⟩ := of_laidHD hL
  clear hA0 hval0
  have hwalk := escrowTells_any me gen need self key k2 t0 t1 from_ of an l A c AF cF AN cN W b1 bF bN r1' rF rN hk hg ht
  have e3 : (List.map (Sv.val []) [(.x (.g [.v (.int .i64 me), .v (.int .i64 gen), .v (vU64 self), .v (vU64 key), .v (.slice AF of.length cF), .v (.slice AN an.length cN), .v (.int .i64 need), .v (vU64 k2), .v (.int .i64 from_.1), .v (vU64 from_.2), .v (vU64 t0), .v (vU64 t1)])), .x (.a (.v (.slice A l.length c)))]).toArray = #[v0, v1] := by rw [e0, e1]; rfl
  rw [e3] at hwalk
  refine hwalk.mono fun e W' ⟨he, bel⟩ => ?_
  subst he
  exact ⟨_, rfl, _, _, _, [], _, [], hW', trodAll_mk1 (shut_bool Tryd.underlying4 _), (trodAll_cons_mk (Below.trod laidOut (by kernel_rfl) (of_decide_eq_true (by kernel_rfl)) h0 bel (lt_trod h0)) (trodAll_cons_mk (Below.trod laidOut (by kernel_rfl) (of_decide_eq_true (by kernel_rfl)) h1 bel (lt_trod h1)) trodAll_mk0)), rfl, bel.frame _, fun h => by cases h⟩
theorem escrowTells_holds : Rows.EscrowTellsSaid :=
  OpenClaim.holds_of_wide 6 Tryd.f6 rfl rfl rfl rfl rfl rfl rfl ⟨rfl, rfl, rfl, rfl, rfl⟩ rfl rfl rfl rfl rfl (by kernel_rfl) Tryd.func6 (by kernel_rfl)
    (of_decide_eq_true (by kernel_rfl)) (by unfold Func.isWrapper; first | (rw [if_pos (by decide +kernel)]; kernel_rfl) | (rw [if_neg (by decide +kernel)]; exact ⟨rfl, rfl⟩))
    (fun os started H enc _ => escrowTells_lifted os started H enc)
end Go.Proofs.YteiifdpikcnbgaaDoor
