/- SealApart: for any two seeds, salts and lists the law returns true, and what it was handed reads as it did. -/
import Derived.Test.YtkchdhkpjnnliaaDoorPreS
import Derived.Test.YtkchdhkpjnnliaaDoorSe7
import Derived.Test.YtkchdhkpjnnliaaDoorCards
namespace Go.Proofs.YtkchdhkpjnnliaaDoor
open Go.ChangeShapes Go.WideShapes Go.ChangeAt Go.WideMaps Go.WideElems Go.RowKit
set_option maxRecDepth 100000 in
theorem openL2 {H : Type} {enc : TypeId × Value → H} {W : World} {v : Value} {d : DataW H} {ps : List MemPlace} {r : Reach} {b : Nat} (hv : Value.okWide Tryd.prog W r b 40 v) (h : DataW.Trod enc Tryd.prog W 0 (fun _ => true) true 40 v d ps) :
    ∃ X Y : Ls, v = (Sv.x (.g [.v (.slice X.A X.L.length X.c), .v (.slice Y.A Y.L.length Y.c)])).val [] ∧ Good W X ∧ Good W Y := by
  simp only [Value.okWide, Tryd.underlying40] at hv
  obtain ⟨cs, rfl, _, _⟩ := hv
  obtain ⟨fuel, hf⟩ := h
  have hc2 : Tryd.prog.cellsOf 40 = 2 := by kernel_rfl
  have hc1 : Tryd.prog.cellsOf 24 = 1 := by kernel_rfl
  have hcells : (Value.agg cs).cells.toList = cs.toList := rfl
  rw [hcells] at hf
  obtain ⟨xs, n, _, _, hlen, hxl, hel⟩ := DataW.trod_array Tryd.underlying40 hf
  have h0 := hel 0 (by omega)
  have h1 := hel 1 (by omega)
  rw [hc1, List.getElem?_eq_getElem (by omega)] at h0 h1
  rw [hc2] at hlen
  obtain ⟨A0, c0, L0, e0, r0, q0⟩ := rowLL h0
  obtain ⟨A1, c1, L1, e1, r1, q1⟩ := rowLL h1
  refine ⟨⟨A0, c0, L0⟩, ⟨A1, c1, L1⟩, ?_, ⟨FV.no r0, fun y hy => FV.no (q0 y hy)⟩, ⟨FV.no r1, fun y hy => FV.no (q1 y hy)⟩⟩
  show Value.agg cs = .agg #[.slice A0 L0.length c0, .slice A1 L1.length c1]
  congr 1
  apply Array.ext'
  have hl : cs.toList.length = 2 := hlen
  match hcs : cs.toList, hl with
  | [x, y], _ =>
    rw [hcs] at e0 e1
    simp only [Nat.zero_mul, List.drop_zero, List.take_succ_cons, List.take_zero, List.cons.injEq, and_true] at e0
    simp only [Nat.one_mul, List.drop_succ_cons, List.drop_zero, List.take_succ_cons, List.take_zero, List.cons.injEq, and_true] at e1
    rw [e0, e1]
set_option maxRecDepth 100000 in
theorem sealApart_lifted (os : Os) (started : os.Started) (H : Type) (enc : TypeId × Value → H) :
    ReturnsInHanded {} Tryd.checked os 4 .any (fun w args => (Rows.sealApartSpec.pre enc Tryd.prog Tryd.f4 [] false w args ∧ laidMetH Tryd.prog laidR w) ∧ sizedMet enc Tryd.prog Tryd.f4 (OpenSpec.ofChange Rows.sealApartSpec) false w args)
      (Rows.sealApartSpec.post enc Tryd.prog Tryd.f4 false true false false) := by
  refine returnsInHanded_of_change_and (C := Tryd.checked) (X := fun w _ => laidMetH Tryd.prog laidR w) (fun _ _ _ hh h => h.of_heap hh) own started (by kernel_rfl) Tryd.func4
    (ChangeSpec.witness_shaped (enc := enc) (C := Tryd.checked) (os := os) (X := fun w _ => laidMetH Tryd.prog laidR w) false (World.laidAll Tryd.prog os laidR) #[.agg #[.int .u64 0, .int .u64 0], .agg #[.int .u64 0, .int .u64 0], .agg #[.slice none 0 0, .slice none 0 0]] 40 rfl (World.shaped_of_RefB (by kernel_rfl) (by kernel_rfl)) (by kernel_rfl) (by kernel_rfl) (by kernel_rfl) (laid_start os _)) ?_
  intro W base args ds gs before hval0 hW _ _ hL _
  have hval : ∀ (j : Nat) t v, Tryd.f4.params[j]? = some t → args[j]? = some v → Value.okWide Tryd.prog W .any base t v := hval0
  have hW' := hW
  obtain ⟨p, q, hA0, hV, rfl, hfz, hnd⟩ := hW
  have hA : DataW.TrodAll enc Tryd.prog W 0 (fun _ => true) true Tryd.f4.params.toList args.toList ds p := hA0
  rw [Tryd.params4] at hA hval
  obtain ⟨v0, vs0, d0, ds0, p0, q0, hargs, rfl, rfl, h0, r0⟩ := trodAll_cons hA
  obtain ⟨v1, vs1, d1, ds1, p1, q1, rfl, rfl, rfl, h1, r1⟩ := trodAll_cons r0
  obtain ⟨v2, vs2, d2, ds2, p2, q2, rfl, rfl, rfl, h2, r2⟩ := trodAll_cons r1
  obtain ⟨rfl, rfl, rfl⟩ := trodAll_nil r2
  obtain rfl : args = #[v0, v1, v2] := by cases args; simp_all
  obtain ⟨rfl, rfl⟩ := trodVars_none hV
  obtain ⟨x0, x1, e0⟩ := openU2 (hval 0 _ v0 rfl rfl) h0
  obtain ⟨y0, y1, e1⟩ := openU2 (hval 1 _ v1 rfl rfl) h1
  obtain ⟨X, Y, e2, GX, GY⟩ := openL2 (hval 2 _ v2 rfl rfl) h2
  clear hA0 hval0
  have hwalk := sealApart_any x0 x1 y0 y1 X Y W GX GY (laidK_of_laid hL)
  have e3 : (List.map (Sv.val []) [.x (.a64 [x0, x1]), .x (.a64 [y0, y1]), .x (.g [.v (.slice X.A X.L.length X.c), .v (.slice Y.A Y.L.length Y.c)])]).toArray = #[v0, v1, v2] := by rw [e0, e1, e2]; rfl
  rw [e3] at hwalk
  refine hwalk.mono fun e W' ⟨he, bel⟩ => ?_
  subst he
  exact ⟨_, rfl, _, _, _, [], _, [], hW', trodAll_mk1 (shut_bool Tryd.underlying4 _), (trodAll_cons_mk (Below.trod laidOut (by kernel_rfl) (of_decide_eq_true (by kernel_rfl)) h0 bel (lt_trod h0)) (trodAll_cons_mk (Below.trod laidOut (by kernel_rfl) (of_decide_eq_true (by kernel_rfl)) h1 bel (lt_trod h1)) (trodAll_cons_mk (Below.trod laidOut (by kernel_rfl) (of_decide_eq_true (by kernel_rfl)) h2 bel (lt_trod h2)) trodAll_mk0))), rfl, bel.frame _, fun h => by cases h⟩
theorem sealApart_holds : Rows.SealApartSaid :=
  OpenClaim.holds_of_wide 4 Tryd.f4 rfl rfl rfl rfl rfl rfl rfl ⟨rfl, rfl, rfl, rfl, rfl⟩ rfl rfl rfl rfl rfl (by kernel_rfl) Tryd.func4 (by kernel_rfl)
    (of_decide_eq_true (by kernel_rfl)) (by unfold Func.isWrapper; first | (rw [if_pos (by decide +kernel)]; kernel_rfl) | (rw [if_neg (by decide +kernel)]; exact ⟨rfl, rfl⟩))
    (fun os started H enc _ => sealApart_lifted os started H enc)
end Go.Proofs.YtkchdhkpjnnliaaDoor
