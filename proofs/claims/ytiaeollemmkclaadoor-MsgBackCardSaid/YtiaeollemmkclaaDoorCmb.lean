import Derived.Test.YtiaeollemmkclaaDoorOpn
import Derived.Test.YtiaeollemmkclaaDoorPkI
import Derived.Test.YtiaeollemmkclaaDoorMgG
import Derived.Test.YtiaeollemmkclaaDoorPreA
import Derived.Test.YtiaeollemmkclaaDoorCards
/- What opens law 13's arguments: a field, a row of fields, a short number. -/
namespace Go.Proofs.YtiaeollemmkclaaDoor
open Go.ChangeShapes Go.WideShapes Go.ChangeAt Go.WideMaps Go.WideElems Go.RowKit
section
variable {H : Type} {enc : TypeId × Value → H} {W : World}
set_option maxRecDepth 100000 in
theorem key32p : ArrKey Tryd.prog 29 5 32 := ⟨Tryd.underlying29, by kernel_rfl, by kernel_rfl, by kernel_rfl⟩
set_option maxRecDepth 100000 in
theorem openU16 {v : Value} {d : DataW H} {ps : List MemPlace} {r : Reach} {b : Nat} (hv : Value.okWide Tryd.prog W r b 55 v) (h : DataW.Trod enc Tryd.prog W 0 (fun _ => true) true 55 v d ps) : ∃ n : Nat, v = .int .u16 n ∧ n < 65536 := by
  obtain ⟨m, rfl⟩ := okWide_int Tryd.underlying55 hv
  obtain ⟨fuel, hf⟩ := h
  obtain ⟨n, h1, h2⟩ := Opn.int (k := .u16) Tryd.underlying55 fuel _ _ hf
  obtain rfl : m = n := by simpa [Value.cells] using h1
  simp only [Lit.wf, Bool.and_eq_true, decide_eq_true_eq] at h2
  have h2 : 0 ≤ m ∧ m ≤ 65535 := h2
  exact ⟨m.toNat, by congr 1; omega, by omega⟩
end
end Go.Proofs.YtiaeollemmkclaaDoor
/- What opens law 16's arguments: a message. -/
namespace Go.Proofs.YtiaeollemmkclaaDoor
open Go.ChangeShapes Go.WideShapes Go.ChangeAt Go.WideMaps Go.WideElems Go.RowKit
section
variable {H : Type} {enc : TypeId × Value → H} {W : World}
set_option maxRecDepth 100000 in
theorem opnPr : Opn enc Tryd.prog W 166 pv (fun _ => True) := fun fuel cs y h => by
  obtain ⟨⟨a, b, _⟩, h1, _⟩ := (Opn.struct (m := 2) Tryd.underlying166 (by kernel_rfl) (OpnF.cons (k := 1) rfl (by kernel_rfl) (Opn.i64 Tryd.underlying3) (OpnF.cons (k := 1) rfl (by kernel_rfl) (Opn.u64 Tryd.underlying27) OpnF.nil))) fuel cs y h
  exact ⟨(a, b), h1, trivial⟩
set_option maxRecDepth 100000 in
theorem opnMg : Opn enc Tryd.prog W 83 mgV (fun m : MgR => m.Wide W) := fun fuel cs y h => by
  obtain ⟨⟨k, pl, ot, cl, ge, nu, sm, ids, ns, ps, xs, re, _⟩, h1, _, _, _, _, _, _, hs, ⟨i1, _, i3, _⟩, ⟨n1, _, n3, _⟩, ⟨p1, _, p3, _⟩, ⟨x1, _, x3, _⟩, _⟩ := (Opn.struct (m := 43) Tryd.underlying83 (by kernel_rfl)
    (OpnF.cons (k := 1) rfl (by kernel_rfl) (Opn.u8 Tryd.underlying5) (OpnF.cons (k := 1) rfl (by kernel_rfl) (Opn.i64 Tryd.underlying3) (OpnF.cons (k := 1) rfl (by kernel_rfl) (Opn.i64 Tryd.underlying3) (OpnF.cons (k := 1) rfl (by kernel_rfl) (Opn.i64 Tryd.underlying3) (OpnF.cons (k := 1) rfl (by kernel_rfl) (Opn.i64 Tryd.underlying3) (OpnF.cons (k := 1) rfl (by kernel_rfl) (Opn.u64 Tryd.underlying27)
    (OpnF.cons (k := 32) rfl (by kernel_rfl) (Opn.arr8 key32p Tryd.underlying5) (OpnF.cons (k := 1) rfl (by kernel_rfl) (Opn.ones Tryd.underlying69 (by kernel_rfl) (Opn.i64 Tryd.underlying3)) (OpnF.cons (k := 1) rfl (by kernel_rfl) (Opn.ones Tryd.underlying28 (by kernel_rfl) (Opn.u64 Tryd.underlying27))
    (OpnF.cons (k := 1) rfl (by kernel_rfl) (Opn.slice (m := 2) Tryd.underlying81 (by kernel_rfl) (by omega) pv_len opnPr) (OpnF.cons (k := 1) rfl (by kernel_rfl) (Opn.ones Tryd.underlying30 (by kernel_rfl) (Opn.u32 Tryd.underlying136)) (OpnF.cons (k := 1) rfl (by kernel_rfl) (Opn.i64 Tryd.underlying3) OpnF.nil))))))))))))) fuel cs y h
  refine ⟨⟨k, pl, ot, cl, ge, nu, sm, ⟨ids.A, ids.c, ids.l⟩, ⟨ns.A, ns.c, ns.l⟩, ⟨ps.A, ps.c, ps.l⟩, ⟨xs.A, xs.c, xs.l⟩, re⟩, ?_, ⟨hs, ⟨i1, i3⟩, ⟨n1, n3⟩, ⟨p1, p3⟩, ⟨x1, x3⟩⟩⟩
  rw [h1]
  rfl
set_option maxRecDepth 100000 in
theorem openMg {v : Value} {d : DataW H} {ps : List MemPlace} {r : Reach} {b : Nat} (hv : Value.okWide Tryd.prog W r b 83 v) (h : DataW.Trod enc Tryd.prog W 0 (fun _ => true) true 83 v d ps) :
    ∃ m : MgR, v = .agg (mgV m).toArray ∧ m.Wide W := opnMg.useS Tryd.underlying83 hv h
end
end Go.Proofs.YtiaeollemmkclaaDoor
/- MsgBack: what is said comes back; cut short, or longer, it is none; two have the same bytes just if they are the same; the law returns true, and what it was handed reads as it did. -/
namespace Go.Proofs.YtiaeollemmkclaaDoor
open Go.ChangeShapes Go.WideShapes Go.ChangeAt Go.WideMaps Go.WideElems Go.RowKit
set_option maxRecDepth 100000 in
theorem msgBack_lifted (os : Os) (started : os.Started) (H : Type) (enc : TypeId × Value → H) :
    ReturnsInHanded {} Tryd.checked os 7 .any (fun w args => (Rows.msgBackSpec.pre enc Tryd.prog Tryd.f7 [] false w args ∧ laidMetH Tryd.prog laidHA w) ∧ sizedMet enc Tryd.prog Tryd.f7 (OpenSpec.ofChange Rows.msgBackSpec) false w args)
      (Rows.msgBackSpec.post enc Tryd.prog Tryd.f7 false true false false) := by
  refine returnsInHanded_of_change_and (C := Tryd.checked) (X := fun w _ => laidMetH Tryd.prog laidHA w) (fun _ _ _ hh h => h.of_heap hh) own started (by kernel_rfl) Tryd.func7
    (ChangeSpec.witness_shaped (enc := enc) (C := Tryd.checked) (os := os) (X := fun w _ => laidMetH Tryd.prog laidHA w) false (worldHA os) #[.agg (mgV zeroR).toArray, .agg (mgV zeroR).toArray, .int .u16 0] 40 rfl (World.shaped_of_RefB (by kernel_rfl) (by kernel_rfl)) (by kernel_rfl) (by kernel_rfl) (by kernel_rfl) (laidHA_start os _)) ?_
  intro W base args ds gs before hval0 hW _ _ hL _
  have hval : ∀ (j : Nat) t v, Tryd.f7.params[j]? = some t → args[j]? = some v → Value.okWide Tryd.prog W .any base t v := hval0
  have hW' := hW
  obtain ⟨p, q, hA0, hV, rfl, hfz, hnd⟩ := hW
  have hA : DataW.TrodAll enc Tryd.prog W 0 (fun _ => true) true Tryd.f7.params.toList args.toList ds p := hA0
  rw [Tryd.params7] at hA hval
  obtain ⟨v0, vs0, d0, ds0, p0, q0, hargs, rfl, rfl, h0, r0⟩ := trodAll_cons hA
  obtain ⟨v1, vs1, d1, ds1, p1, q1, rfl, rfl, rfl, h1, r1⟩ := trodAll_cons r0
  obtain ⟨v2, vs2, d2, ds2, p2, q2, rfl, rfl, rfl, h2, r2⟩ := trodAll_cons r1
  obtain ⟨rfl, rfl, rfl⟩ := trodAll_nil r2
  obtain rfl : args = #[v0, v1, v2] := by cases args; simp_all
  obtain ⟨rfl, rfl⟩ := trodVars_none hV
  obtain ⟨a, e0, ha⟩ := openMg (hval 0 _ v0 rfl rfl) h0
  obtain ⟨b, e1, hb⟩ := openMg (hval 1 _ v1 rfl rfl) h1
  obtain ⟨cut, e2, hcut⟩ := openU16 (hval 2 _ v2 rfl rfl) h2
  have hg := of_laidHA hL
  clear hA0 hval0
  have hwalk := msgBack_any a b cut W hcut ha hb hg
  have hargs2 : (List.map (Sv.val []) [.x (.g (mgA a)), .x (.g (mgA b)), .x (.a (.v (.int .u16 cut)))]).toArray = #[v0, v1, v2] := by
    rw [e0, e1, e2]
    simp only [List.map_cons, List.map_nil, mgA_sv]
    rfl
  rw [hargs2] at hwalk
  refine hwalk.mono fun e W' ⟨he, bel⟩ => ?_
  subst he
  exact ⟨_, rfl, _, _, _, [], _, [], hW', trodAll_mk1 (shut_bool Tryd.underlying4 _), (trodAll_cons_mk (Below.trod laidOut (by kernel_rfl) (of_decide_eq_true (by kernel_rfl)) h0 bel (lt_trod h0)) (trodAll_cons_mk (Below.trod laidOut (by kernel_rfl) (of_decide_eq_true (by kernel_rfl)) h1 bel (lt_trod h1)) (trodAll_cons_mk (Below.trod laidOut (by kernel_rfl) (of_decide_eq_true (by kernel_rfl)) h2 bel (lt_trod h2)) trodAll_mk0))), rfl, bel.frame _, fun h => by cases h⟩
theorem msgBack_holds : Rows.MsgBackSaid :=
  OpenClaim.holds_of_wide 7 Tryd.f7 rfl rfl rfl rfl rfl rfl rfl ⟨rfl, rfl, rfl, rfl, rfl⟩ rfl rfl rfl rfl rfl (by kernel_rfl) Tryd.func7 (by kernel_rfl)
    (of_decide_eq_true (by kernel_rfl)) (by unfold Func.isWrapper; first | (rw [if_pos (by decide +kernel)]; kernel_rfl) | (rw [if_neg (by decide +kernel)]; exact ⟨rfl, rfl⟩))
    (fun os started H enc _ => msgBack_lifted os started H enc)
end Go.Proofs.YtiaeollemmkclaaDoor
