import Derived.Test.YtiaeollemmkclaaDoorPreX
import Derived.Test.YtiaeollemmkclaaDoorSc9
import Derived.Test.YtiaeollemmkclaaDoorOpw
import Derived.Test.YtiaeollemmkclaaDoorCards
/- ScriptBack: what is printed is read as it was, and notes and empty lines between make no difference; the law returns true, and what it was handed reads as it did. -/
namespace Go.Proofs.YtiaeollemmkclaaDoor
open Go.ChangeShapes Go.WideShapes Go.ChangeAt Go.WideMaps Go.WideElems Go.RowKit
theorem weight_cons {H : Type} {P : Program} {t : TypeId} {ts : List TypeId} {d : DataW H} {ds : List (DataW H)} (h : (DataW.weightsEach P (t :: ts) (d :: ds)).all (· ≤ reachBytes) = true) : (∀ n ∈ d.weights P t, n ≤ reachBytes) ∧ (DataW.weightsEach P ts ds).all (· ≤ reachBytes) = true := by
  unfold DataW.weightsEach at h
  rw [List.all_append, Bool.and_eq_true] at h
  refine ⟨fun n hn => ?_, h.2⟩
  have := List.all_eq_true.1 h.1 n hn
  simpa using this
set_option maxRecDepth 100000 in
theorem openStr {H : Type} {enc : TypeId × Value → H} {W : World} {v : Value} {d : DataW H} {ps : List MemPlace} {r : Reach} {b : Nat} (hv : Value.okWide Tryd.prog W r b 9 v) (h : DataW.Trod enc Tryd.prog W 0 (fun _ => true) true 9 v d ps) : ∃ s : ByteArray, v = .string s := by
  obtain ⟨s, rfl, _⟩ := Go.ChangeMaps.open_string Tryd.underlying9 hv h
  exact ⟨s, rfl⟩
section
variable {H : Type} {enc : TypeId × Value → H} {W : World}
theorem bytes_str : Tryd.prog.bytesOf 9 = 16 := by kernel_rfl
theorem bytes_cm : Tryd.prog.bytesOf 172 = 40 := by kernel_rfl
set_option maxRecDepth 100000 in
theorem opnCm : OpnW enc Tryd.prog W 172 cmV (fun c : CmR => c.args.l.length ≤ c.args.c ∧ c.args.l.length * 16 ≤ 140737488351232 ∧ RdV W W.heap.size c.args.A (c.args.l.map Value.string)) := fun fuel cs y h hw => by
  obtain ⟨⟨a, s, _⟩, h1, _, ⟨s1, s2, s3, _⟩, _⟩ := (OpnW.struct (m := 2) Tryd.underlying172 (by kernel_rfl)
    (OpnFW.cons (k := 1) rfl (by kernel_rfl) (Opn.str Tryd.underlying9).w (OpnFW.cons (k := 1) rfl (by kernel_rfl) (OpnW.ones Tryd.underlying113 (by kernel_rfl) (Opn.str Tryd.underlying9).w) OpnFW.nil))) fuel cs y h hw
  rw [bytes_str] at s2
  exact ⟨⟨a, ⟨s.A, s.c, s.l⟩⟩, h1, s1, s2, s3⟩
set_option maxRecDepth 100000 in
theorem openCms {v : Value} {d : DataW H} {ps : List MemPlace} {r : Reach} {b : Nat} (hv : Value.okWide Tryd.prog W r b 104 v) (h : DataW.Trod enc Tryd.prog W 0 (fun _ => true) true 104 v d ps) (hw : ∀ n ∈ d.weights Tryd.prog 104, n ≤ reachBytes) :
    ∃ x : SlV CmR, v = x.val ∧ CmsI x W := by
  obtain ⟨x, h1, s1, s2, s3, s4⟩ := (OpnW.slice (m := 2) Tryd.underlying104 (by kernel_rfl) (by omega) cmV_len opnCm).useL Tryd.underlying104 hv h hw
  rw [bytes_cm] at s2
  exact ⟨⟨x.A, x.c, x.l⟩, h1, s1, s2, s3, s4⟩
end
set_option maxRecDepth 100000 in
theorem scriptBack_lifted (os : Os) (started : os.Started) (H : Type) (enc : TypeId × Value → H) :
    ReturnsInHanded {} Tryd.checked os 8 .any (fun w args => (Rows.scriptBackSpec.pre enc Tryd.prog Tryd.f8 [] false w args ∧ laidMetH Tryd.prog laidHX w) ∧ sizedMet enc Tryd.prog Tryd.f8 (OpenSpec.ofChange Rows.scriptBackSpec) false w args)
      (Rows.scriptBackSpec.post enc Tryd.prog Tryd.f8 false true false false) := by
  refine returnsInHanded_of_calls own started (by kernel_rfl)
    (ChangeSpec.witness_shaped (enc := enc) (C := Tryd.checked) (os := os) (X := fun w _ => laidMetH Tryd.prog laidHX w) false (worldHX os) #[.slice none 0 0, .string .empty] 40 rfl (World.shaped_of_RefB (by kernel_rfl) (by kernel_rfl)) (by kernel_rfl) (by kernel_rfl) (by kernel_rfl) (laidHX_start os _)) ?_
  intro w tape i _ hsh _ hok hpre _
  obtain ⟨_, _, _, fn, hfn, _, _, _, _, hval0⟩ := hok
  obtain rfl := Option.some.inj (hfn.symm.trans Tryd.func8)
  obtain ⟨⟨⟨ds, gs, before, hW0, _⟩, hx0⟩, hz⟩ := hpre
  have hW1 := DataW.Whole.of_heap (w' := w.forCall tape i) (by rfl) hW0
  have hWt := hz.weights hW0
  have hL := hx0.of_heap (w' := w.forCall tape i) (by rfl)
  clear hx0 hW0 hz
  suffices hs : Calls _ _ i.args (w.forCall tape i) fun e W' => ∃ v, e = .returned v ∧ Rows.scriptBackSpec.post enc Tryd.prog Tryd.f8 false true false false (w.forCall tape i) i.args v W' by
    refine hs.mono fun e W' ⟨v, he, hp⟩ => ?_
    subst he
    exact ChangeSpec.post_blind hp
  generalize w.forCall tape i = W at *
  generalize i.args = args at *
  generalize w.heap.size = base at *
  have hW := hW1
  have hval : ∀ (j : Nat) t v, Tryd.f8.params[j]? = some t → args[j]? = some v → Value.okWide Tryd.prog W .any base t v := hval0
  have hW' := hW
  obtain ⟨p, q, hA0, hV, rfl, hfz, hnd⟩ := hW
  have hA : DataW.TrodAll enc Tryd.prog W 0 (fun _ => true) true Tryd.f8.params.toList args.toList ds p := hA0
  rw [Tryd.params8] at hA hval
  obtain ⟨v0, vs0, d0, ds0, p0, q0, hargs, rfl, rfl, h0, r0⟩ := trodAll_cons hA
  obtain ⟨v1, vs1, d1, ds1, p1, q1, rfl, rfl, rfl, h1, r1⟩ := trodAll_cons r0
  obtain ⟨rfl, rfl, rfl⟩ := trodAll_nil r1
  obtain rfl : args = #[v0, v1] := by cases args; simp_all
  obtain ⟨rfl, rfl⟩ := trodVars_none hV
  obtain ⟨hw0, _⟩ := weight_cons hWt
  obtain ⟨x, e0, hx⟩ := openCms (hval 0 _ v0 rfl rfl) h0 hw0
  obtain ⟨s, e1⟩ := openStr (hval 1 _ v1 rfl rfl) h1
  obtain ⟨hg, hvr⟩ := of_laidHX hL hsh
  clear hA0 hval0
  have hwalk := scriptBack_any x s W hx hg hvr
  rw [← e0, ← e1] at hwalk
  refine hwalk.mono fun e W' ⟨he, bel⟩ => ?_
  subst he
  exact ⟨_, rfl, _, _, _, [], _, [], hW', trodAll_mk1 (shut_bool Tryd.underlying4 _), (trodAll_cons_mk (Below.trod laidOut (by kernel_rfl) (of_decide_eq_true (by kernel_rfl)) h0 bel (lt_trod h0)) (trodAll_cons_mk (Below.trod laidOut (by kernel_rfl) (of_decide_eq_true (by kernel_rfl)) h1 bel (lt_trod h1)) trodAll_mk0)), rfl, bel.frame _, fun h => by cases h⟩
theorem scriptBack_holds : Rows.ScriptBackSaid :=
  OpenClaim.holds_of_wide 8 Tryd.f8 rfl rfl rfl rfl rfl rfl rfl ⟨rfl, rfl, rfl, rfl, rfl⟩ rfl rfl rfl rfl rfl (by kernel_rfl) Tryd.func8 (by kernel_rfl)
    (of_decide_eq_true (by kernel_rfl)) (by unfold Func.isWrapper; first | (rw [if_pos (by decide +kernel)]; kernel_rfl) | (rw [if_neg (by decide +kernel)]; exact ⟨rfl, rfl⟩))
    (fun os started H enc _ => scriptBack_lifted os started H enc)
end Go.Proofs.YtiaeollemmkclaaDoor
