import Derived.Test.YtiaeollemmkclaaDoorTie
import Derived.Test.YtiaeollemmkclaaDoorBase
import Derived.ProofKit
import Derived.LaidMore
import Derived.OpenShut
import Derived.Stop.Joined
import Derived.WideKeyArr2
import Derived.ChangeMaps5
import Derived.Lay
/- What opens the arguments of the claims: numbers in a row. -/
namespace Go.Proofs.YtiaeollemmkclaaDoor
open Go.ChangeShapes Go.WideShapes Go.ChangeAt Go.WideMaps Go.WideElems Go.RowKit
theorem own : ownKnob Tryd.prog.godebug = none := by kernel_rfl
theorem laidOut : laidOutB Tryd.prog = true := by kernel_rfl
section
variable {H : Type} {enc : TypeId × Value → H} {P : Program} {k e : TypeId} {n : Nat} {q : IntKind} {W : World} {base : Nat} {sp : Nat → Bool} {held : Bool}
theorem ints_each (he : P.underlying e = some (.int q)) {m : Nat} {cs : List Value} : ∀ (L : List Nat) (xs : List (DataW H × List MemPlace)),
    L.mapM (fun i => DataW.trod enc P W base sp held m e ((cs.drop (i * 1)).take 1)) = some xs →
    ∃ zs : List Int, xs = zs.map (fun z => (.lit (.int q z), [])) ∧ L.map (fun i => (cs.drop (i * 1)).take 1) = zs.map (fun z => [.int q z]) ∧ ∀ z ∈ zs, (Lit.int q z).wf = true
  | [], xs, h => by
    simp at h
    subst h
    exact ⟨[], rfl, rfl, by simp⟩
  | i :: L, xs, h => by
    rw [List.mapM_cons] at h
    simp only [bind, Option.bind_eq_some_iff, pure, Option.some.injEq] at h
    obtain ⟨y, hy, ys, hys, rfl⟩ := h
    obtain ⟨zs, rfl, h2, h3⟩ := ints_each he L ys hys
    obtain ⟨a, ea, rfl, wa⟩ := DataW.trod_int he hy
    refine ⟨a :: zs, rfl, by rw [List.map_cons, ea, h2]; rfl, fun z hz => ?_⟩
    rcases List.mem_cons.1 hz with rfl | hz
    · exact wa
    · exact h3 z hz
theorem ones_list {α : Type} (cs : List α) : (List.range cs.length).map (fun i => (cs.drop (i * 1)).take 1) = cs.map fun x => [x] := by
  apply List.ext_getElem
  · simp
  · intro i h1 h2
    simp only [List.length_map, List.length_range] at h1
    rw [List.getElem_map, List.getElem_map, List.getElem_range, Nat.mul_one, List.drop_eq_getElem_cons h1, List.take_succ_cons, List.take_zero]
theorem arr_ints (A : ArrKey P k e n) (he : P.underlying e = some (.int q)) {fuel : Nat} {cs : List Value} {x : DataW H × List MemPlace} (hd : DataW.trod enc P W base sp held fuel k cs = some x) :
    ∃ zs : List Int, cs = zs.map (Value.int q) ∧ x = (.agg (zs.map fun z => .lit (.int q z)), []) ∧ zs.length = n ∧ ∀ z ∈ zs, (Lit.int q z).wf = true := by
  cases fuel with
  | zero => simp [DataW.trod] at hd
  | succ m =>
    rw [DataW.trod_step] at hd
    unfold DataW.trodStep at hd
    simp only [A.hu] at hd
    split at hd
    · rename_i hl
      simp only [A.size, A.one] at hl hd
      simp only [Option.map_eq_some_iff] at hd
      obtain ⟨ys, hy, rfl⟩ := hd
      obtain ⟨zs, rfl, h2, h3⟩ := ints_each he _ ys hy
      rw [← hl, ones_list] at h2
      have h4 : cs = zs.map (Value.int q) := by
        have := congrArg (List.map fun x : List Value => x.headD undef) h2
        simpa [Function.comp_def] using this
      refine ⟨zs, h4, by simp [Function.comp_def, List.flatMap_eq_nil_iff], by rw [← hl, h4]; simp, h3⟩
    · cases hd
end
theorem u8s : ∀ (zs : List Int), (∀ z ∈ zs, (Lit.int .u8 z).wf = true) → ∃ l : List UInt8, zs.map (Value.int .u8) = l.map vU8 ∧ l.length = zs.length
  | [], _ => ⟨[], rfl, rfl⟩
  | z :: zs, h => by
    obtain ⟨l, h1, h2⟩ := u8s zs fun y hy => h y (List.mem_cons_of_mem _ hy)
    obtain ⟨b, hb⟩ : ∃ b : UInt8, Value.int .u8 z = vU8 b := by
      have hw := h z (List.mem_cons_self ..)
      simp only [Lit.wf, Bool.and_eq_true, decide_eq_true_eq] at hw
      have hw : 0 ≤ z ∧ z ≤ 255 := hw
      exact ⟨UInt8.ofNat z.toNat, by unfold vU8 n8; rw [UInt8.toNat_ofNat']; congr 1; omega⟩
    exact ⟨b :: l, by rw [List.map_cons, List.map_cons, h1, hb], by simp [h2]⟩
theorem lt_trod {H : Type} {enc : TypeId × Value → H} {W : World} {t : TypeId} {v : Value} {d : DataW H} {ps : List MemPlace} (h : DataW.Trod enc Tryd.prog W 0 (fun _ => true) true t v d ps) : ∀ x ∈ ps, x.block < W.heap.size := by
  obtain ⟨m, hm⟩ := h
  exact DataW.trod_lt m _ _ _ hm
end Go.Proofs.YtiaeollemmkclaaDoor
