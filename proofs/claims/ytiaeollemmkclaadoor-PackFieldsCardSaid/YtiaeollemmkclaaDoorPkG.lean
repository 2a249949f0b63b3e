import Derived.Test.YtiaeollemmkclaaDoorPkF
import Derived.Test.YtiaeollemmkclaaDoorFlt
/- Rows of fields as they came in; law 13's great, blank. -/
namespace Go.Proofs.YtiaeollemmkclaaDoor
open Go.RowKit
set_option linter.unusedSimpArgs false
set_option linter.unusedVariables false
def pad32 (l : List UInt8) : List UInt8 := (l ++ List.replicate 32 0).take 32
theorem pad32_len (l : List UInt8) : (pad32 l).length = 32 := by simp [pad32]
theorem pad32_eq {l : List UInt8} (h : l.length = 32) : pad32 l = l := by
  unfold pad32
  rw [List.take_append_of_le_length (by omega), List.take_of_length_le (by omega)]
/-- A field's cells in a row of fields. -/
def fdW (f : FdR) : List Value := fdV { f with s := pad32 f.s }
theorem fdW_len (f : FdR) : (fdW f).length = 39 := by simp [fdW, fdV, pad32_len]
theorem fdW_eq {f : FdR} (h : f.s.length = 32) : fdW f = fdV f := by unfold fdW; rw [pad32_eq h]
instance {α : Type} : Inhabited (SlR α) := ⟨⟨none, 0, []⟩⟩
instance : Inhabited FdR := ⟨⟨0, 0, default, default, [], default, 0, 0⟩⟩
theorem rawL_eq {w : World} {A : Option Addr} : ∀ (n off : Nat) (vs : List Value), vs.length = n → (∀ k v, vs[k]? = some v → cellOf w (pAdd A (off + k)) = v) → rawL w A n off = vs.map At.v
  | 0, _, vs, h, _ => by
    obtain rfl := List.eq_nil_of_length_eq_zero h
    rfl
  | n + 1, off, v :: vs, h, hc => by
    rw [rawL, List.map_cons, rawL_eq n (off + 1) vs (by simpa using h) (fun k u hu => by
      have := hc (k + 1) u (by simpa using hu)
      rwa [show off + (k + 1) = off + 1 + k by omega] at this)]
    have := hc 0 v rfl
    rw [Nat.add_zero] at this
    rw [this]
theorem rawOks_eq {w : World} {ow : Nat → Prop} {A : Option Addr} : ∀ (n off : Nat), (∀ k, k < n → rawOk w ow (pAdd A (off + k))) → rawOks w ow A n off
  | 0, _, _ => trivial
  | n + 1, off, h => ⟨by have := h 0 (by omega); rwa [Nat.add_zero] at this, rawOks_eq n (off + 1) fun k hk => by have := h (k + 1) (by omega); rwa [show off + (k + 1) = off + 1 + k by omega] at this⟩
/-- What the engine asks of a row of fields that came in. -/
structure FL (w : World) (A : Option Addr) (l : List FdR) : Prop where
  some_ : 0 < l.length → A.isSome = true
  cell : ∀ i k v, i < l.length → (fdV (ix l i))[k]? = some v → cellOf w (pAdd A (i * 39 + k)) = v ∧ rawOk w No (pAdd A (i * 39 + k))
  whole : ∀ i, i < l.length → rawL w (pAdd A (i * 39)) 39 0 = fdA (ix l i) ∧ rawOks w No (pAdd A (i * 39)) 39 0
theorem FL.of {w : World} {A : Option Addr} {l : List FdR} (hR : RdV w w.heap.size A (l.flatMap fdW)) (hs : ∀ f ∈ l, f.s.length = 32) : FL w A l := by
  have F := FV.no hR
  have hl : (l.flatMap fdW).length = l.length * 39 := flat_len fdW_len l
  have hc : ∀ i k v, i < l.length → (fdV (ix l i))[k]? = some v → cellOf w (pAdd A (i * 39 + k)) = v ∧ rawOk w No (pAdd A (i * 39 + k)) := fun i k v hi hv => by
    have h32 := hs (ix l i) (ix_mem hi)
    rw [← fdW_eq h32] at hv
    have hk : k < 39 := by
      have := (List.getElem?_eq_some_iff.1 hv).1
      rwa [fdW_len] at this
    exact F.cell (by rw [flat_get fdW_len l i k hi hk]; exact hv)
  refine ⟨fun hp => F.some_ (by rw [hl]; omega), hc, fun i hi => ?_⟩
  have h32 := hs (ix l i) (ix_mem hi)
  have h39 : (fdV (ix l i)).length = 39 := by rw [← fdW_eq h32]; exact fdW_len _
  constructor
  · rw [fdA_eq]
    refine rawL_eq 39 0 _ h39 fun k v hv => ?_
    rw [pAdd_add, Nat.zero_add]
    exact (hc i k v hi hv).1
  · refine rawOks_eq 39 0 fun k hk => ?_
    rw [pAdd_add, Nat.zero_add]
    exact (hc i k _ hi (List.getElem?_eq_getElem (by omega))).2
theorem fdV_get (f : FdR) (h : f.s.length = 32) : (fdV f)[2]? = some f.l.val ∧ (fdV f)[3]? = some f.b.val ∧ (fdV f)[36]? = some f.x.val := by
  refine ⟨rfl, rfl, ?_⟩
  simp [fdV, List.getElem?_append_right, h]
def bigF (f : Fd) : Bool := decide (60 < f.l.length ∨ 300 < f.b.length ∨ 60 < f.x.length)
def greatF (l : List Fd) : Bool := (l.take 20).any bigF || decide (20 < l.length)
theorem bigF_no {f : Fd} (h : bigF f = false) : f.l.length ≤ 60 ∧ f.b.length ≤ 300 ∧ f.x.length ≤ 60 := by
  have := of_decide_eq_false h
  omega
theorem greatF_no {l : List Fd} (h : greatF l = false) : l.length ≤ 20 ∧ ∀ f ∈ l, bigF f = false := by
  unfold greatF at h
  rw [Bool.or_eq_false_iff, decide_eq_false_iff_not, List.any_eq_false] at h
  refine ⟨by omega, fun f hf => ?_⟩
  have := h.1 f (by rw [List.take_of_length_le (by omega)]; exact hf)
  simpa using this
theorem greatF_yes {l : List Fd} {f : Fd} {i : Nat} (hi : i < 20) (h : l[i]? = some f) (hb : bigF f = true) : greatF l = true := by
  unfold greatF
  rw [Bool.or_eq_true, List.any_eq_true]
  refine .inl ⟨f, ?_, hb⟩
  rw [List.mem_iff_getElem?]
  exact ⟨i, by rw [List.getElem?_take, if_pos hi]; exact h⟩
theorem greatF_end {l : List Fd} {n : Nat} (hn : n = l.length ∨ 20 ≤ n) (h : ∀ i f, i < n → l[i]? = some f → bigF f = false) : greatF l = decide (20 < l.length) := by
  unfold greatF
  have : (l.take 20).any bigF = false := by
    rw [List.any_eq_false]
    intro f hf
    obtain ⟨i, hi⟩ := List.mem_iff_getElem?.1 hf
    rw [List.getElem?_take] at hi
    split at hi
    · have hl := (List.getElem?_eq_some_iff.1 hi).1
      rw [h i f (by omega) hi]
      simp
    · cases hi
  rw [this, Bool.false_or]
attribute [local irreducible] Callable CallOK CallG CallM DrawG LoopG symR symM
set_option maxRecDepth 100000 in
set_option maxHeartbeats 1000000 in
theorem great13_any (l : List FdR) (A : Option Addr) (c : Nat) (w : World) (hR : RdV w w.heap.size A (l.flatMap fdW)) (hs : ∀ f ∈ l, f.s.length = 32) :
    Calls Tryd.prog 18 #[.slice A l.length c] w fun e w' => e = .returned (.bool (greatF (l.map FdR.fd))) ∧ Below w.heap.size w w' := by
  have F := FL.of hR hs
  refine calls_v (n := 42) Tryd.func18 rfl Tryd.ntmps18 [.x (.a (.v (.slice A l.length c)))] (by simp) (.x (.a (.v (.bool (greatF (l.map FdR.fd)))))) (fun _ => rfl) ?_
  simp (config := { maxSteps := 1000000 }) only [undef, push_cast, ↓Int.toNat_natCast, ↓Int.cast_ofNat_Int, Int.cast_ofNat_Int, ↓reduceIte, reduceCtorEq, Nat.reduceEqDiff, Nat.reduceLT, Nat.reduceLeDiff, Nat.reduceAdd, Nat.reduceSub, Nat.reduceMul, Int.reduceNeg, Int.reduceLE, Int.reduceLT, Int.reduceToNat, Int.reduceAdd, Int.reduceSub, Int.reduceMul, Int.reduceEq]
  refine loop_rule (ι := Nat) (fun i => ⟨[(0, .x (.a (.v (.slice A l.length c)))), (3, .x (.a (.v (.int .i64 i))))], []⟩) (fun i => i ≤ l.length ∧ i ≤ 20 ∧ ∀ j f, j < i → (l.map FdR.fd)[j]? = some f → bigF f = false) (fun i => l.length - i) 0 [] ⟨by omega, by omega, fun j f h => by omega⟩ ?_ ?_
  · simp (config := { maxSteps := 1000000 }) only [push_cast, ↓Int.toNat_natCast, ↓Int.cast_ofNat_Int, Int.cast_ofNat_Int, ↓reduceIte, reduceCtorEq, Nat.reduceEqDiff, Nat.reduceLT, Nat.reduceLeDiff, Nat.reduceAdd, Nat.reduceSub, Nat.reduceMul, Int.reduceNeg, Int.reduceLE, Int.reduceLT, Int.reduceToNat, Int.reduceAdd, Int.reduceSub, Int.reduceMul, Int.reduceEq]
  rintro i ⟨hi, h20, hj⟩
  by_cases hlt : (i : Int) < l.length
  · by_cases hlt2 : (i : Int) < 20
    · have i0 : (0 : Int) ≤ i := by omega
      have hil : i < l.length := by omega
      obtain ⟨v2, v3, v36⟩ := fdV_get (ix l i) (hs _ (ix_mem hil))
      obtain ⟨c2, o2⟩ := F.cell i 2 _ hil v2
      obtain ⟨c3, o3⟩ := F.cell i 3 _ hil v3
      obtain ⟨c36, o36⟩ := F.cell i 36 _ hil v36
      have hA := F.some_ (by omega)
      have hg : (l.map FdR.fd)[i]? = some (ix l i).fd := by
        rw [List.getElem?_map, ix, List.getD_eq_getElem?_getD, List.getElem?_eq_getElem hil]
        rfl
      generalize ix l i = f at *
      by_cases b1 : (60 : Int) < f.l.l.length
      · have hb := greatF_yes (by omega) hg (decide_eq_true (.inl (by show 60 < f.l.l.length; omega)))
        simp (config := { maxSteps := 1000000 }) only [pAdd_add, pAdd_isSome, hlt, hlt2, i0, c2, o2, c3, o3, c36, o36, hA, b1, hb, SlR.val, undef, push_cast, ↓Int.toNat_natCast, ↓Int.cast_ofNat_Int, Int.cast_ofNat_Int, ↓reduceIte, reduceCtorEq, Nat.reduceEqDiff, Nat.reduceLT, Nat.reduceLeDiff, Nat.reduceAdd, Nat.reduceSub, Nat.reduceMul, Int.reduceNeg, Int.reduceLE, Int.reduceLT, Int.reduceToNat, Int.reduceAdd, Int.reduceSub, Int.reduceMul, Int.reduceEq]
        done
      by_cases b2 : (300 : Int) < f.b.l.length
      · have hb := greatF_yes (by omega) hg (decide_eq_true (.inr (.inl (by show 300 < f.b.l.length; omega))))
        simp (config := { maxSteps := 1000000 }) only [pAdd_add, pAdd_isSome, hlt, hlt2, i0, c2, o2, c3, o3, c36, o36, hA, b1, b2, hb, SlR.val, undef, push_cast, ↓Int.toNat_natCast, ↓Int.cast_ofNat_Int, Int.cast_ofNat_Int, ↓reduceIte, reduceCtorEq, Nat.reduceEqDiff, Nat.reduceLT, Nat.reduceLeDiff, Nat.reduceAdd, Nat.reduceSub, Nat.reduceMul, Int.reduceNeg, Int.reduceLE, Int.reduceLT, Int.reduceToNat, Int.reduceAdd, Int.reduceSub, Int.reduceMul, Int.reduceEq]
        done
      by_cases b3 : (60 : Int) < f.x.l.length
      · have hb := greatF_yes (by omega) hg (decide_eq_true (.inr (.inr (by show 60 < f.x.l.length; omega))))
        simp (config := { maxSteps := 1000000 }) only [pAdd_add, pAdd_isSome, hlt, hlt2, i0, c2, o2, c3, o3, c36, o36, hA, b1, b2, b3, hb, SlR.val, undef, push_cast, ↓Int.toNat_natCast, ↓Int.cast_ofNat_Int, Int.cast_ofNat_Int, ↓reduceIte, reduceCtorEq, Nat.reduceEqDiff, Nat.reduceLT, Nat.reduceLeDiff, Nat.reduceAdd, Nat.reduceSub, Nat.reduceMul, Int.reduceNeg, Int.reduceLE, Int.reduceLT, Int.reduceToNat, Int.reduceAdd, Int.reduceSub, Int.reduceMul, Int.reduceEq]
        done
      simp (config := { maxSteps := 1000000 }) only [pAdd_add, pAdd_isSome, hlt, hlt2, i0, c2, o2, c3, o3, c36, o36, hA, b1, b2, b3, SlR.val, undef, push_cast, ↓Int.toNat_natCast, ↓Int.cast_ofNat_Int, Int.cast_ofNat_Int, ↓reduceIte, reduceCtorEq, Nat.reduceEqDiff, Nat.reduceLT, Nat.reduceLeDiff, Nat.reduceAdd, Nat.reduceSub, Nat.reduceMul, Int.reduceNeg, Int.reduceLE, Int.reduceLT, Int.reduceToNat, Int.reduceAdd, Int.reduceSub, Int.reduceMul, Int.reduceEq]
      (repeat (refine And.intro (by first | omega | decide) ?_))
      refine loopK_normal (i + 1) [] ⟨by omega, by omega, fun j f' hj' hf' => ?_⟩ (by omega) ?_
      · by_cases e : j = i
        · subst e
          rw [hg] at hf'
          cases hf'
          exact decide_eq_false (by show ¬ (60 < f.l.l.length ∨ 300 < f.b.l.length ∨ 60 < f.x.l.length); omega)
        · exact hj j f' (by omega) hf'
      · simp (config := { maxSteps := 1000000 }) only [push_cast, ↓Int.toNat_natCast, ↓Int.cast_ofNat_Int, Int.cast_ofNat_Int, ↓reduceIte, reduceCtorEq, Nat.reduceEqDiff, Nat.reduceLT, Nat.reduceLeDiff, Nat.reduceAdd, Nat.reduceSub, Nat.reduceMul, Int.reduceNeg, Int.reduceLE, Int.reduceLT, Int.reduceToNat, Int.reduceAdd, Int.reduceSub, Int.reduceMul, Int.reduceEq]
    · have he := greatF_end (l := l.map FdR.fd) (n := i) (.inr (by omega)) hj
      rw [List.length_map, show decide (20 < l.length) = decide ((20 : Int) < l.length) from decide_eq_decide.2 (by omega)] at he
      simp (config := { maxSteps := 1000000 }) only [hlt, hlt2, he, undef, push_cast, ↓Int.toNat_natCast, ↓Int.cast_ofNat_Int, Int.cast_ofNat_Int, ↓reduceIte, reduceCtorEq, Nat.reduceEqDiff, Nat.reduceLT, Nat.reduceLeDiff, Nat.reduceAdd, Nat.reduceSub, Nat.reduceMul, Int.reduceNeg, Int.reduceLE, Int.reduceLT, Int.reduceToNat, Int.reduceAdd, Int.reduceSub, Int.reduceMul, Int.reduceEq]
      done
  · have he := greatF_end (l := l.map FdR.fd) (n := i) (.inl (by rw [List.length_map]; omega)) hj
    rw [List.length_map, show decide (20 < l.length) = decide ((20 : Int) < l.length) from decide_eq_decide.2 (by omega)] at he
    simp (config := { maxSteps := 1000000 }) only [hlt, he, undef, push_cast, ↓Int.toNat_natCast, ↓Int.cast_ofNat_Int, Int.cast_ofNat_Int, ↓reduceIte, reduceCtorEq, Nat.reduceEqDiff, Nat.reduceLT, Nat.reduceLeDiff, Nat.reduceAdd, Nat.reduceSub, Nat.reduceMul, Int.reduceNeg, Int.reduceLE, Int.reduceLT, Int.reduceToNat, Int.reduceAdd, Int.reduceSub, Int.reduceMul, Int.reduceEq]
    done
end Go.Proofs.YtiaeollemmkclaaDoor
