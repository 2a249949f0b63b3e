import Derived.Test.YtombphphaoeeiaaGreatDoorBase
import Derived.RangeFuncNested
import Derived.RangeFuncBound
import Derived.RangeFuncCalls
import Derived.RangeFuncLeaves
import Derived.OwnWalkIn
import Derived.TacticsInMore
import Derived.LoopNIn
import Derived.LoopIn
import Derived.Shelf.Abstract
/- A range over a function whose rounds all go on: one law for the caller, one contract for an iterator that may keep blocks of its own. At the wide fence: callees by plain contracts. -/
namespace Go.Proofs.YtombphphaoeeiaaGreatDoor
open Go.RowKit

section
variable {F : Fence} {n : Nat} {P : Program} {w w2 : World} {ops : Array Oper} {rest : List Oper} {o : Oper} {a : Act} {Q : Exit → Act → World → Prop} {v : Value}
theorem wpListIn_run (hF : ∀ f, F.fn f) (hgd : o.guard = none) (hnd : ∀ c, o.op ≠ .defer c) (hrun : (execOp a.eval o).run P w = .ok (.value v) w2) (h : wpListIn F n P ops Q rest (a.put o.dst v) w2) : wpListIn F n P ops Q (o :: rest) a w :=
  wpListIn_plain hgd fun K hK => by
    unfold Oper.wpIn
    refine ⟨fun f _ => hF f, ?_⟩
    rw [Oper.semAt_plain F _ _ hnd, hrun]
    exact hK _ _ h
theorem wpListIn_runSkip (hF : ∀ f, F.fn f) (hgd : o.guard = none) (hnd : ∀ c, o.op ≠ .defer c) (hrun : (execOp a.eval o).run P w = .ok .skip w2) (h : wpListIn F n P ops Q rest (a.put o.dst undef) w2) : wpListIn F n P ops Q (o :: rest) a w :=
  wpListIn_plain hgd fun K hK => by
    unfold Oper.wpIn
    refine ⟨fun f _ => hF f, ?_⟩
    rw [Oper.semAt_plain F _ _ hnd, hrun]
    exact hK _ _ h
end
/-- What an iterator over the list xs owes: each is yielded once, in order; it reads blocks below w0's size that 'needs' names; between two rounds it may write what it made itself. -/
def SeqAll {α : Type} (n : Nat) (P : Program) (gf : Nat) (lb : Array Value) (encs : α → Array Value) (xs : List α) (w0 : World) (needs : Nat → Prop) : Prop :=
  ∀ (l : Nat) (own : Nat → Prop) (J : Nat → World → Prop) (W : World), Below w0.heap.size w0 W → (∀ k, own k → k < W.heap.size ∧ ¬ needs k) →
    (∀ i A B, J i A → W.heap.size ≤ A.heap.size → Below W.heap.size A B → J i B) →
    (∀ (i : Nat) (x : α) (W1 : World), xs[i]? = some x → J i W1 → W.heap.size ≤ W1.heap.size →
      YieldAt Fence.wide (n - 1) P l (encs x) W1 fun e W' => e = .returned (.bool true) ∧ J (i + 1) W' ∧ Keeps own W1 W') →
    J 0 W → CallsIn Fence.wide n P gf (#[.func (.yield l) #[] #[]] ++ lb) W fun e W' => (∃ v, e = .returned v) ∧ J xs.length W'

/-- How the body of a round may be left: it goes on. -/
def allPost (own : Nat → Prop) (I : Nat → World → Prop) (i : Nat) (W : World) : Exit → Act → World → Prop
  | .normal, _, W' => Keeps own W W' ∧ I (i + 1) W'
  | _, _, _ => False

theorem wpIn_rangeFunc_all {P : Program} {n : Nat} {α : Type} {g : Operand} {ps : Array Tmp} {assign body : Code} {Q : Exit → Act → World → Prop} {a : Act} {w : World}
    {gf : Nat} {lb : Array Value} (hg : a.eval g = .func (.func gf) #[] lb) (eg : ∀ args w, (callFunc gf args).run P w = .ok (.enter gf args) w)
    {encs : α → Array Value} {xs : List α} {w0 : World} {needs : Nat → Prop} (hseq : SeqAll (n - 1) P gf lb encs xs w0 needs) (hb0 : Below w0.heap.size w0 w) (hneeds : ∀ k, needs k → k < w.heap.size)
    (hps : ∀ x, (encs x).size = ps.size) (own : Nat → Prop) (hown : ∀ k, own k → k < w.heap.size ∧ ¬ needs k)
    (I : Nat → World → Prop) (hI : ∀ i A B, I i A → w.heap.size ≤ A.heap.size → Below w.heap.size A B → I i B) (h0 : I 0 w) (Ax : α → Act → World → Prop)
    (hAx : ∀ x a₁ A B, Ax x a₁ A → Keeps (· = w.heap.size + 1) A B → Ax x a₁ B)
    (hassign : ∀ (l i : Nat) (x : α) (W : World) (K : Act → World → Prop), xs[i]? = some x → I i W → w.heap.size + 1 + 1 ≤ W.heap.size → (∀ a₁ W1, Ax x a₁ W1 → Keeps own W W1 → I i W1 → K a₁ W1) →
      assign.wpIn (Fence.wide.inRound l) (n - 1 - 1) P (Exit.then K (fun _ _ _ => False)) { tmps := (ps.zip (encs x)).foldl (fun t (p, v) => t.setIfInBounds p v) a.tmps, defers := [] } W)
    (hbody : ∀ (l i : Nat) (x : α) (a₁ : Act) (W : World), xs[i]? = some x → I i W → Ax x a₁ W → w.heap.size + 1 + 1 ≤ W.heap.size → body.wpIn (Fence.wide.inRound l) (n - 1 - 1) P (allPost own I i W) a₁ W)
    (hdone : ∀ (D : Nat) (W : World), w.heap.size ≤ D → I xs.length W → W.heap[D]? = some (.deferred (some [])) → Q .normal { a with defers := { target := .collected D, args := #[] } :: a.defers } W) :
    (Code.rangeFunc g ps assign body).wpIn Fence.wide n P Q a w := by
  refine wpIn_rangeFunc ?_
  intro fn hfn
  obtain ⟨rec, hrec⟩ : ∃ rec : LoopState → Option Code → Loop, rec = fun st pe => { state := st, pending := pe, fn, tmps := a.tmps, params := ps, assign, body, defers := w.heap.size } := ⟨_, rfl⟩
  obtain ⟨W1, hW1⟩ : ∃ W1, (w.alloc (.deferred (some []))).alloc (.loop (rec .ready none)) = W1 := ⟨_, rfl⟩
  have hL1 : W1.heap[w.heap.size + 1]? = some (.loop (rec .ready none)) := by
    rw [← hW1]; have := World.alloc_heap_new (w.alloc (.deferred (some []))) (.loop (rec .ready none)); rwa [World.size_alloc] at this
  have hK1 : W1.heap[w.heap.size]? = some (.deferred (some [])) := by
    rw [← hW1]; exact (Below.heap_alloc _ _ _ (by simp)).trans (World.alloc_heap_new w _)
  have hB1 : Below w.heap.size w W1 := by rw [← hW1]; exact ((Below.refl _ w).alloc (Nat.le_refl _) _).alloc (by simp) _
  have hs1 : W1.heap.size = w.heap.size + 1 + 1 := by rw [← hW1]; simp
  have hI1 : I 0 W1 := hI 0 w W1 h0 (Nat.le_refl _) hB1
  have hb1 : Below w0.heap.size w0 W1 := hb0.trans (hB1.mono hb0.size)
  refine ⟨w.heap.size + 1, [{ target := .collected w.heap.size, args := #[] }], W1, { target := .fn (.func gf) lb, args := #[.func (.yield (w.heap.size + 1)) #[] #[]] }, W1, gf,
    #[.func (.yield (w.heap.size + 1)) #[] #[]] ++ lb, W1, ?_, ?_, ?_, ?_, fun h => by simp [Fence.wide] at h, ?_⟩
  · rw [← hW1, hrec]; exact run_enterLoop_outer _ _ _ _ _
  · simp only [resolve, hg]
    simp [go_sem]
  · intro f' _; trivial
  · simp [invoke, go_sem, eg]
  · refine (hseq (w.heap.size + 1) (fun k => own k ∨ k = w.heap.size + 1)
      (fun i W => I i W ∧ W.heap[w.heap.size + 1]? = some (.loop (rec .ready none)) ∧ W.heap[w.heap.size]? = some (.deferred (some [])))
      W1 hb1 ?_ ?_ ?_ ⟨hI1, hL1, hK1⟩).mono ?_
    · rintro k (hk | rfl)
      · exact ⟨by have := (hown k hk).1; omega, (hown k hk).2⟩
      · exact ⟨by omega, fun h => by have := hneeds _ h; omega⟩
    · rintro i A B ⟨hi, hl, hk⟩ hA hB
      exact ⟨hI i A B hi (by omega) (hB.mono (by omega)), (hB.block _ (by omega)).trans hl, (hB.block _ (by omega)).trans hk⟩
    · rintro i x W hx ⟨hi, hl, hk⟩ hA
      have hlt : w.heap.size + 1 < W.heap.size := (Array.getElem?_eq_some_iff.1 hl).1
      have hy := run_yield (P := P) (args := encs x) hl (by rw [hrec]; exact hps x)
      rw [hrec] at hy
      refine ⟨fn, _, assign, body, hy, roundIn_of_wpIn hfn (hassign _ i x W _ hx hi (by omega) ?_)⟩
      intro a₁ V hax hkV hiV
      have hlV : V.heap[w.heap.size + 1]? = some (.loop (rec .ready none)) := (hkV.block _ hlt (fun e => by have := (hown _ e).1; omega)).trans hl
      have hdV : V.heap[w.heap.size]? = some (.deferred (some [])) := (hkV.block _ (by omega) (fun e => by have := (hown _ e).1; omega)).trans hk
      have hltV : w.heap.size + 1 < V.heap.size := by have := hkV.size; omega
      refine ⟨_, run_beginRound hlV (by rw [hrec]), ?_⟩
      obtain ⟨W2, hW2⟩ : ∃ W2, V.putObj (w.heap.size + 1) (.loop { rec .ready none with state := .busy }) = W2 := ⟨_, rfl⟩
      have hl2 : W2.heap[w.heap.size + 1]? = some (.loop { rec .ready none with state := .busy }) := by rw [← hW2]; exact World.putObj_heap_same hltV
      have hk2 : W2.heap[w.heap.size]? = some (.deferred (some [])) := by rw [← hW2]; exact (World.putObj_heap_other (by omega)).trans hdV
      have hq2 : Keeps (· = w.heap.size + 1) V W2 := by rw [← hW2]; exact Keeps.putObj V _ _ rfl
      have hp2 : Keeps (fun k => own k ∨ k = w.heap.size + 1) W W2 := (hkV.mono (fun k h => Or.inl h)).trans (hq2.mono (fun k h => Or.inr h))
      have hi2 : I i W2 := hI i V W2 hiV (by omega) (hq2.below (by omega) (fun k e => by omega))
      rw [hW2]
      refine wpIn_mono (hbody _ i x a₁ W2 hx hi2 (hAx x a₁ V W2 hax hq2) (by have := hp2.size; omega)) ?_
      rintro e a3 W3 hp
      cases e with
      | normal =>
        obtain ⟨hk3, hi3⟩ := hp
        have hlt2 : w.heap.size + 1 < W2.heap.size := by have := hp2.size; omega
        have hl3 : W3.heap[w.heap.size + 1]? = some (.loop { rec .ready none with state := .busy }) := (hk3.block _ hlt2 (fun e => by have := (hown _ e).1; omega)).trans hl2
        have hd3 : W3.heap[w.heap.size]? = some (.deferred (some [])) := (hk3.block _ (by omega) (fun e => by have := (hown _ e).1; omega)).trans hk2
        have hr := run_endRound (P := P) none hl3
        rw [hrec] at hr
        refine ⟨_, _, hr, rfl, ⟨hI _ W3 _ hi3 (by have := hk3.size; omega) ((Keeps.putObj (own := fun k => k = w.heap.size + 1) W3 _ _ rfl).below (by have := hk3.size; omega) (fun k e => by omega)), ?_, (World.putObj_heap_other (by omega)).trans hd3⟩, ?_⟩
        · rw [hrec]; exact World.putObj_heap_same (by have := hk3.size; omega)
        · exact (hp2.trans (hk3.mono (fun k h => Or.inl h))).trans (Keeps.putObj W3 _ _ (Or.inr rfl))
      | _ => exact hp.elim
    · rintro e W2 ⟨⟨v, rfl⟩, hi, hl, hk⟩
      have hr := run_endLoop (P := P) hl (by rw [hrec]; simp)
      rw [hrec] at hr
      have hlt : w.heap.size + 1 < W2.heap.size := (Array.getElem?_eq_some_iff.1 hl).1
      exact ⟨none, _, hr, hdone _ _ (Nat.le_refl _) (hI _ W2 _ hi (by omega) ((Keeps.putObj (own := fun k => k = w.heap.size + 1) W2 _ _ rfl).below (by omega) (fun k e => by omega))) ((World.putObj_heap_other (by omega)).trans hk)⟩
end Go.Proofs.YtombphphaoeeiaaGreatDoor
