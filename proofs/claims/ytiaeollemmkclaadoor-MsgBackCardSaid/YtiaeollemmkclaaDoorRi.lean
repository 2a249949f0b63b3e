import Derived.Test.YtiaeollemmkclaaDoorRf
/- A region that draws its order, at the wide fence (within a round, or an iterator): a head of operations that read, in whatever order, and a tail in one forced order. No program in sight. -/
namespace Go.Proofs.YtiaeollemmkclaaDoor
open Go.RowKit
set_option linter.unusedSimpArgs false
section
variable {P : Program} {ops : Array Oper} {md : Region.Mode} {m : Nat}
/-- In this state the operation leaves v, and the world as it is. -/
def YI (P : Program) (ops : Array Oper) (o : Oper) (v : Value) (a : Act) (w : World) : Prop :=
  (Region.wanted o (yielded ops a.tmps) = true ∧ readAt P o a w v) ∨ (Region.wanted o (yielded ops a.tmps) = false ∧ v = undef)
theorem YI.same {o : Oper} {v : Value} {a a' : Act} {w : World} (hy : YI P ops o v a w) (he : execOp a'.eval o = execOp a.eval o) (hw : Region.wanted o (yielded ops a'.tmps) = Region.wanted o (yielded ops a.tmps)) : YI P ops o v a' w := by
  unfold YI readAt at *
  rw [he, hw]
  exact hy
theorem YI.wpOp {i : Nat} {o : Oper} {v : Value} {a : Act} {w : World} {K : Act → World → Prop} {Q : Exit → Act → World → Prop} (hi : ops[i]? = some o) (hy : YI P ops o v a w) (h : K (a.put o.dst v) w) : wpOpIn Fence.wide m P ops Q i K a w := by
  unfold wpOpIn
  simp only [hi]
  rcases hy with ⟨hw, hv⟩ | ⟨hw, rfl⟩
  · simp only [hw, if_true]
    refine ⟨fun f _ => trivial, ?_⟩
    have e : Oper.semAt Fence.wide.round a.eval o = execOp a.eval o := rfl
    rw [e]
    unfold readAt at hv
    generalize (execOp a.eval o).run P w = r at *
    cases r with
    | ok n w' =>
      cases n <;> simp only [Oper.quietUpon] at hv <;> simp only [Oper.uponIn]
      case value u => obtain ⟨rfl, rfl⟩ := hv; exact h
      case skip => obtain ⟨rfl, rfl⟩ := hv; exact h
      case enter f args =>
        obtain ⟨e1, hc⟩ := hv
        rw [e1]
        exact ⟨fun h => by simp [Fence.wide] at h, (callsIn_wide.2 hc).mono fun e w'' ⟨he, hw''⟩ => by subst he; subst hw''; exact h⟩
    | halt x w' => simp only [Oper.quietUpon] at hv
  · simp only [hw, Bool.false_eq_true, if_false]
    exact ⟨fun f _ => trivial, h⟩
/-- Whatever order the head is picked in. -/
def anyI (P : Program) (md : Region.Mode) (ops : Array Oper) (n : Nat) (w : World) (L : Array Bool → Act → Prop) : Nat → Array Bool → Act → Prop
  | 0, listed, a => L listed a
  | f + 1, listed, a => Region.ready md ops listed ≠ [] ∧ ∀ i ∈ Region.ready md ops listed, i < n ∧ ∃ o v, ops[i]? = some o ∧ YI P ops o v a w ∧ anyI P md ops n w L f (listed.setIfInBounds i true) (a.put o.dst v)
theorem anyI_sound {n g : Nat} {w : World} {L : Array Bool → Act → Prop} {Q : Exit → Act → World → Prop} (hL : ∀ listed a, L listed a → wpAnyIn Fence.wide m P md ops Q g listed a w) : ∀ (f : Nat) (listed : Array Bool) (a : Act),
    anyI P md ops n w L f listed a → wpAnyIn Fence.wide m P md ops Q (f + g) listed a w
  | 0, _, _, h => by rw [Nat.zero_add]; exact hL _ _ h
  | f + 1, listed, a, h => by
    rw [show f + 1 + g = (f + g) + 1 by omega]
    refine ⟨fun h0 => absurd h0 h.1, fun i hi => ?_⟩
    obtain ⟨_, o, v, ho, hy, hk⟩ := h.2 i hi
    exact hy.wpOp ho (anyI_sound hL f _ _ hk)
theorem anyI_first {n i : Nat} {oi : Oper} {v : Value} {w : World} {L : Array Bool → Act → Prop} (hi : ops[i]? = some oi) (hsel : ∀ (j : Nat) (o : Oper) cs b, ops[j]? = some o → o.op ≠ .select cs b)
    (hs : Region.sinkB md ops n = true) (hc : Region.chainB md ops n = true) (hn : n < ops.size) (hin : i < n) (hdone : ∀ listed a, L listed a → ∀ j ∈ Region.ready md ops listed, n ≤ j) :
    ∀ (f : Nat) (listed : Array Bool) (a : Act), HeadInv md ops n listed →
      (∀ j oj, ops[j]? = some oj → j ≠ i → listed.getD j true = false → (∀ e ∈ oj.after, Region.binds md e = true → e.on ≠ i) → oi.apart ops oj = true) →
      i ∈ Region.ready md ops listed → YI P ops oi v a w →
      anyI P md ops n w L f (listed.setIfInBounds i true) (a.put oi.dst v) → anyI P md ops n w L (f + 1) listed a := by
  intro f
  induction f with
  | zero =>
    intro listed a inv _ hr hy H
    have hun := (mem_ready.1 hr).1
    refine ⟨fun h => (by rw [h] at hr; cases hr), fun j hj => ?_⟩
    have hjn : j < n := by
      rcases Nat.lt_or_ge j n with h | h
      · exact h
      · exact absurd hj (tail_waits hs hc hn inv _ i rfl hin hun j h)
    refine ⟨hjn, ?_⟩
    by_cases hji : j = i
    · subst hji; exact ⟨oi, v, hi, hy, H⟩
    · have := hdone _ _ H j (ready_mono hj hji)
      omega
  | succ f ih =>
    intro listed a inv hfree hr hy H
    have hun := (mem_ready.1 hr).1
    refine ⟨fun h => (by rw [h] at hr; cases hr), fun j hj => ?_⟩
    have hjn : j < n := by
      rcases Nat.lt_or_ge j n with h | h
      · exact h
      · exact absurd hj (tail_waits hs hc hn inv _ i rfl hin hun j h)
    refine ⟨hjn, ?_⟩
    by_cases hji : j = i
    · subst hji; exact ⟨oi, v, hi, hy, H⟩
    · obtain ⟨_, oj, u, hoj, hyj, hk⟩ := H.2 j (ready_mono hj hji)
      obtain ⟨hjun, oj', hoj', hall⟩ := mem_ready.1 hj
      rw [hoj] at hoj'
      cases hoj'
      have hnot : ∀ e ∈ oj.after, Region.binds md e = true → e.on ≠ i := fun e he hb heq => by
        have h1 := hall e he hb
        rw [heq, getD_both hun] at h1
        cases h1
      have hap := hfree j oj hoj hji hjun hnot
      obtain ⟨h1, h2, h3⟩ := Oper.apart_spec hap
      have hsi : ∀ cs b, oi.op ≠ .select cs b := fun cs b => hsel i oi cs b hi
      have hsj : ∀ cs b, oj.op ≠ .select cs b := fun cs b => hsel j oj cs b hoj
      have hyj' : YI P ops oj u a w := hyj.same (execOp_put oj hsj a oi.dst v h1).symm (wanted_put oj a oi.dst v h1).symm
      have hyi' : YI P ops oi v (a.put oj.dst u) w := hy.same (execOp_put oi hsi a oj.dst u h3) (wanted_put oi a oj.dst u h3)
      refine ⟨oj, u, hoj, hyj', ih (listed.setIfInBounds j true) _ (inv.set hj hjn) (fun k ok hk hki hun hno => ?_) (ready_mono hr (Ne.symm hji)) hyi' ?_⟩
      · refine hfree k ok hk hki ?_ hno
        by_cases hjk : j = k
        · subst hjk; exact hjun
        · rw [getD_set_ne true hjk] at hun; exact hun
      · rw [Array.setIfInBounds_comm _ _ hji, ← Act.put_comm a v u h2]
        exact hk
/-- The head in one order. -/
def headI (P : Program) (ops : Array Oper) (w : World) (K : Act → Prop) : List (Nat × Bool) → Act → Prop
  | [], a => K a
  | (i, _) :: r, a => ∃ o v, ops[i]? = some o ∧ YI P ops o v a w ∧ headI P ops w K r (a.put o.dst v)
theorem headI_mix {K : Act → World → Prop} {w : World} : ∀ (p : List (Nat × Bool)) (a : Act), (∀ x ∈ p, x.2 = true) → wpMix P ops K p (fun x => x = w) a w → headI P ops w (fun a' => K a' w) p a
  | [], a, _, h => h
  | (i, rd) :: r, a, hr, h => by
    have hrd : rd = true := hr (i, rd) (List.mem_cons_self ..)
    subst hrd
    simp only [wpMix] at h
    split at h
    · exact h.elim
    · rename_i o ho
      by_cases hw : Region.wanted o (yielded ops a.tmps) = true
      · simp only [hw, if_true] at h
        obtain ⟨v, h1, h2⟩ := h
        exact ⟨o, v, ho, .inl ⟨hw, h1 w rfl⟩, headI_mix r _ (fun x hx => hr x (List.mem_cons_of_mem _ hx)) h2⟩
      · simp only [hw] at h
        exact ⟨o, undef, ho, .inr ⟨by simpa using hw, rfl⟩, headI_mix r _ (fun x hx => hr x (List.mem_cons_of_mem _ hx)) h⟩
theorem anyI_head {n g : Nat} {w : World} {K : Act → Prop} (hsel : Region.noSelect ops = true) (hs : Region.sinkB md ops n = true) (hc : Region.chainB md ops n = true) (hn : n < ops.size) :
    ∀ (l : List (Nat × Bool)) (listed : Array Bool) (a : Act), HeadInv md ops n listed → (∀ x ∈ l, x.2 = true) → mixTB md ops n g l listed = true → headI P ops w K l a →
    anyI P md ops n w (fun listed' a' => Region.seqB md ops g n listed' = true ∧ K a') l.length listed a
  | [], _, _, _, _, hB, h => ⟨by simpa [mixTB] using hB, h⟩
  | (i, rd) :: l, listed, a, inv, hr, hB, h => by
    have hrd : rd = true := hr (i, rd) (List.mem_cons_self ..)
    subst hrd
    simp only [mixTB, Bool.and_eq_true, decide_eq_true_eq] at hB
    obtain ⟨⟨⟨hin, hrb⟩, hf⟩, hB'⟩ := hB
    have hr' : i ∈ Region.ready md ops listed := by simpa using hrb
    obtain ⟨o, v, ho, hy, hK⟩ := h
    exact anyI_first ho (Region.noSelect_spec hsel) hs hc hn hin (fun listed' a' hL => seqB_ready hL.1) l.length listed a inv (Region.free_spec ho hf) hr' hy
      (anyI_head hsel hs hc hn l _ _ (inv.set hr' hin) (fun x hx => hr x (List.mem_cons_of_mem _ hx)) hB' hK)
theorem wpAnyIn_of_seq {F : Fence} {Q' : Exit → Act → World → Prop} : ∀ (l : List Oper) (k : Nat) (listed : Array Bool) (a : Act) (w : World), (∀ j, l[j]? = ops[k + j]?) →
    Region.seqB md ops l.length k listed = true → wpListIn F m P ops Q' l a w → wpAnyIn F m P md ops Q' l.length listed a w
  | [], _, _, _, _, _, hB, h => ⟨by simpa [Region.seqB] using hB, h⟩
  | o :: l, k, listed, a, w, hl, hB, h => by
    have h0 : ops[k]? = some o := by simpa using (hl 0).symm
    simp only [List.length_cons, Region.seqB, Bool.and_eq_true, decide_eq_true_eq] at hB
    refine ⟨fun h0 => (by rw [hB.1] at h0; cases h0), fun j hj => ?_⟩
    rw [hB.1] at hj
    obtain rfl : j = k := by simpa using hj
    have ih := fun a w => wpAnyIn_of_seq (F := F) (Q' := Q') l (j + 1) (listed.setIfInBounds j true) a w (fun i => by have := hl (i + 1); simpa [Nat.add_assoc, Nat.add_comm 1 i] using this) hB.2
    unfold wpOpIn
    simp only [h0]
    unfold wpListIn at h
    split
    · rename_i hw
      rw [if_pos hw] at h
      exact ⟨h.1, by
        have h2 := h.2
        generalize (o.semAt F.round a.eval).run P w = r at *
        cases r with
        | ok x w' =>
          cases x <;> simp only [Oper.uponIn] at h2 ⊢
          case value u => exact ih _ _ h2
          case skip => exact ih _ _ h2
          case defer d => exact ih _ _ h2
          case enter f args => exact ⟨h2.1, h2.2.mono fun e w'' he => by cases e <;> first | exact ih _ _ he | exact he⟩
          case row row args => exact ⟨h2.1, h2.2.mono fun u w'' he => ih _ _ he⟩
          case round l f tm asg bo => exact ⟨h2.1, h2.2.mono fun e w'' he => by cases e <;> first | exact ih _ _ he | exact he⟩
        | halt x w' => cases x <;> simp only [Oper.uponIn] at h2 ⊢ <;> exact h2⟩
    · rename_i hw
      rw [if_neg hw] at h
      exact ⟨h.1, ih _ _ h.2⟩
theorem wpMix_less {Q : Act → World → Prop} {C C' : World → Prop} (hC : ∀ x, C' x → C x) {w : World} : ∀ (p : List (Nat × Bool)) (a : Act), (∀ x ∈ p, x.2 = true) → wpMix P ops Q p C a w → wpMix P ops Q p C' a w
  | [], _, _, h => h
  | (i, rd) :: r, a, hr, h => by
    have hrd : rd = true := hr (i, rd) (List.mem_cons_self ..)
    subst hrd
    simp only [wpMix] at h ⊢
    split
    · rename_i ho; simp only [ho] at h
    · rename_i o ho
      simp only [ho] at h
      by_cases hw : Region.wanted o (yielded ops a.tmps) = true
      · simp only [hw, if_true] at h ⊢
        obtain ⟨v, h1, h2⟩ := h
        exact ⟨v, fun x hx => h1 x (hC x hx), wpMix_less hC r _ (fun x hx => hr x (List.mem_cons_of_mem _ hx)) h2⟩
      · simp only [hw] at h ⊢
        exact wpMix_less hC r _ (fun x hx => hr x (List.mem_cons_of_mem _ hx)) h
/-- **A region that draws its order, at the wide fence: the head reads.** -/
theorem wpIn_region_mixT {id : Nat} {Q : Exit → Act → World → Prop} {a : Act} {w : World} {l : List Oper} (n : Nat) (p : List (Nat × Bool)) (hm : P.follows .mixedOrders = true) (hB : mixTailB .any l.toArray n p = true) (hr : ∀ x ∈ p, x.2 = true)
    (h : wpMix P l.toArray (fun a' _ => wpListIn Fence.wide m P l.toArray Q (l.drop n) a' w.drew) p (fun x => x = w.drew) a w.drew) : (Code.region id l.toArray true).wpIn Fence.wide m P Q a w := by
  simp only [mixTailB, Bool.and_eq_true, decide_eq_true_eq] at hB
  obtain ⟨⟨⟨⟨⟨hsel, hn⟩, hs⟩, hc⟩, hpn⟩, hmix⟩ := hB
  have hn' : n < l.length := by simpa using hn
  have hdl : (l.drop n).length = l.toArray.size - n := by simp
  have inv0 : HeadInv .any l.toArray n (Array.replicate l.toArray.size false) :=
    ⟨by simp, fun j oj _ hl => (by rw [getD_replicate_false] at hl; cases hl), fun t _ ht => getD_in (by simpa using ht) (getD_replicate_false _ _)⟩
  refine wpIn_region_any hm ?_
  have H := anyI_head (md := .any) (g := l.toArray.size - n) hsel hs hc hn p _ a inv0 hr hmix (headI_mix p a hr h)
  have := anyI_sound (m := m) (Q := Q) (g := l.toArray.size - n) (fun listed a' hL => by
    have := wpAnyIn_of_seq (F := Fence.wide) (m := m) (md := .any) (Q' := Q) (l.drop n) n listed a' w.drew (fun j => by simp [List.getElem?_drop]) (by rw [hdl]; exact hL.1) hL.2
    rwa [hdl] at this) _ _ _ H
  rw [hpn, show n + (l.toArray.size - n) = l.toArray.size by omega] at this
  exact this
end
end Go.Proofs.YtiaeollemmkclaaDoor
