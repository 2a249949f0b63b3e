/- A region that draws its order, whose operations read, or make memory, or call: one walk in ONE order serves every order: readers are taken as soon as they may come, whoever turns the world stands alone when its turn comes. No program in sight. -/
import Derived.Test.YtkchdhkpjnnliaaDoorM
import Derived.Deep.Quiet
namespace Go.Proofs.YtkchdhkpjnnliaaDoor
open Go.RowKit

def readAt (P : Program) (o : Oper) (a : Act) (w : World) (v : Value) : Prop := Oper.quietUpon P (fun x => x = w) w v ((execOp a.eval o).run P w)
def NoQ : Exit → Act → World → Prop := fun _ _ _ => False
section
variable {P : Program} {ops : Array Oper} {md : Region.Mode}

def YieldsR (P : Program) (ops : Array Oper) (C : World → Prop) (o : Oper) (v : Value) (a : Act) : Prop :=
  (Region.wanted o (yielded ops a.tmps) = true ∧ ∀ w, C w → readAt P o a w v) ∨ (Region.wanted o (yielded ops a.tmps) = false ∧ v = undef)

def mOp (P : Program) (ops : Array Oper) (i : Nat) (C : World → Prop) (K : (World → Prop) → Act → World → Prop) (a : Act) (w : World) : Prop :=
  match ops[i]? with
  | none => K C a w
  | some o => if Region.wanted o (yielded ops a.tmps) then o.wp P a w (fun a' w' => ∃ C2 : World → Prop, C2 w' ∧ (∀ x, C2 x → C x) ∧ K C2 a' w') NoQ else K C (a.put o.dst undef) w

theorem not_letsOut : ¬ LetsOut NoQ := fun ⟨_, _, h⟩ => h

theorem wp_mono2 {o : Oper} {a : Act} {w : World} {K K' : Act → World → Prop} {Q' : Exit → Act → World → Prop} (h : ∀ a w, K a w → K' a w) (hh : o.wp P a w K NoQ) : o.wp P a w K' Q' := by
  unfold Oper.wp at *
  generalize (execOp a.eval o).run P w = r at *
  cases r with
  | ok n w' =>
    cases n <;> simp only [Oper.upon] at hh ⊢
    case value u => exact h _ _ hh
    case skip => exact h _ _ hh
    case defer d => exact h _ _ hh
    case enter f args =>
      refine hh.mono fun e w'' he => ?_
      cases e with
      | returned v => exact h _ _ he
      | panicked c => exact he.elim
      | outgrown => exact (not_letsOut he).elim
    case row row args => exact hh.mono fun v w'' he => h _ _ he
  | halt x w' => cases x <;> simp only [Oper.upon] at hh ⊢ <;> exact hh.elim

theorem mOp_mono {i : Nat} {C : World → Prop} {K K' : (World → Prop) → Act → World → Prop} {a : Act} {w : World} (h : ∀ C a w, K C a w → K' C a w) (hh : mOp P ops i C K a w) : mOp P ops i C K' a w := by
  unfold mOp at *
  split
  · rename_i ho; simp only [ho] at hh; exact h _ _ _ hh
  · rename_i o ho
    simp only [ho] at hh
    split
    · rename_i hw; simp only [hw, if_true] at hh; exact wp_mono2 (fun a w ⟨C2, h1, h2, h3⟩ => ⟨C2, h1, h2, h _ _ _ h3⟩) hh
    · rename_i hw; simp only [hw] at hh; exact h _ _ _ hh

theorem wp_of_read {o : Oper} {a : Act} {w : World} {v : Value} {K : Act → World → Prop} {Q' : Exit → Act → World → Prop} (h1 : readAt P o a w v) (h : K (a.put o.dst v) w) : o.wp P a w K Q' := by
  unfold readAt at h1
  unfold Oper.wp
  generalize (execOp a.eval o).run P w = r at *
  cases r with
  | ok n w' =>
    cases n <;> simp only [Oper.quietUpon] at h1 <;> simp only [Oper.upon]
    case value u => obtain ⟨rfl, rfl⟩ := h1; exact h
    case skip => obtain ⟨rfl, rfl⟩ := h1; exact h
    case enter f args =>
      obtain ⟨e1, hc⟩ := h1
      rw [e1]
      exact hc.mono fun e w'' ⟨he, hw''⟩ => by subst he; subst hw''; exact h
  | halt x w' => simp only [Oper.quietUpon] at h1

theorem YieldsR.mOp {i : Nat} {o : Oper} {v : Value} {a : Act} {w : World} {C : World → Prop} (hi : ops[i]? = some o) (hC : C w) (hy : YieldsR P ops C o v a) {K : (World → Prop) → Act → World → Prop} (h : K C (a.put o.dst v) w) : mOp P ops i C K a w := by
  unfold Go.Proofs.YtkchdhkpjnnliaaDoor.mOp
  simp only [hi]
  rcases hy with ⟨hw, hv⟩ | ⟨hw, rfl⟩
  · simp only [hw, if_true]; exact wp_of_read (hv w hC) ⟨C, hC, fun _ h => h, h⟩
  · simp only [hw, Bool.false_eq_true, if_false]; exact h

theorem YieldsR.of_same {o : Oper} {v : Value} {a a' : Act} {C C' : World → Prop} (hy : YieldsR P ops C o v a) (hC : ∀ x, C' x → C x) (he : execOp a'.eval o = execOp a.eval o)
    (hw : Region.wanted o (yielded ops a'.tmps) = Region.wanted o (yielded ops a.tmps)) : YieldsR P ops C' o v a' := by
  unfold YieldsR readAt at *
  rw [he, hw]
  exact hy.imp (fun h => ⟨h.1, fun w hw' => h.2 w (hC w hw')⟩) id

theorem eval_defers (a : Act) (d : List Deferred) : ({ a with defers := d } : Act).eval = a.eval := by funext x; cases x <;> rfl

theorem mOp_put {j : Nat} {oi oj : Oper} {v : Value} (hj : ops[j]? = some oj) (hap : oi.apart ops oj = true)
    (hsi : ∀ cs b, oi.op ≠ .select cs b) (hsj : ∀ cs b, oj.op ≠ .select cs b) {C : World → Prop} {K : (World → Prop) → Act → World → Prop} {a : Act} {w : World} (hC : C w)
    (hy : YieldsR P ops C oi v a) (h : mOp P ops j C K (a.put oi.dst v) w) :
    mOp P ops j C (fun C2 a' w' => C2 w' ∧ YieldsR P ops C2 oi v a' ∧ K C2 (a'.put oi.dst v) w') a w := by
  obtain ⟨h1, h2, h3⟩ := Oper.apart_spec hap
  have keep : ∀ (C2 : World → Prop), (∀ x, C2 x → C x) → ∀ u, YieldsR P ops C2 oi v (a.put oj.dst u) := fun C2 hC2 u =>
    hy.of_same hC2 (execOp_put oi hsi a oj.dst u h3) (wanted_put oi a oj.dst u h3)
  unfold mOp at *
  simp only [hj] at *
  rw [wanted_put oj a oi.dst v h1] at h
  split
  · rename_i hw
    simp only [hw, if_true] at h
    unfold Oper.wp at *
    rw [execOp_put oj hsj a oi.dst v h1] at h
    generalize (execOp a.eval oj).run P w = r at *
    have one : ∀ u w', (∃ C2 : World → Prop, C2 w' ∧ (∀ x, C2 x → C x) ∧ K C2 ((a.put oi.dst v).put oj.dst u) w') →
        ∃ C2 : World → Prop, C2 w' ∧ (∀ x, C2 x → C x) ∧ (C2 w' ∧ YieldsR P ops C2 oi v (a.put oj.dst u) ∧ K C2 ((a.put oj.dst u).put oi.dst v) w') := by
      rintro u w' ⟨C2, c1, c2, hk⟩
      exact ⟨C2, c1, c2, c1, keep C2 c2 u, by rw [← Act.put_comm a v u h2]; exact hk⟩
    cases r with
    | ok n w' =>
      cases n <;> simp only [Oper.upon] at h ⊢
      case value u => exact one u w' h
      case skip => exact one undef w' h
      case defer d =>
        obtain ⟨C2, c1, c2, hk⟩ := h
        refine ⟨C2, c1, c2, c1, ?_, ?_⟩
        · have hy2 : YieldsR P ops C oi v { a with defers := d :: a.defers } := hy.of_same (fun _ h => h) (by rw [eval_defers]) rfl
          exact hy2.of_same c2 (execOp_put oi hsi _ oj.dst undef h3) (wanted_put oi _ oj.dst undef h3)
        · have e : ({ a.put oi.dst v with defers := d :: (a.put oi.dst v).defers } : Act) = ({ a with defers := d :: a.defers } : Act).put oi.dst v := by
            cases oi.dst <;> rfl
          rw [e, Act.put_comm _ v undef h2] at hk
          exact hk
      case enter f args =>
        refine h.mono fun e w'' he => ?_
        cases e with
        | returned u => exact one u w'' he
        | panicked c => exact he.elim
        | outgrown => exact (not_letsOut he).elim
      case row row args => exact h.mono fun u w'' he => one u w'' he
    | halt x w' => cases x <;> simp only [Oper.upon] at h ⊢ <;> exact h.elim
  · rename_i hw
    simp only [hw] at h
    exact ⟨hC, keep C (fun _ h => h) _, by rw [← Act.put_comm a v undef h2]; exact h⟩

/-- Whatever order is picked from here on. -/
def wpAnyM (P : Program) (md : Region.Mode) (ops : Array Oper) (Q : Act → World → Prop) : Nat → Array Bool → (World → Prop) → Act → World → Prop
  | 0, listed, _, a, w => Region.ready md ops listed = [] ∧ Q a w
  | f + 1, listed, C, a, w => Region.ready md ops listed ≠ [] ∧ ∀ i ∈ Region.ready md ops listed, mOp P ops i C (wpAnyM P md ops Q f (listed.setIfInBounds i true)) a w

theorem wpAny_of_M {Q : Act → World → Prop} {Q' : Exit → Act → World → Prop} (hQ : ∀ a w, Q a w → Q' .normal a w) : ∀ (f : Nat) (listed : Array Bool) (C : World → Prop) (a : Act) (w : World),
    wpAnyM P md ops Q f listed C a w → wpAny P md ops Q' f listed a w
  | 0, _, _, _, _, h => ⟨h.1, hQ _ _ h.2⟩
  | f + 1, listed, C, a, w, h => by
    refine ⟨fun h0 => absurd h0 h.1, fun i hi => ?_⟩
    have hm := h.2 i hi
    unfold mOp at hm
    unfold wpOp
    split
    · rename_i ho; simp only [ho] at hm; exact wpAny_of_M hQ f _ _ _ _ hm
    · rename_i o ho
      simp only [ho] at hm
      split
      · rename_i hw; simp only [hw, if_true] at hm; exact .inl (wp_mono2 (fun a w ⟨C2, _, _, h3⟩ => wpAny_of_M hQ f _ _ _ _ h3) hm)
      · rename_i hw; simp only [hw] at hm; exact wpAny_of_M hQ f _ _ _ _ hm

theorem wpAnyM_first {Q : Act → World → Prop} {i : Nat} {oi : Oper} {v : Value} (hi : ops[i]? = some oi) (hsel : ∀ (j : Nat) (o : Oper) cs b, ops[j]? = some o → o.op ≠ .select cs b) :
    ∀ (f : Nat) (listed : Array Bool) (C : World → Prop) (a : Act) (w : World),
      (∀ j oj, ops[j]? = some oj → j ≠ i → listed.getD j true = false → (∀ e ∈ oj.after, Region.binds md e = true → e.on ≠ i) → oi.apart ops oj = true) →
      i ∈ Region.ready md ops listed → C w → YieldsR P ops C oi v a →
      wpAnyM P md ops Q f (listed.setIfInBounds i true) C (a.put oi.dst v) w → wpAnyM P md ops Q (f + 1) listed C a w := by
  intro f
  induction f with
  | zero =>
    intro listed C a w _ hr hC hy H
    refine ⟨fun h => (by rw [h] at hr; cases hr), fun j hj => ?_⟩
    by_cases hji : j = i
    · subst hji; exact hy.mOp hi hC H
    · have := ready_mono hj hji
      rw [H.1] at this
      cases this
  | succ f ih =>
    intro listed C a w hfree hr hC hy H
    refine ⟨fun h => (by rw [h] at hr; cases hr), fun j hj => ?_⟩
    by_cases hji : j = i
    · subst hji; exact hy.mOp hi hC H
    · have h1 := H.2 j (ready_mono hj hji)
      obtain ⟨hjun, oj, hoj, hall⟩ := mem_ready.1 hj
      have hnot : ∀ e ∈ oj.after, Region.binds md e = true → e.on ≠ i := fun e he hb heq => by
        have h1 := hall e he hb
        have h0 := (mem_ready.1 hr).1
        rw [heq, getD_both h0] at h1
        cases h1
      have h2 := mOp_put hoj (hfree j oj hoj hji hjun hnot) (fun cs b => hsel i oi cs b hi) (fun cs b => hsel j oj cs b hoj) hC hy h1
      have hfree' : ∀ k ok, ops[k]? = some ok → k ≠ i → (listed.setIfInBounds j true).getD k true = false →
          (∀ e ∈ ok.after, Region.binds md e = true → e.on ≠ i) → oi.apart ops ok = true := fun k ok hk hki hun hno => by
        refine hfree k ok hk hki ?_ hno
        by_cases hjk : j = k
        · subst hjk; exact hjun
        · rw [getD_set_ne true hjk] at hun; exact hun
      refine mOp_mono (fun C2 a' w' h3 => ih (listed.setIfInBounds j true) C2 a' w' hfree' (ready_mono hr (Ne.symm hji)) h3.1 h3.2.1 ?_) h2
      rw [Array.setIfInBounds_comm _ _ hji]
      exact h3.2.2

/-- The one walk: whoever is marked reads; the others may turn the world. -/
def wpMix (P : Program) (ops : Array Oper) (Q : Act → World → Prop) : List (Nat × Bool) → (World → Prop) → Act → World → Prop
  | [], _, a, w => Q a w
  | (i, rd) :: rest, C, a, w =>
    match ops[i]? with
    | none => False
    | some o =>
      if Region.wanted o (yielded ops a.tmps) then
        if rd then ∃ v, (∀ x, C x → readAt P o a x v) ∧ wpMix P ops Q rest C (a.put o.dst v) w
        else o.wp P a w (fun a' w' => ∃ C2 : World → Prop, C2 w' ∧ (∀ x, C2 x → C x) ∧ wpMix P ops Q rest C2 a' w') NoQ
      else wpMix P ops Q rest C (a.put o.dst undef) w
def mixB (md : Region.Mode) (ops : Array Oper) : List (Nat × Bool) → Array Bool → Bool
  | [], listed => (Region.ready md ops listed).isEmpty
  | (i, true) :: r, listed => (Region.ready md ops listed).contains i && Region.free md ops listed i && mixB md ops r (listed.setIfInBounds i true)
  | (i, false) :: r, listed => decide (Region.ready md ops listed = [i]) && mixB md ops r (listed.setIfInBounds i true)

theorem wpAnyM_mix {Q : Act → World → Prop} (hs : Region.noSelect ops = true) : ∀ (l : List (Nat × Bool)) (listed : Array Bool) (C : World → Prop) (a : Act) (w : World), C w →
    mixB md ops l listed = true → wpMix P ops Q l C a w → wpAnyM P md ops Q l.length listed C a w
  | [], _, _, _, _, _, hB, h => ⟨by simpa [mixB] using hB, h⟩
  | (i, true) :: l, listed, C, a, w, hC, hB, h => by
    simp only [mixB, Bool.and_eq_true] at hB
    obtain ⟨⟨hr, hf⟩, hB'⟩ := hB
    have hr' : i ∈ Region.ready md ops listed := by simpa using hr
    obtain ⟨_, o, ho, _⟩ := mem_ready.1 hr'
    simp only [wpMix, ho] at h
    have hv : ∃ v, YieldsR P ops C o v a ∧ wpMix P ops Q l C (a.put o.dst v) w := by
      by_cases hw : Region.wanted o (yielded ops a.tmps) = true
      · simp only [hw, if_true] at h
        obtain ⟨v, h1, h2⟩ := h
        exact ⟨v, .inl ⟨hw, h1⟩, h2⟩
      · simp only [hw] at h
        exact ⟨undef, .inr ⟨by simpa using hw, rfl⟩, h⟩
    obtain ⟨v, hy, hK⟩ := hv
    exact wpAnyM_first ho (Region.noSelect_spec hs) l.length listed C a w (Region.free_spec ho hf) hr' hC hy (wpAnyM_mix hs l _ C _ w hC hB' hK)
  | (i, false) :: l, listed, C, a, w, hC, hB, h => by
    simp only [mixB, Bool.and_eq_true, decide_eq_true_eq] at hB
    refine ⟨fun h0 => (by rw [hB.1] at h0; cases h0), fun j hj => ?_⟩
    rw [hB.1] at hj
    have hji : j = i := by simpa using hj
    subst hji
    unfold mOp
    simp only [wpMix] at h
    split
    · rename_i ho; simp only [ho] at h
    · rename_i o ho
      simp only [ho] at h
      split
      · rename_i hw; simp only [hw, if_true, Bool.false_eq_true, if_false] at h; exact wp_mono2 (fun a w ⟨C2, h1, h2, h3⟩ => ⟨C2, h1, h2, wpAnyM_mix hs l _ C2 _ w h1 hB.2 h3⟩) h
      · rename_i hw; simp only [hw] at h; exact wpAnyM_mix hs l _ C _ w hC hB.2 h

/-- **A region that draws its order, by one walk.** -/
theorem wp_region_mix {id : Nat} {Q : Exit → Act → World → Prop} {a : Act} {w : World} {l : List Oper} (p : List (Nat × Bool)) (hm : P.follows .mixedOrders = true) (hs : Region.noSelect l.toArray = true) (hp : p.length = l.length)
    (hB : mixB .any l.toArray p (Array.replicate l.length false) = true) (C : World → Prop)
    (h : ∀ w2 : World, Hid (Drawn w w2) → C w2 ∧ wpMix P l.toArray (fun a' w' => Q .normal a' w') p C a w2) : (Code.region id l.toArray true).wp P Q a w := by
  refine wp_region_any hm ?_
  obtain ⟨h1, h2⟩ := h { w with drawn := w.drawn + 1 } (Lib.hid ⟨1, rfl⟩)
  have := wpAny_of_M (Q' := Q) (fun _ _ h => h) _ _ _ _ _ (wpAnyM_mix (md := .any) hs p _ C a _ h1 hB h2)
  rw [hp] at this
  simpa using this

/-! ### The same, with a tail of operations in one forced order that wait for all of the head: these may turn whatever they like -/
def wpAnyT (P : Program) (md : Region.Mode) (ops : Array Oper) (n : Nat) (L : Array Bool → Act → World → Prop) : Nat → Array Bool → (World → Prop) → Act → World → Prop
  | 0, listed, _, a, w => L listed a w
  | f + 1, listed, C, a, w => Region.ready md ops listed ≠ [] ∧ ∀ i ∈ Region.ready md ops listed, i < n ∧ mOp P ops i C (wpAnyT P md ops n L f (listed.setIfInBounds i true)) a w

theorem wpAny_of_T {n g : Nat} {L : Array Bool → Act → World → Prop} {Q' : Exit → Act → World → Prop} (hL : ∀ listed a w, L listed a w → wpAny P md ops Q' g listed a w) : ∀ (f : Nat) (listed : Array Bool) (C : World → Prop) (a : Act) (w : World),
    wpAnyT P md ops n L f listed C a w → wpAny P md ops Q' (f + g) listed a w
  | 0, _, _, _, _, h => by rw [Nat.zero_add]; exact hL _ _ _ h
  | f + 1, listed, C, a, w, h => by
    rw [show f + 1 + g = (f + g) + 1 by omega]
    refine ⟨fun h0 => absurd h0 h.1, fun i hi => ?_⟩
    have hm := (h.2 i hi).2
    unfold mOp at hm
    unfold wpOp
    split
    · rename_i ho; simp only [ho] at hm; exact wpAny_of_T hL f _ _ _ _ hm
    · rename_i o ho
      simp only [ho] at hm
      split
      · rename_i hw; simp only [hw, if_true] at hm; exact .inl (wp_mono2 (fun a w ⟨C2, _, _, h3⟩ => wpAny_of_T hL f _ _ _ _ h3) hm)
      · rename_i hw; simp only [hw] at hm; exact wpAny_of_T hL f _ _ _ _ hm

theorem wpAnyT_first {n i : Nat} {oi : Oper} {v : Value} {L : Array Bool → Act → World → Prop} (hi : ops[i]? = some oi) (hsel : ∀ (j : Nat) (o : Oper) cs b, ops[j]? = some o → o.op ≠ .select cs b)
    (hs : Region.sinkB md ops n = true) (hc : Region.chainB md ops n = true) (hn : n < ops.size) (hin : i < n) (hdone : ∀ listed a w, L listed a w → ∀ j ∈ Region.ready md ops listed, n ≤ j) :
    ∀ (f : Nat) (listed : Array Bool) (C : World → Prop) (a : Act) (w : World), HeadInv md ops n listed →
      (∀ j oj, ops[j]? = some oj → j ≠ i → listed.getD j true = false → (∀ e ∈ oj.after, Region.binds md e = true → e.on ≠ i) → oi.apart ops oj = true) →
      i ∈ Region.ready md ops listed → C w → YieldsR P ops C oi v a →
      wpAnyT P md ops n L f (listed.setIfInBounds i true) C (a.put oi.dst v) w → wpAnyT P md ops n L (f + 1) listed C a w := by
  intro f
  induction f with
  | zero =>
    intro listed C a w inv _ hr hC hy H
    have hun := (mem_ready.1 hr).1
    refine ⟨fun h => (by rw [h] at hr; cases hr), fun j hj => ?_⟩
    have hjn : j < n := by
      rcases Nat.lt_or_ge j n with h | h
      · exact h
      · exact absurd hj (tail_waits hs hc hn inv _ i rfl hin hun j h)
    refine ⟨hjn, ?_⟩
    by_cases hji : j = i
    · subst hji; exact hy.mOp hi hC H
    · have := hdone _ _ _ H j (ready_mono hj hji)
      omega
  | succ f ih =>
    intro listed C a w inv hfree hr hC hy H
    have hun := (mem_ready.1 hr).1
    refine ⟨fun h => (by rw [h] at hr; cases hr), fun j hj => ?_⟩
    have hjn : j < n := by
      rcases Nat.lt_or_ge j n with h | h
      · exact h
      · exact absurd hj (tail_waits hs hc hn inv _ i rfl hin hun j h)
    refine ⟨hjn, ?_⟩
    by_cases hji : j = i
    · subst hji; exact hy.mOp hi hC H
    · have h1 := (H.2 j (ready_mono hj hji)).2
      obtain ⟨hjun, oj, hoj, hall⟩ := mem_ready.1 hj
      have hnot : ∀ e ∈ oj.after, Region.binds md e = true → e.on ≠ i := fun e he hb heq => by
        have h1 := hall e he hb
        rw [heq, getD_both hun] at h1
        cases h1
      have h2 := mOp_put hoj (hfree j oj hoj hji hjun hnot) (fun cs b => hsel i oi cs b hi) (fun cs b => hsel j oj cs b hoj) hC hy h1
      have hfree' : ∀ k ok, ops[k]? = some ok → k ≠ i → (listed.setIfInBounds j true).getD k true = false →
          (∀ e ∈ ok.after, Region.binds md e = true → e.on ≠ i) → oi.apart ops ok = true := fun k ok hk hki hun hno => by
        refine hfree k ok hk hki ?_ hno
        by_cases hjk : j = k
        · subst hjk; exact hjun
        · rw [getD_set_ne true hjk] at hun; exact hun
      refine mOp_mono (fun C2 a' w' h3 => ih (listed.setIfInBounds j true) C2 a' w' (inv.set hj hjn) hfree' (ready_mono hr (Ne.symm hji)) h3.1 h3.2.1 ?_) h2
      rw [Array.setIfInBounds_comm _ _ hji]
      exact h3.2.2

def mixTB (md : Region.Mode) (ops : Array Oper) (n g : Nat) : List (Nat × Bool) → Array Bool → Bool
  | [], listed => Region.seqB md ops g n listed
  | (i, true) :: r, listed => decide (i < n) && (Region.ready md ops listed).contains i && Region.free md ops listed i && mixTB md ops n g r (listed.setIfInBounds i true)
  | (i, false) :: r, listed => decide (i < n) && decide (Region.ready md ops listed = [i]) && mixTB md ops n g r (listed.setIfInBounds i true)
theorem wpAnyT_mix {n g : Nat} {Q : Act → World → Prop} (hsel : Region.noSelect ops = true) (hs : Region.sinkB md ops n = true) (hc : Region.chainB md ops n = true) (hn : n < ops.size) :
    ∀ (l : List (Nat × Bool)) (listed : Array Bool) (C : World → Prop) (a : Act) (w : World), C w → HeadInv md ops n listed →
    mixTB md ops n g l listed = true → wpMix P ops Q l C a w → wpAnyT P md ops n (fun listed' a' w' => Region.seqB md ops g n listed' = true ∧ Q a' w') l.length listed C a w
  | [], _, _, _, _, _, _, hB, h => ⟨by simpa [mixTB] using hB, h⟩
  | (i, true) :: l, listed, C, a, w, hC, inv, hB, h => by
    simp only [mixTB, Bool.and_eq_true, decide_eq_true_eq] at hB
    obtain ⟨⟨⟨hin, hr⟩, hf⟩, hB'⟩ := hB
    have hr' : i ∈ Region.ready md ops listed := by simpa using hr
    obtain ⟨_, o, ho, _⟩ := mem_ready.1 hr'
    simp only [wpMix, ho] at h
    have hv : ∃ v, YieldsR P ops C o v a ∧ wpMix P ops Q l C (a.put o.dst v) w := by
      by_cases hw : Region.wanted o (yielded ops a.tmps) = true
      · simp only [hw, if_true] at h
        obtain ⟨v, h1, h2⟩ := h
        exact ⟨v, .inl ⟨hw, h1⟩, h2⟩
      · simp only [hw] at h
        exact ⟨undef, .inr ⟨by simpa using hw, rfl⟩, h⟩
    obtain ⟨v, hy, hK⟩ := hv
    exact wpAnyT_first ho (Region.noSelect_spec hsel) hs hc hn hin (fun listed' a' w' hL => seqB_ready hL.1) l.length listed C a w inv (Region.free_spec ho hf) hr' hC hy
      (wpAnyT_mix hsel hs hc hn l _ C _ w hC (inv.set hr' hin) hB' hK)
  | (i, false) :: l, listed, C, a, w, hC, inv, hB, h => by
    simp only [mixTB, Bool.and_eq_true, decide_eq_true_eq] at hB
    obtain ⟨⟨hin, hrd⟩, hB'⟩ := hB
    have hr' : i ∈ Region.ready md ops listed := by rw [hrd]; simp
    refine ⟨fun h0 => (by rw [hrd] at h0; cases h0), fun j hj => ?_⟩
    rw [hrd] at hj
    have hji : j = i := by simpa using hj
    subst hji
    refine ⟨hin, ?_⟩
    unfold mOp
    simp only [wpMix] at h
    split
    · rename_i ho; simp only [ho] at h
    · rename_i o ho
      simp only [ho] at h
      split
      · rename_i hw; simp only [hw, if_true, Bool.false_eq_true, if_false] at h; exact wp_mono2 (fun a w ⟨C2, h1, h2, h3⟩ => ⟨C2, h1, h2, wpAnyT_mix hsel hs hc hn l _ C2 _ w h1 (inv.set hr' hin) hB' h3⟩) h
      · rename_i hw; simp only [hw] at h; exact wpAnyT_mix hsel hs hc hn l _ C _ w hC (inv.set hr' hin) hB' h
def mixTailB (md : Region.Mode) (ops : Array Oper) (n : Nat) (p : List (Nat × Bool)) : Bool :=
  Region.noSelect ops && decide (n < ops.size) && Region.sinkB md ops n && Region.chainB md ops n && decide (p.length = n) && mixTB md ops n (ops.size - n) p (Array.replicate ops.size false)
theorem wp_region_mixT {id : Nat} {Q : Exit → Act → World → Prop} {a : Act} {w : World} {l : List Oper} (n : Nat) (p : List (Nat × Bool)) (hm : P.follows .mixedOrders = true) (hB : mixTailB .any l.toArray n p = true) (C : World → Prop)
    (h : ∀ w2 : World, Hid (Drawn w w2) → C w2 ∧ wpMix P l.toArray (fun a' w' => wpList P l.toArray Q (l.drop n) a' w') p C a w2) : (Code.region id l.toArray true).wp P Q a w := by
  simp only [mixTailB, Bool.and_eq_true, decide_eq_true_eq] at hB
  obtain ⟨⟨⟨⟨⟨hsel, hn⟩, hs⟩, hc⟩, hpn⟩, hmix⟩ := hB
  have hn' : n < l.length := by simpa using hn
  have hdl : (l.drop n).length = l.toArray.size - n := by simp
  have inv0 : HeadInv .any l.toArray n (Array.replicate l.toArray.size false) :=
    ⟨by simp, fun j oj _ hl => (by rw [getD_replicate_false] at hl; cases hl), fun t _ ht => getD_in (by simpa using ht) (getD_replicate_false _ _)⟩
  refine wp_region_any hm ?_
  obtain ⟨h1, h2⟩ := h { w with drawn := w.drawn + 1 } (Lib.hid ⟨1, rfl⟩)
  have H := wpAnyT_mix (md := .any) (g := l.toArray.size - n) hsel hs hc hn p _ C a _ h1 inv0 hmix h2
  have := wpAny_of_T (Q' := Q) (g := l.toArray.size - n) (fun listed a' w' hL => by
    have := wpAny_of_seq (md := .any) (Q' := Q) (l.drop n) n listed a' w' (fun j => by simp [List.getElem?_drop]) (by rw [hdl]; exact hL.1) hL.2
    rwa [hdl] at this) _ _ _ _ _ H
  rw [hpn, show n + (l.toArray.size - n) = l.toArray.size by omega] at this
  exact this

/-! ### The steps of the walk -/
theorem wpMix_rd {Q : Act → World → Prop} {i : Nat} {rest : List (Nat × Bool)} {C : World → Prop} {a : Act} {w : World} {o : Oper} (ho : ops[i]? = some o) (hg : o.guard = none)
    (h : ∀ K : Act → Prop, (∀ a, wpMix P ops Q rest C a w → K a) → ∃ v, (∀ x, C x → readAt P o a x v) ∧ K (a.put o.dst v)) : wpMix P ops Q ((i, true) :: rest) C a w := by
  simp only [wpMix, ho]
  rw [if_pos (by simp [Region.wanted, hg])]
  exact h _ (fun _ h => h)
theorem wpMix_nil {Q : Act → World → Prop} {C : World → Prop} {a : Act} {w : World} (h : Q a w) : wpMix P ops Q [] C a w := h
theorem wpMix_wr {Q : Act → World → Prop} {i : Nat} {rest : List (Nat × Bool)} {C : World → Prop} {a : Act} {w : World} {o : Oper} (ho : ops[i]? = some o) (hg : o.guard = none)
    (h : ∀ K : Act → World → Prop, (∀ (C2 : World → Prop) a w, C2 w → (∀ x, C2 x → C x) → wpMix P ops Q rest C2 a w → K a w) → o.wp P a w K NoQ) : wpMix P ops Q ((i, false) :: rest) C a w := by
  simp only [wpMix, ho]
  rw [if_pos (by simp [Region.wanted, hg])]
  exact h _ (fun C2 a w h1 h2 h3 => ⟨C2, h1, h2, h3⟩)
theorem wpMix_rdG {Q : Act → World → Prop} {i : Nat} {rest : List (Nat × Bool)} {C : World → Prop} {a : Act} {w : World} {o : Oper} (ho : ops[i]? = some o) (hw : Region.wanted o (yielded ops a.tmps) = true)
    (h : ∀ K : Act → Prop, (∀ a, wpMix P ops Q rest C a w → K a) → ∃ v, (∀ x, C x → readAt P o a x v) ∧ K (a.put o.dst v)) : wpMix P ops Q ((i, true) :: rest) C a w := by
  simp only [wpMix, ho]
  rw [if_pos hw]
  exact h _ (fun _ h => h)
theorem wpMix_wrG {Q : Act → World → Prop} {i : Nat} {rest : List (Nat × Bool)} {C : World → Prop} {a : Act} {w : World} {o : Oper} (ho : ops[i]? = some o) (hw : Region.wanted o (yielded ops a.tmps) = true)
    (h : ∀ K : Act → World → Prop, (∀ (C2 : World → Prop) a w, C2 w → (∀ x, C2 x → C x) → wpMix P ops Q rest C2 a w → K a w) → o.wp P a w K NoQ) : wpMix P ops Q ((i, false) :: rest) C a w := by
  simp only [wpMix, ho]
  rw [if_pos hw]
  exact h _ (fun C2 a w h1 h2 h3 => ⟨C2, h1, h2, h3⟩)
end
end Go.Proofs.YtkchdhkpjnnliaaDoor
