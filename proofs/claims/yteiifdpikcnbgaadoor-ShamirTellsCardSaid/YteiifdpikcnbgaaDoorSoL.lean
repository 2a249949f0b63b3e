/- Shares split, sorted, joined, summed: what comes, and what it tells. No walk. -/
import Derived.Test.YteiifdpikcnbgaaDoorSo0
namespace Go.Proofs.YteiifdpikcnbgaaDoor
open Go.RowKit
set_option linter.unusedSimpArgs false
set_option linter.unusedVariables false
/-! ### What comes -/
def splS (c : List UInt64) : Nat → List Sh
  | 0 => []
  | k + 1 => splS c k ++ [(UInt64.ofNat (k + 1), polyU c (UInt64.ofNat (k + 1)))]
theorem splS_zero (c : List UInt64) : splS c 0 = [] := rfl
theorem splS_succ (c : List UInt64) (k : Nat) : splS c (k + 1) = splS c k ++ [(UInt64.ofNat (k + 1), polyU c (UInt64.ofNat (k + 1)))] := rfl
theorem splS_length (c : List UInt64) (n : Nat) : (splS c n).length = n := by
  induction n with
  | zero => rfl
  | succ n ih => simp [splS, ih]
theorem splS_ix (c : List UInt64) (n i : Nat) (h : i < n) : ix (splS c n) i = (UInt64.ofNat (i + 1), polyU c (UInt64.ofNat (i + 1))) := by
  induction n with
  | zero => omega
  | succ n ih =>
    rw [splS_succ]
    by_cases e : i = n
    · subst e
      simp [ix, List.getD_eq_getElem?_getD, splS_length]
    · rw [show ix (splS c n ++ [(UInt64.ofNat (n + 1), polyU c (UInt64.ofNat (n + 1)))]) i = ix (splS c n) i from by simp [ix, List.getD_eq_getElem?_getD, List.getElem?_append_left (show i < (splS c n).length by rw [splS_length]; omega)]]
      exact ih (by omega)
def okAll (l : List Sh) : Bool := l.all okSh
def sorE (l : List Sh) : Int := if l.length ≤ 64 then (if okAll l = true then (if asc (sortP l) = true then 0 else 8) else 1) else 1
def sorL (l : List Sh) : List Sh := if sorE l = 0 then sortP l else []
def lineU (l : List Sh) (m : Nat) : Bool := (List.range (l.length - m)).all fun i => decide (thU (l.take m) (ix l (m + i)).1 m = (ix l (m + i)).2 % fpP)
def joiE (l : List Sh) (need : Int) : Int :=
  if need < 1 then 1 else if sorE l = 0 then (if (l.length : Int) < need then 7 else if lineU (sortP l) need.toNat = true then 0 else 4) else sorE l
def joiU (l : List Sh) (need : Int) : UInt64 := if joiE l need = 0 then thU ((sortP l).take need.toNat) 0 need.toNat else 0
def sumTo (a b : List Sh) : Nat → List Sh
  | 0 => a
  | k + 1 => (sumTo a b k).set k ((ix a k).1, addU (ix a k).2 (ix b k).2)
def sameX (a b : List Sh) : Bool := (List.range a.length).all fun i => decide ((ix a i).1 = (ix b i).1)
def sumE (a b : List Sh) : Int := if sorE a = 0 then (if sorE b = 0 then (if a.length = b.length then (if sameX (sortP a) (sortP b) = true then 0 else 1) else 1) else sorE b) else sorE a
def sumL (a b : List Sh) : List Sh := if sumE a b = 0 then sumTo (sortP a) (sortP b) a.length else []
/-! ### What it tells -/
open Prm (Q)
abbrev PL (l : List Sh) : List UInt64 := l.map (·.1)
theorem okSh_iff {s : Sh} : okSh s = true ↔ s.1 ≠ 0 ∧ s.1.toNat < 2305843009213693951 ∧ s.2.toNat < 2305843009213693951 := by
  unfold okSh
  rw [decide_eq_true_eq]
theorem okAll_iff {l : List Sh} : okAll l = true ↔ ∀ s ∈ l, s.1 ≠ 0 ∧ s.1.toNat < 2305843009213693951 ∧ s.2.toNat < 2305843009213693951 := by
  unfold okAll
  rw [List.all_eq_true]
  exact ⟨fun h s hs => okSh_iff.1 (h s hs), fun h s hs => okSh_iff.2 (h s hs)⟩
theorem okAll_perm {l l' : List Sh} (h : l.Perm l') (ok : okAll l' = true) : okAll l = true := okAll_iff.2 fun s hs => okAll_iff.1 ok s (h.mem_iff.1 hs)
theorem okAll_take {l : List Sh} (m : Nat) (ok : okAll l = true) : okAll (l.take m) = true := okAll_iff.2 fun s hs => okAll_iff.1 ok s (List.mem_of_mem_take hs)
theorem qU_inj {a b : UInt64} (ha : a.toNat < 2305843009213693951) (hb : b.toNat < 2305843009213693951) (h : qU a = qU b) : a = b := by
  have := qU_eq.1 h
  rw [Nat.mod_eq_of_lt ha, Nat.mod_eq_of_lt hb] at this
  exact UInt64.toNat_inj.1 this
theorem qU_mod (a : UInt64) : qU (a % fpP) = qU a := by rw [qU_eq, modP_toNat, Nat.mod_mod]
theorem thU_lt (l : List Sh) (a : UInt64) (k : Nat) : (thU l a k).toNat < 2305843009213693951 := by
  cases k with
  | zero => show (0 : UInt64).toNat < _; decide
  | succ k => rw [thU_succ, addU_toNat]; exact Nat.mod_lt _ (by decide)
theorem ix_mem {α : Type} [Inhabited α] {l : List α} {i : Nat} (h : i < l.length) : ix l i ∈ l := by rw [ix_get h]; exact List.getElem_mem h
theorem nodup_ix {l : List Sh} (nd : (PL l).Nodup) {i j : Nat} (hi : i < l.length) (hj : j < l.length) (h : (ix l i).1 = (ix l j).1) : i = j := by
  have hi' : i < (PL l).length := by simpa using hi
  have hj' : j < (PL l).length := by simpa using hj
  refine (List.getElem_inj (h₀ := hi') (h₁ := hj') nd).1 ?_
  rw [ix_get hi, ix_get hj] at h
  simpa using h
theorem apart_of {l : List Sh} (ok : okAll l = true) (nd : (PL l).Nodup) : apartU (PL l) = true := by
  rw [apartU_q]
  intro i j hi hj h
  have hi' : i < l.length := by simpa using hi
  have hj' : j < l.length := by simpa using hj
  rw [ix_fst l i hi', ix_fst l j hj'] at h
  exact nodup_ix nd hi' hj' (qU_inj (okAll_iff.1 ok _ (ix_mem hi')).2.1 (okAll_iff.1 ok _ (ix_mem hj')).2.1 h)
theorem pcOk_of {l : List Sh} (h64 : l.length ≤ 64) (ok : okAll l = true) (nd : (PL l).Nodup) : pcOk (PL l) = true := by
  unfold pcOk
  rw [Bool.and_eq_true, decide_eq_true_eq]
  exact ⟨by simpa using h64, apart_of ok nd⟩
theorem nodup_take {l : List Sh} (m : Nat) (nd : (PL l).Nodup) : (PL (l.take m)).Nodup := by
  show (List.map _ _).Nodup
  rw [List.map_take]
  exact nd.sublist (List.take_sublist _ _)
theorem asc_of {l : List Sh} (nd : (PL l).Nodup) : asc l = true := asc_iff.2 fun i hi h => by have := nodup_ix nd (by omega) (by omega) h; omega
/-- In order and no two that touch of one place: no two at all. -/
theorem nodup_of {L : List Sh} (h : asc (sortP L) = true) : (PL (sortP L)).Nodup := by
  have hl := sortP_length L
  have step : ∀ i, i + 1 < L.length → (ix (sortP L) i).1.toNat < (ix (sortP L) (i + 1)).1.toNat := fun i hi => by
    have h1 := sortP_ord L i (i + 1) (by omega) hi
    have h2 := asc_iff.1 h i (by omega)
    have : (ix (sortP L) (i + 1)).1.toNat ≠ (ix (sortP L) i).1.toNat := fun e => h2 (UInt64.toNat_inj.1 e)
    omega
  show List.Pairwise _ _
  rw [List.pairwise_iff_getElem]
  intro i j hi hj hij
  have hi' : i < (sortP L).length := by simpa using hi
  have hj' : j < (sortP L).length := by simpa using hj
  intro e
  have e' : (ix (sortP L) i).1 = (ix (sortP L) j).1 := by rw [ix_get hi', ix_get hj']; simpa using e
  have h1 := step i (by omega)
  have h2 : (ix (sortP L) (i + 1)).1.toNat ≤ (ix (sortP L) j).1.toNat := by
    by_cases e : i + 1 = j
    · rw [e]; exact Nat.le_refl _
    · exact sortP_ord L (i + 1) j (by omega) (by omega)
  rw [e'] at h1
  omega
section
variable {l : List Sh}
theorem perm_nodup (nd : (PL l).Nodup) : (PL (sortP l)).Nodup := ((sortP_perm l).map (·.1)).nodup_iff.2 nd
theorem sorE_of (h64 : l.length ≤ 64) (ok : okAll l = true) (nd : (PL l).Nodup) : sorE l = 0 := by
  unfold sorE
  rw [if_pos h64, if_pos ok, if_pos (asc_of (perm_nodup nd))]
theorem sorE_ok (h : sorE l = 0) : l.length ≤ 64 ∧ okAll l = true ∧ asc (sortP l) = true := by
  unfold sorE at h
  split at h
  · rename_i h1
    split at h
    · rename_i h2
      split at h
      · rename_i h3
        exact ⟨h1, h2, h3⟩
      · cases h
    · cases h
  · cases h
/-- The curve through places apart. -/
theorem th_curve (c : List Q) (hc : c.length ≤ l.length) (ok : okAll l = true) (nd : (PL l).Nodup) (hv : ∀ s ∈ l, qU s.2 = Prm.ev c (qU s.1)) (a : UInt64) : qU (thU l a l.length) = Prm.ev c (qU a) := by
  rw [qU_thU l a _ (Nat.le_refl _)]
  have hq := apartU_q.1 (apart_of ok nd)
  refine Prm.lagq_curve (X := fun j => qU (ix (l.map (·.1)) j)) (Y := fun j => qU (ix l j).2) (fun i j hi hj h => hq i j (by simpa using hi) (by simpa using hj) h) c hc (fun i hi => ?_) (qU a)
  show qU (ix l i).2 = Prm.ev c (qU (ix (l.map (·.1)) i))
  rw [ix_fst l i hi]
  exact hv _ (ix_mem hi)
theorem take_len {m : Nat} (h : m ≤ l.length) : (l.take m).length = m := by rw [List.length_take]; omega
theorem ix_tk {l : List Sh} {i m : Nat} (h : i < m) : ix (l.take m) i = ix l i := by simp [ix, List.getD_eq_getElem?_getD, List.getElem?_take, h]
theorem join_curve (c : List Q) (m : Nat) (hc : c.length ≤ m) (h1 : 1 ≤ m) (hm : m ≤ l.length) (h64 : l.length ≤ 64) (ok : okAll l = true) (nd : (PL l).Nodup) (hv : ∀ s ∈ l, qU s.2 = Prm.ev c (qU s.1)) :
    joiE l m = 0 ∧ qU (joiU l m) = Prm.ev c (qU 0) ∧ (joiU l m).toNat < 2305843009213693951 := by
  have P := sortP_perm l
  have ok' := okAll_perm P ok
  have nd' := perm_nodup nd
  have hl := sortP_length l
  have hv' : ∀ s ∈ sortP l, qU s.2 = Prm.ev c (qU s.1) := fun s hs => hv s (P.mem_iff.1 hs)
  have tl : ((sortP l).take m).length = m := take_len (by omega)
  have ht : ∀ a, qU (thU ((sortP l).take m) a m) = Prm.ev c (qU a) := fun a => by
    have := th_curve (l := (sortP l).take m) c (by omega) (okAll_take m ok') (nodup_take m nd') (fun s hs => hv' s (List.mem_of_mem_take hs)) a
    rwa [tl] at this
  have hline : lineU (sortP l) m = true := by
    unfold lineU
    rw [List.all_eq_true]
    intro i hi
    rw [List.mem_range] at hi
    rw [decide_eq_true_eq]
    have hmem := ix_mem (l := sortP l) (i := m + i) (by omega)
    refine qU_inj (thU_lt _ _ _) (by rw [modP_toNat]; exact Nat.mod_lt _ (by decide)) ?_
    rw [ht, qU_mod, hv' _ hmem]
  have e : joiE l m = 0 := by
    unfold joiE
    rw [if_neg (by omega), if_pos (sorE_of h64 ok nd), if_neg (by omega), Int.toNat_natCast, if_pos hline]
  refine ⟨e, ?_, ?_⟩
  · unfold joiU
    rw [if_pos e, Int.toNat_natCast, ht]
  · unfold joiU
    rw [if_pos e]
    exact thU_lt _ _ _
theorem join_few (m : Nat) (h1 : 1 ≤ m) (hm : l.length < m) (h64 : l.length ≤ 64) (ok : okAll l = true) (nd : (PL l).Nodup) : joiE l m = 7 := by
  unfold joiE
  rw [if_neg (by omega), if_pos (sorE_of h64 ok nd), if_pos (by omega)]
theorem one_ne_q : (1 : Q) ≠ 0 := by decide +kernel
theorem join_wrong (c : List Q) (t m : Nat) (hc : c.length ≤ m) (h1 : 1 ≤ m) (hm : m < l.length) (h64 : l.length ≤ 64) (ok : okAll l = true) (nd : (PL l).Nodup) (hv : ∀ s ∈ l, qU s.2 = Prm.ev c (qU s.1)) (ht : t < l.length) :
    joiE (l.set t ((ix l t).1, addU (ix l t).2 1)) m = 4 := by
  have hx : ∃ x, x = (ix l t).1 := ⟨_, rfl⟩
  obtain ⟨x, hx⟩ := hx
  have hb : ∃ b, b = l.set t ((ix l t).1, addU (ix l t).2 1) := ⟨_, rfl⟩
  obtain ⟨b, hb⟩ := hb
  have bl : b.length = l.length := by rw [hb, List.length_set]
  have bx : ∀ i, ix b i = if i = t then ((ix l t).1, addU (ix l t).2 1) else ix l i := fun i => by
    rw [hb]
    by_cases e : i = t
    · subst e; rw [if_pos rfl, ix_set_eq _ _ _ ht]
    · rw [if_neg e, ix_set_ne _ _ _ _ (fun h => e h.symm)]
  have memix : ∀ {l : List Sh} {s : Sh}, s ∈ l → ∃ i, i < l.length ∧ s = ix l i := fun {l s} hs => by
    obtain ⟨i, hi, rfl⟩ := List.mem_iff_getElem.1 hs
    exact ⟨i, hi, (ix_get hi).symm⟩
  have bok : okAll b = true := okAll_iff.2 fun s hs => by
    obtain ⟨i, hi, rfl⟩ := memix hs
    rw [bx]
    by_cases e : i = t
    · rw [if_pos e]
      have := okAll_iff.1 ok _ (ix_mem ht)
      exact ⟨this.1, this.2.1, by show (addU _ _).toNat < _; rw [addU_toNat]; exact Nat.mod_lt _ (by decide)⟩
    · rw [if_neg e]
      exact okAll_iff.1 ok _ (ix_mem (by omega))
  have bpl : PL b = PL l := by
    apply List.ext_getElem
    · simp [bl]
    · intro i h1 h2
      have hi : i < b.length := by simpa using h1
      have hi' : i < l.length := by omega
      have e1 : (PL b)[i] = (ix b i).1 := by rw [ix_get hi]; simp
      have e2 : (PL l)[i] = (ix l i).1 := by rw [ix_get hi']; simp
      rw [e1, e2, bx]
      split
      · rename_i e; rw [e]
      · rfl
  have bnd : (PL b).Nodup := by rw [bpl]; exact nd
  have bv : ∀ s ∈ b, qU s.2 = Prm.ev c (qU s.1) + if s.1 = x then 1 else 0 := fun s hs => by
    obtain ⟨i, hi, rfl⟩ := memix hs
    rw [bx]
    by_cases e : i = t
    · rw [if_pos e]
      show qU (addU (ix l t).2 1) = _
      rw [if_pos hx.symm, qU_add, hv _ (ix_mem ht)]
      rfl
    · have hne : (ix l i).1 ≠ x := fun h => e (nodup_ix nd (by omega) ht (h.trans hx))
      rw [if_neg e, if_neg hne, hv _ (ix_mem (by omega))]
      grind
  rw [← hb]
  have P := sortP_perm b
  have hl := sortP_length b
  have ok' := okAll_perm P bok
  have nd' := perm_nodup bnd
  have hv' : ∀ s ∈ sortP b, qU s.2 = Prm.ev c (qU s.1) + if s.1 = x then 1 else 0 := fun s hs => bv s (P.mem_iff.1 hs)
  have hin : ∃ p, p < (sortP b).length ∧ (ix (sortP b) p).1 = x := by
    obtain ⟨p, hp, e⟩ := memix (P.mem_iff.2 (ix_mem (l := b) (i := t) (by omega)))
    exact ⟨p, hp, by rw [← e, bx, if_pos rfl]; exact hx.symm⟩
  have hline : ¬ lineU (sortP b) m = true := by
    intro h
    unfold lineU at h
    rw [List.all_eq_true] at h
    have h : ∀ i, m ≤ i → i < b.length → qU (thU ((sortP b).take m) (ix (sortP b) i).1 m) = qU (ix (sortP b) i).2 := fun i h1 h2 => by
      have := h (i - m) (List.mem_range.2 (by omega))
      rw [decide_eq_true_eq, show m + (i - m) = i from by omega] at this
      rw [this, qU_mod]
    obtain ⟨p, hp, hpx⟩ := hin
    have tl : ((sortP b).take m).length = m := take_len (by omega)
    have tok := okAll_take m ok'
    have tnd := nodup_take m nd'
    have hq := apartU_q.1 (apart_of tok tnd)
    have hmem : ∀ i, i < (sortP b).length → ix (sortP b) i ∈ sortP b := fun i hi => ix_mem hi
    by_cases hpm : p < m
    · -- the other one stands among the first
      have hxm : (ix (sortP b) m).1 ≠ x := fun e => by
        have := nodup_ix nd' (i := m) (j := p) (by omega) hp (e.trans hpx.symm)
        omega
      have e1 := h m (Nat.le_refl _) (by omega)
      rw [hv' _ (hmem m (by omega)), if_neg hxm] at e1
      have e2 := qU_thU ((sortP b).take m) (ix (sortP b) m).1 m (by omega)
      rw [tl] at e2
      have hX : ∀ i j, i < m → j < m → qU (ix (((sortP b).take m).map (·.1)) i) = qU (ix (((sortP b).take m).map (·.1)) j) → i = j := fun i j hi hj h => hq i j (by simp; omega) (by simp; omega) h
      have hat : ∀ i, i < m → ix (((sortP b).take m).map (·.1)) i = (ix (sortP b) i).1 := fun i hi => by rw [ix_fst _ i (by omega), ix_tk hi]
      have e3 := Prm.lagq_more (X := fun j => qU (ix (((sortP b).take m).map (·.1)) j)) (Y := fun j => if j < m then Prm.ev c (qU (ix (((sortP b).take m).map (·.1)) j)) else qU (ix ((sortP b).take m) j).2) (n := m) (m := p) (1 : Q) (qU (ix (sortP b) m).1) (fun j => qU (ix ((sortP b).take m) j).2)
        (fun i hi => ?_) ?_ m
      · have e4 := Prm.lagq_curve (X := fun j => qU (ix (((sortP b).take m).map (·.1)) j)) (Y := fun j => if j < m then Prm.ev c (qU (ix (((sortP b).take m).map (·.1)) j)) else qU (ix ((sortP b).take m) j).2) (n := m) hX c hc (fun i hi => by show (if i < m then _ else _) = _; rw [if_pos hi]) (qU (ix (sortP b) m).1)
        have e5 := Prm.wtq_ne (X := fun j => qU (ix (((sortP b).take m).map (·.1)) j)) (n := m) (i := p) (a := qU (ix (sortP b) m).1) hpm hX (fun j hj e => by
          have e : qU (ix (sortP b) m).1 = qU (ix (((sortP b).take m).map (·.1)) j) := e
          rw [hat j hj] at e
          have := nodup_ix nd' (i := m) (j := j) (by omega) (by omega) (qU_inj (okAll_iff.1 ok' _ (hmem m (by omega))).2.1 (okAll_iff.1 ok' _ (hmem j (by omega))).2.1 e)
          omega)
        rw [e4, if_pos hpm] at e3
        rw [e2, e3] at e1
        exact e5 (by grind)
      · show qU (ix ((sortP b).take m) i).2 = if i < m then Prm.ev c (qU (ix (((sortP b).take m).map (·.1)) i)) else qU (ix ((sortP b).take m) i).2
        by_cases him : i < m
        · rw [if_pos him, hat i him, ix_tk him, hv' _ (hmem i (by omega)), if_neg (fun e => hi (nodup_ix nd' (by omega) hp (e.trans hpx.symm)))]
          grind
        · rw [if_neg him]
      · show qU (ix ((sortP b).take m) p).2 = (if p < m then Prm.ev c (qU (ix (((sortP b).take m).map (·.1)) p)) else qU (ix ((sortP b).take m) p).2) + 1
        rw [if_pos hpm, hat p hpm, ix_tk hpm, hv' _ (hmem p hp), if_pos hpx]
    · have e1 := h p (by omega) (by omega)
      have := th_curve (l := (sortP b).take m) c (by omega) tok tnd (fun s hs => by
        obtain ⟨i, hi, rfl⟩ := memix hs
        rw [tl] at hi
        rw [ix_tk hi, hv' _ (hmem i (by omega)), if_neg (fun e => by have := nodup_ix nd' (by omega) hp (e.trans hpx.symm); omega)]
        grind) (ix (sortP b) p).1
      rw [tl] at this
      rw [this, hv' _ (hmem p hp), if_pos hpx] at e1
      exact one_ne_q (by grind)
  unfold joiE
  rw [if_neg (by omega), if_pos (sorE_of (by omega) bok bnd), if_neg (by omega), Int.toNat_natCast, if_neg hline]
end
/-! ### Already in order -/
theorem sortP_same {l : List Sh} (h : ∀ i j, i < j → j < l.length → (ix l i).1.toNat < (ix l j).1.toNat) : sortP l = l := by
  have hl := sortP_length l
  have P := sortP_perm l
  have nd : (PL l).Nodup := by
    show List.Pairwise _ _
    rw [List.pairwise_iff_getElem]
    intro i j hi hj hij e
    have hi' : i < l.length := by simpa using hi
    have hj' : j < l.length := by simpa using hj
    have := h i j hij hj'
    rw [ix_get hi', ix_get hj'] at this
    have e : l[i].1 = l[j].1 := by simpa using e
    rw [e] at this
    omega
  refine List.Perm.eq_of_pairwise (le := fun x y : Sh => x.1.toNat ≤ y.1.toNat) ?_ ?_ ?_ P
  · intro x y hx hy h1 h2
    obtain ⟨i, hi, rfl⟩ := List.mem_iff_getElem.1 (P.mem_iff.1 hx)
    obtain ⟨j, hj, rfl⟩ := List.mem_iff_getElem.1 hy
    have e : (ix l i).1 = (ix l j).1 := by rw [ix_get hi, ix_get hj]; exact UInt64.toNat_inj.1 (Nat.le_antisymm h1 h2)
    have := nodup_ix nd hi hj e
    subst this
    rfl
  · rw [List.pairwise_iff_getElem]
    intro i j hi hj hij
    have := sortP_ord l i j hij (by omega)
    rwa [ix_get hi, ix_get hj] at this
  · rw [List.pairwise_iff_getElem]
    intro i j hi hj hij
    have := h i j hij hj
    rw [ix_get hi, ix_get hj] at this
    omega
end Go.Proofs.YteiifdpikcnbgaaDoor
