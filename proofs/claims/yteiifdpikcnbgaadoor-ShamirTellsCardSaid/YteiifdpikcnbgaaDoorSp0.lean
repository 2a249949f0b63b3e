/- Euclid's way to an inverse, Newton's to a curve: what they give. No walk. -/
import Derived.Test.YteiifdpikcnbgaaDoorSoL
namespace Go.Proofs.YteiifdpikcnbgaaDoor
open Go.RowKit
set_option linter.unusedSimpArgs false
set_option linter.unusedVariables false
open Prm (Q)
/-! ### Euclid -/
structure Eu where
  r : UInt64
  s : UInt64
  x : UInt64
  y : UInt64
def euS (a : UInt64) : Nat → Eu
  | 0 => ⟨2305843009213693951, a % fpP, 0, 1⟩
  | k + 1 => if 0 < (euS a k).s then ⟨(euS a k).s, (euS a k).r - (euS a k).r / (euS a k).s * (euS a k).s, (euS a k).y, subU (euS a k).x (fpMul ((euS a k).r / (euS a k).s) (euS a k).y)⟩ else euS a k
theorem euS_zero (a : UInt64) : euS a 0 = ⟨2305843009213693951, a % fpP, 0, 1⟩ := rfl
theorem euS_step {a : UInt64} {k : Nat} (h : 0 < (euS a k).s) : euS a (k + 1) = ⟨(euS a k).s, (euS a k).r - (euS a k).r / (euS a k).s * (euS a k).s, (euS a k).y, subU (euS a k).x (fpMul ((euS a k).r / (euS a k).s) (euS a k).y)⟩ := if_pos h
theorem euS_stay {a : UInt64} {k : Nat} (h : ¬ 0 < (euS a k).s) : euS a (k + 1) = euS a k := if_neg h
theorem u_rem (r s : UInt64) : (r - r / s * s).toNat = r.toNat % s.toNat := by
  have h1 : (r / s * s).toNat = r.toNat / s.toNat * s.toNat := by
    rw [UInt64.toNat_mul, UInt64.toNat_div]
    exact Nat.mod_eq_of_lt (Nat.lt_of_le_of_lt (Nat.div_mul_le_self _ _) r.toNat_lt)
  have h2 := Nat.div_add_mod r.toNat s.toNat
  rw [Nat.mul_comm] at h2
  rw [UInt64.toNat_sub_of_le _ _ (by rw [UInt64.le_iff_toNat_le, h1]; exact Nat.div_mul_le_self _ _), h1]
  omega
theorem u_pos {s : UInt64} : 0 < s ↔ 0 < s.toNat := by rw [UInt64.lt_iff_toNat_lt]; exact Iff.rfl
theorem eu_lt (a : UInt64) : ∀ k, (euS a k).s.toNat < (euS a k).r.toNat
  | 0 => by
    show (a % fpP).toNat < 2305843009213693951
    exact modP_lt' a
  | k + 1 => by
    by_cases h : 0 < (euS a k).s
    · rw [euS_step h]
      show (_ - _ / _ * _ : UInt64).toNat < _
      rw [u_rem]
      exact Nat.mod_lt _ (u_pos.1 h)
    · rw [euS_stay h]; exact eu_lt a k
where modP_lt' (a : UInt64) : (a % fpP).toNat < 2305843009213693951 := by rw [modP_toNat]; exact Nat.mod_lt _ (by decide)
def fibP : Nat → Nat × Nat
  | 0 => (0, 1)
  | n + 1 => ((fibP n).2, (fibP n).1 + (fibP n).2)
theorem eu_fib (a : UInt64) : ∀ n i, 0 < (euS a (i + n)).s → (fibP (n + 1)).1 ≤ (euS a i).s.toNat ∧ (fibP (n + 1)).2 ≤ (euS a i).r.toNat
  | 0, i, h => by
    have h1 := u_pos.1 h
    have h2 := eu_lt a i
    show 1 ≤ _ ∧ 0 + 1 ≤ _
    rw [Nat.add_zero] at h1
    omega
  | n + 1, i, h => by
    have ih := eu_fib a n (i + 1) (by rw [show i + 1 + n = i + (n + 1) from by omega]; exact h)
    have hpos : 0 < (euS a i).s := by
      apply Classical.byContradiction
      intro hno
      have stay : ∀ j, euS a (i + j) = euS a i := by
        intro j
        induction j with
        | zero => rfl
        | succ j ihj => rw [show i + (j + 1) = i + j + 1 from rfl, euS_stay (by rw [ihj]; exact hno), ihj]
      rw [stay] at h
      exact hno h
    rw [euS_step hpos] at ih
    obtain ⟨i1, i2⟩ := ih
    have i1 : (fibP (n + 1)).1 ≤ ((euS a i).r - (euS a i).r / (euS a i).s * (euS a i).s).toNat := i1
    have i2 : (fibP (n + 1)).2 ≤ (euS a i).s.toNat := i2
    rw [u_rem] at i1
    have hlt := eu_lt a i
    have hq : 1 ≤ (euS a i).r.toNat / (euS a i).s.toNat := Nat.div_pos (Nat.le_of_lt hlt) (u_pos.1 hpos)
    have hd := Nat.div_add_mod (euS a i).r.toNat (euS a i).s.toNat
    have hm := Nat.mul_le_mul_left (euS a i).s.toNat hq
    rw [Nat.mul_one] at hm
    show (fibP (n + 1)).2 ≤ _ ∧ (fibP (n + 1)).1 + (fibP (n + 1)).2 ≤ _
    omega
theorem eu_end (a : UInt64) : ¬ 0 < (euS a 100).s := by
  intro h
  have h1 := (eu_fib a 100 0 (by rw [Nat.zero_add]; exact h)).2
  have h2 : (euS a 0).r.toNat = 2305843009213693951 := rfl
  rw [h2] at h1
  exact absurd h1 (by decide +kernel)
theorem eu_gcd (a : UInt64) (ha : ¬ a % fpP = 0) : ∀ k, Nat.gcd (euS a k).r.toNat (euS a k).s.toNat = 1
  | 0 => by
    show Nat.gcd 2305843009213693951 (a % fpP).toNat = 1
    have hne : (a % fpP).toNat % Prm.P ≠ 0 := by
      rw [modP_toNat]
      show a.toNat % 2305843009213693951 % 2305843009213693951 ≠ 0
      rw [Nat.mod_mod, ← modP_toNat]
      intro h
      exact ha (UInt64.toNat_inj.1 h)
    have h1 := Prm.inv hne
    have hd1 : Nat.gcd 2305843009213693951 (a % fpP).toNat ∣ (a % fpP).toNat * (a % fpP).toNat ^ (Prm.P - 2) := Nat.dvd_trans (Nat.gcd_dvd_right _ _) (Nat.dvd_mul_right _ _)
    have hd2 : Nat.gcd 2305843009213693951 (a % fpP).toNat ∣ Prm.P := Nat.gcd_dvd_left _ _
    have h3 := (Nat.dvd_mod_iff hd2).2 hd1
    rw [h1] at h3
    exact Nat.dvd_one.1 h3
  | k + 1 => by
    by_cases h : 0 < (euS a k).s
    · rw [euS_step h]
      show Nat.gcd (euS a k).s.toNat (_ - _ / _ * _ : UInt64).toNat = 1
      rw [u_rem, Nat.gcd_comm, ← Nat.gcd_rec, Nat.gcd_comm]
      exact eu_gcd a ha k
    · rw [euS_stay h]; exact eu_gcd a ha k
theorem qU_comb {r q s t : UInt64} (h : r.toNat = q.toNat * s.toNat + t.toNat) : qU r = qU q * qU s + qU t := by
  apply Fin.ext
  show r.toNat % _ = ((q.toNat % _ * (s.toNat % _)) % _ + t.toNat % _) % _
  rw [h]
  simp [Nat.add_mod, Nat.mul_mod]
theorem eu_inv (a : UInt64) : ∀ k, qU (euS a k).x * qU a = qU (euS a k).r ∧ qU (euS a k).y * qU a = qU (euS a k).s ∧ (euS a k).x.toNat < 2305843009213693951 ∧ (euS a k).y.toNat < 2305843009213693951
  | 0 => by
    refine ⟨?_, ?_, (by decide : (0 : UInt64).toNat < 2305843009213693951), (by decide : (1 : UInt64).toNat < 2305843009213693951)⟩
    · show qU 0 * qU a = qU 2305843009213693951
      have e1 : qU 0 = 0 := rfl
      have e2 : qU 2305843009213693951 = 0 := by decide +kernel
      rw [e1, e2]
      grind
    · show qU 1 * qU a = qU (a % fpP)
      have e1 : qU 1 = 1 := rfl
      rw [e1, qU_mod]
      grind
  | k + 1 => by
    have ih := eu_inv a k
    by_cases h : 0 < (euS a k).s
    · rw [euS_step h]
      refine ⟨ih.2.1, ?_, ih.2.2.2, ?_⟩
      · show qU (subU (euS a k).x (fpMul ((euS a k).r / (euS a k).s) (euS a k).y)) * qU a = qU (_ - _ / _ * _ : UInt64)
        have hc := qU_comb (r := (euS a k).r) (q := (euS a k).r / (euS a k).s) (s := (euS a k).s) (t := (euS a k).r - (euS a k).r / (euS a k).s * (euS a k).s) (by
          rw [u_rem, UInt64.toNat_div, Nat.mul_comm]
          exact (Nat.div_add_mod _ _).symm)
        rw [qU_sub, qU_mul]
        have h1 := ih.1
        have h2 := ih.2.1
        generalize qU ((euS a k).r - (euS a k).r / (euS a k).s * (euS a k).s) = T at *
        generalize qU ((euS a k).r / (euS a k).s) = D at *
        rw [← h1, ← h2] at hc
        grind
      · show (subU _ _).toNat < _
        rw [subU_toNat]
        exact Nat.mod_lt _ (by decide)
    · rw [euS_stay h]; exact ih
/-- When it ends the inverse stands there. -/
theorem eu_done {a : UInt64} (ha : ¬ a % fpP = 0) {k : Nat} (h : ¬ 0 < (euS a k).s) : (euS a k).r = 1 ∧ (euS a k).x = powU a 2305843009213693949 := by
  have hs : (euS a k).s.toNat = 0 := by
    have : ¬ 0 < (euS a k).s.toNat := fun g => h (u_pos.2 g)
    omega
  have hg := eu_gcd a ha k
  rw [hs, Nat.gcd_zero_right] at hg
  have hr : (euS a k).r = 1 := UInt64.toNat_inj.1 hg
  refine ⟨hr, qU_inj (eu_inv a k).2.2.1 (by rw [powU_toNat]; exact Nat.mod_lt _ (by decide)) ?_⟩
  have h1 := (eu_inv a k).1
  rw [hr] at h1
  have h1 : qU (euS a k).x * qU a = 1 := h1
  rw [qU_inv]
  have hne : qU a ≠ 0 := fun e => by
    rw [e] at h1
    exact one_ne_q (by grind)
  have h2 := Prm.ivq_mul hne
  grind
/-! ### Newton -/
section
variable (X Y : Nat → Q)
def npq (a : Q) : Nat → Q
  | 0 => 1
  | k + 1 => npq a k * (a - X k)
def nvq (c : Nat → Q) (a : Q) : Nat → Q
  | 0 => 0
  | k + 1 => nvq c a k + c k * npq X a k
theorem npq_isP : ∀ k, Prm.IsP (k + 1) fun a => npq X a k
  | 0 => Prm.IsP.const 1
  | k + 1 => (npq_isP k).lin (X k)
theorem nvq_isP (c : Nat → Q) : ∀ k, Prm.IsP k fun a => nvq X c a k
  | 0 => ⟨[], Nat.le_refl _, fun _ => rfl⟩
  | k + 1 => ((nvq_isP c k).mono (Nat.le_succ k)).add ((npq_isP X k).scale (c k))
theorem npq_zero (i : Nat) : ∀ k, i < k → npq X (X i) k = 0
  | 0, h => by omega
  | k + 1, h => by
    show npq X (X i) k * (X i - X k) = 0
    by_cases e : i = k
    · subst e
      grind
    · rw [npq_zero i k (by omega)]
      grind
theorem npq_ne (a : Q) : ∀ k, (∀ j, j < k → a ≠ X j) → npq X a k ≠ 0
  | 0, _ => one_ne_q
  | k + 1, h => Prm.mul_ne_q (npq_ne a k fun j hj => h j (by omega)) fun e => h k (by omega) (by grind)
theorem nvq_at (c : Nat → Q) (i : Nat) (hc : nvq X c (X i) i + c i * npq X (X i) i = Y i) : ∀ k, i < k → nvq X c (X i) k = Y i
  | 0, h => by omega
  | k + 1, h => by
    show nvq X c (X i) k + c k * npq X (X i) k = Y i
    by_cases e : i = k
    · subst e
      exact hc
    · rw [nvq_at c i hc k (by omega), npq_zero X i k (by omega)]
      grind
end
def nwP (l : List Sh) (a : UInt64) : Nat → UInt64
  | 0 => 1
  | k + 1 => fpMul (nwP l a k) (subU a (ix l k).1)
def nwV (l : List Sh) (ns : List UInt64) (a : UInt64) : Nat → UInt64
  | 0 => 0
  | k + 1 => addU (nwV l ns a k) (fpMul (ix ns k) (nwP l a k))
def nwN (l : List Sh) : Nat → List UInt64
  | 0 => []
  | i + 1 => nwN l i ++ [fpMul (subU (ix l i).2 (nwV l (nwN l i) (ix l i).1 i)) (powU (nwP l (ix l i).1 i) 2305843009213693949)]
theorem nwP_zero (l : List Sh) (a : UInt64) : nwP l a 0 = 1 := rfl
theorem nwP_succ (l : List Sh) (a : UInt64) (k : Nat) : nwP l a (k + 1) = fpMul (nwP l a k) (subU a (ix l k).1) := rfl
theorem nwV_zero (l : List Sh) (ns : List UInt64) (a : UInt64) : nwV l ns a 0 = 0 := rfl
theorem nwV_succ (l : List Sh) (ns : List UInt64) (a : UInt64) (k : Nat) : nwV l ns a (k + 1) = addU (nwV l ns a k) (fpMul (ix ns k) (nwP l a k)) := rfl
theorem nwN_zero (l : List Sh) : nwN l 0 = [] := rfl
theorem nwN_succ (l : List Sh) (i : Nat) : nwN l (i + 1) = nwN l i ++ [fpMul (subU (ix l i).2 (nwV l (nwN l i) (ix l i).1 i)) (powU (nwP l (ix l i).1 i) 2305843009213693949)] := rfl
theorem nwN_length (l : List Sh) (i : Nat) : (nwN l i).length = i := by
  induction i with
  | zero => rfl
  | succ i ih => simp [nwN, ih]
def nwC (l : List Sh) (j : Nat) : UInt64 := fpMul (subU (ix l j).2 (nwV l (nwN l j) (ix l j).1 j)) (powU (nwP l (ix l j).1 j) 2305843009213693949)
theorem nwN_ix (l : List Sh) (n j : Nat) (h : j < n) : ix (nwN l n) j = nwC l j := by
  induction n with
  | zero => omega
  | succ n ih =>
    rw [nwN_succ]
    by_cases e : j = n
    · subst e
      simp [ix, List.getD_eq_getElem?_getD, nwN_length, nwC]
    · rw [show ∀ y, ix (nwN l n ++ [y]) j = ix (nwN l n) j from fun y => by simp [ix, List.getD_eq_getElem?_getD, List.getElem?_append_left (show j < (nwN l n).length by rw [nwN_length]; omega)]]
      exact ih (by omega)
abbrev XQ (l : List Sh) (j : Nat) : Q := qU (ix l j).1
theorem qU_nwP (l : List Sh) (a : UInt64) : ∀ k, qU (nwP l a k) = npq (XQ l) (qU a) k
  | 0 => rfl
  | k + 1 => by rw [nwP_succ, qU_mul, qU_sub, qU_nwP l a k]; rfl
theorem qU_nwV (l : List Sh) (n : Nat) (a : UInt64) : ∀ k, k ≤ n → qU (nwV l (nwN l n) a k) = nvq (XQ l) (fun j => qU (nwC l j)) (qU a) k
  | 0, _ => rfl
  | k + 1, h => by
    rw [nwV_succ, qU_add, qU_mul, qU_nwP, qU_nwV l n a k (by omega), nwN_ix l n k (by omega)]
    rfl
theorem nwV_lt (l : List Sh) (ns : List UInt64) (a : UInt64) (k : Nat) : (nwV l ns a k).toNat < 2305843009213693951 := by
  cases k with
  | zero => show (0 : UInt64).toNat < _; decide
  | succ k => rw [nwV_succ, addU_toNat]; exact Nat.mod_lt _ (by decide)
theorem nwP_ne {l : List Sh} (h : apartU (PL l) = true) (i : Nat) (hi : i < l.length) : ¬ nwP l (ix l i).1 i % fpP = 0 := by
  have hq := apartU_q.1 h
  have hl : (PL l).length = l.length := List.length_map ..
  have h2 := npq_ne (XQ l) (qU (ix l i).1) i fun j hj e => by
    have := hq i j (by rw [hl]; exact hi) (by rw [hl]; omega) (by rw [ix_fst l i hi, ix_fst l j (by omega)]; exact e)
    omega
  rw [← qU_nwP] at h2
  intro e
  apply h2
  apply Fin.ext
  rw [qU_val]
  have := congrArg UInt64.toNat e
  rw [modP_toNat] at this
  exact this
/-- Newton's curve is Lagrange's. -/
theorem nw_th {l : List Sh} (h : apartU (PL l) = true) (a : UInt64) : nwV l (nwN l l.length) a l.length = thU l a l.length := by
  refine qU_inj (nwV_lt _ _ _ _) (thU_lt _ _ _) ?_
  rw [qU_nwV l _ a _ (Nat.le_refl _), qU_thU l a _ (Nat.le_refl _)]
  have hq := apartU_q.1 h
  have hl : (PL l).length = l.length := List.length_map ..
  obtain ⟨c, hc, hev⟩ := nvq_isP (XQ l) (fun j => qU (nwC l j)) l.length
  have hcurve := Prm.lagq_curve (X := fun j => qU (ix (l.map (·.1)) j)) (Y := fun j => qU (ix l j).2) (n := l.length) (fun i j hi hj e => hq i j (by rw [hl]; exact hi) (by rw [hl]; exact hj) e) c hc (fun i hi => ?_) (qU a)
  · rw [hcurve, ← hev]
  · show qU (ix l i).2 = Prm.ev c (qU (ix (l.map (·.1)) i))
    rw [ix_fst l i hi, ← hev]
    refine (nvq_at (XQ l) (fun j => qU (ix l j).2) (fun j => qU (nwC l j)) i ?_ l.length hi).symm
    show nvq (XQ l) (fun j => qU (nwC l j)) (qU (ix l i).1) i + qU (nwC l i) * npq (XQ l) (qU (ix l i).1) i = qU (ix l i).2
    have e1 : qU (nwC l i) = (qU (ix l i).2 - qU (nwV l (nwN l i) (ix l i).1 i)) * Prm.ivq (qU (nwP l (ix l i).1 i)) := by
      show qU (fpMul _ _) = _
      rw [qU_mul, qU_sub, qU_inv]
    have hne : qU (nwP l (ix l i).1 i) ≠ 0 := fun e => nwP_ne h i hi (by
      have := congrArg Fin.val e
      rw [qU_val] at this
      apply UInt64.toNat_inj.1
      rw [modP_toNat]
      exact this)
    have h2 := Prm.ivq_mul hne
    rw [e1, ← qU_nwV l i (ix l i).1 i (Nat.le_refl _), ← qU_nwP]
    generalize qU (nwP l (ix l i).1 i) = p at *
    grind
end Go.Proofs.YteiifdpikcnbgaaDoor
