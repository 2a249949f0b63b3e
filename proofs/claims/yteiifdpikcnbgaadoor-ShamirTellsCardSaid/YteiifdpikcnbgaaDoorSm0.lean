/- Shares: put in order, as the library does it with few; what values at places are worth; curves. No walk. -/
import Derived.Test.YteiifdpikcnbgaaDoorEsA
import Derived.Test.YteiifdpikcnbgaaDoorPm
namespace Go.Proofs.YteiifdpikcnbgaaDoor
open Go.RowKit
set_option linter.unusedSimpArgs false
set_option linter.unusedVariables false
abbrev Sh := UInt64 × UInt64
theorem ix_set_eq {α : Type} [Inhabited α] (l : List α) (i : Nat) (x : α) (h : i < l.length) : ix (l.set i x) i = x := by simp [ix, List.getD_eq_getElem?_getD, h]
theorem ix_set_ne {α : Type} [Inhabited α] (l : List α) (i j : Nat) (x : α) (h : i ≠ j) : ix (l.set i x) j = ix l j := by simp [ix, List.getD_eq_getElem?_getD, List.getElem?_set_ne h]
/-! ### In order -/
def swp (L : List Sh) (j : Nat) : List Sh := (L.set (j + 1) (ix L j)).set j (ix L (j + 1))
def down (L : List Sh) : Nat → List Sh
  | 0 => L
  | j + 1 => if (ix L (j + 1)).1 < (ix L j).1 then down (swp L j) j else L
def insS (L : List Sh) : Nat → List Sh
  | 0 => L
  | k + 1 => down (insS L k) (k + 1)
theorem down_zero (L : List Sh) : down L 0 = L := rfl
theorem down_yes {L : List Sh} {j : Nat} (h : (ix L (j + 1)).1 < (ix L j).1) : down L (j + 1) = down (swp L j) j := if_pos h
theorem down_no {L : List Sh} {j : Nat} (h : ¬ (ix L (j + 1)).1 < (ix L j).1) : down L (j + 1) = L := if_neg h
theorem insS_zero (L : List Sh) : insS L 0 = L := rfl
theorem insS_succ (L : List Sh) (k : Nat) : insS L (k + 1) = down (insS L k) (k + 1) := rfl
theorem swp_length (L : List Sh) (j : Nat) : (swp L j).length = L.length := by simp [swp]
theorem down_length : ∀ (j : Nat) (L : List Sh), (down L j).length = L.length
  | 0, L => rfl
  | j + 1, L => by
    unfold down
    split
    · rw [down_length j, swp_length]
    · rfl
theorem insS_length (L : List Sh) : ∀ k, (insS L k).length = L.length
  | 0 => rfl
  | k + 1 => by rw [insS_succ, down_length, insS_length L k]
theorem ix_get {α : Type} [Inhabited α] {l : List α} {i : Nat} (h : i < l.length) : ix l i = l[i] := by simp [ix, List.getD_eq_getElem?_getD, List.getElem?_eq_getElem h]
theorem swp_perm (L : List Sh) (j : Nat) (h : j + 1 < L.length) : (swp L j).Perm L := by
  unfold swp
  rw [ix_get (show j < L.length by omega), ix_get h]
  exact List.set_set_perm h (by omega)
theorem down_perm : ∀ (j : Nat) (L : List Sh), j < L.length → (down L j).Perm L
  | 0, L, _ => List.Perm.refl _
  | j + 1, L, h => by
    unfold down
    split
    · exact (down_perm j (swp L j) (by rw [swp_length]; omega)).trans (swp_perm L j h)
    · exact List.Perm.refl _
theorem insS_perm (L : List Sh) : ∀ k, k < L.length ∨ k = 0 → (insS L k).Perm L
  | 0, _ => List.Perm.refl _
  | k + 1, h => by
    rw [insS_succ]
    exact (down_perm (k + 1) _ (by rw [insS_length]; omega)).trans (insS_perm L k (by omega))
theorem swp_ix (L : List Sh) (j a : Nat) (h : j + 1 < L.length) : ix (swp L j) a = if a = j then ix L (j + 1) else if a = j + 1 then ix L j else ix L a := by
  unfold swp
  by_cases e : a = j
  · subst e
    rw [if_pos rfl, ix_set_eq _ _ _ (by simp; omega)]
  · rw [if_neg e, ix_set_ne _ _ _ _ (fun h => e h.symm)]
    by_cases e2 : a = j + 1
    · subst e2
      rw [if_pos rfl, ix_set_eq _ _ _ h]
    · rw [if_neg e2, ix_set_ne _ _ _ _ (fun h => e2 h.symm)]
/-- All but the one at j stand in order, up to i. -/
def Ord (L : List Sh) (i j : Nat) : Prop := ∀ a b, a < b → b ≤ i → b ≠ j → (ix L a).1.toNat ≤ (ix L b).1.toNat
theorem down_ord (i : Nat) : ∀ (j : Nat) (L : List Sh), j ≤ i → i < L.length → Ord L i j → ∀ a b, a < b → b ≤ i → (ix (down L j) a).1.toNat ≤ (ix (down L j) b).1.toNat
  | 0, L, hj, hi, h, a, b, h1, h2 => h a b h1 h2 (by omega)
  | j + 1, L, hj, hi, h, a, b, h1, h2 => by
    unfold down
    split
    · rename_i hlt
      refine down_ord i j (swp L j) (by omega) (by rw [swp_length]; exact hi) (fun a b g1 g2 g3 => ?_) a b h1 h2
      have hlt := UInt64.lt_iff_toNat_lt.1 hlt
      rw [swp_ix L j a (by omega), swp_ix L j b (by omega), if_neg g3]
      by_cases eb : b = j + 1
      · rw [if_pos eb]
        by_cases ea : a = j
        · rw [if_pos ea]; omega
        · rw [if_neg ea, if_neg (by omega)]
          exact h a j (by omega) (by omega) (by omega)
      · rw [if_neg eb]
        by_cases ea : a = j
        · rw [if_pos ea]
          exact h (j + 1) b (by omega) g2 eb
        · rw [if_neg ea]
          by_cases ea2 : a = j + 1
          · rw [if_pos ea2]
            exact h j b (by omega) g2 eb
          · rw [if_neg ea2]
            exact h a b g1 g2 eb
    · rename_i hlt
      have hlt : ¬ (ix L (j + 1)).1.toNat < (ix L j).1.toNat := fun h => hlt (UInt64.lt_iff_toNat_lt.2 h)
      by_cases eb : b = j + 1
      · subst eb
        by_cases ea : a = j
        · subst ea; omega
        · have := h a j (by omega) (by omega) (by omega)
          omega
      · exact h a b h1 h2 eb
theorem insS_ord (L : List Sh) : ∀ k, k < L.length ∨ k = 0 → ∀ a b, a < b → b ≤ k → (ix (insS L k) a).1.toNat ≤ (ix (insS L k) b).1.toNat
  | 0, _, a, b, h1, h2 => by omega
  | k + 1, h, a, b, h1, h2 => by
    rw [insS_succ]
    refine down_ord (k + 1) (k + 1) _ (Nat.le_refl _) (by rw [insS_length]; omega) (fun a b g1 g2 g3 => ?_) a b h1 h2
    exact insS_ord L k (by omega) a b g1 (by omega)
/-- A few shares in order. -/
def sortS (L : List Sh) : List Sh := insS L (L.length - 1)
theorem sortS_length (L : List Sh) : (sortS L).length = L.length := insS_length L _
theorem sortS_perm (L : List Sh) : (sortS L).Perm L := insS_perm L _ (by omega)
theorem sortS_ord (L : List Sh) (a b : Nat) (h1 : a < b) (h2 : b < L.length) : (ix (sortS L) a).1.toNat ≤ (ix (sortS L) b).1.toNat := insS_ord L _ (by omega) a b h1 (by omega)
def okSh (s : Sh) : Bool := decide (s.1 ≠ 0 ∧ s.1.toNat < 2305843009213693951 ∧ s.2.toNat < 2305843009213693951)
/-- In order, no two of one place. -/
def asc (L : List Sh) : Bool := (List.range (L.length - 1)).all fun i => decide ((ix L (i + 1)).1 ≠ (ix L i).1)
theorem asc_iff {L : List Sh} : asc L = true ↔ ∀ i, i + 1 < L.length → (ix L (i + 1)).1 ≠ (ix L i).1 := by
  unfold asc
  simp only [List.all_eq_true, List.mem_range, decide_eq_true_eq]
  exact ⟨fun h i hi => h i (by omega), fun h i hi => h i (by omega)⟩
/-! ### Numbers of the field -/
open Prm (Q)
def qU (a : UInt64) : Q := Fin.ofNat _ a.toNat
theorem qU_val (a : UInt64) : (qU a).val = a.toNat % 2305843009213693951 := rfl
theorem qU_eq {a b : UInt64} : qU a = qU b ↔ a.toNat % 2305843009213693951 = b.toNat % 2305843009213693951 := by
  rw [← Fin.val_inj, qU_val, qU_val]
theorem qU_add (a b : UInt64) : qU (addU a b) = qU a + qU b := by
  apply Fin.ext
  show _ = ((qU a).val + (qU b).val) % _
  rw [qU_val, qU_val, qU_val, addU_toNat, Nat.mod_mod, ← Nat.add_mod]
theorem qU_sub (a b : UInt64) : qU (subU a b) = qU a - qU b := by
  apply Fin.ext
  rw [Fin.val_sub, qU_val, qU_val, qU_val, subU_toNat, Nat.mod_mod]
  congr 1
  omega
theorem qU_mul (a b : UInt64) : qU (fpMul a b) = qU a * qU b := by
  apply Fin.ext
  show _ = ((qU a).val * (qU b).val) % _
  rw [qU_val, qU_val, qU_val, fpMul_toNat, Nat.mod_mod, ← Nat.mul_mod]
theorem qU_pow (a n : UInt64) (k : Nat) (h : n.toNat = k) : qU (powU a n) = Fin.ofNat _ ((qU a).val ^ k) := by
  apply Fin.ext
  show _ = (qU a).val ^ k % _
  rw [qU_val, qU_val, powU_toNat, Nat.mod_mod, h, ← Nat.pow_mod]
theorem qU_inv (a : UInt64) : qU (powU a 2305843009213693949) = Prm.ivq (qU a) := qU_pow a _ (Prm.P - 2) rfl
theorem qU_poly (c : List UInt64) (x : UInt64) : qU (polyU c x) = Prm.ev (c.map qU) (qU x) := by
  have key : ∀ c : List UInt64, (Fin.ofNat 2305843009213693951 (polyN c x.toNat) : Q) = Prm.ev (c.map qU) (qU x) := by
    intro c
    induction c with
    | nil => rfl
    | cons a c ih =>
      rw [polyN_cons, List.map_cons]
      show _ = qU a + qU x * Prm.ev (c.map qU) (qU x)
      rw [← ih]
      apply Fin.ext
      show (a.toNat + x.toNat * polyN c x.toNat) % _ = (a.toNat % _ + (x.toNat % _ * (polyN c x.toNat % _)) % _) % _
      simp [Nat.add_mod, Nat.mul_mod]
  rw [← key]
  apply Fin.ext
  rw [qU_val, polyU_toNat, Nat.mod_mod]
  rfl
/-- The product of the distances from a place to the first k others. -/
def prU (xs : List UInt64) (i : Nat) (at_ : UInt64) : Nat → UInt64
  | 0 => 1
  | k + 1 => if k = i then prU xs i at_ k else fpMul (prU xs i at_ k) (subU at_ (ix xs k))
theorem prU_zero (xs : List UInt64) (i : Nat) (at_ : UInt64) : prU xs i at_ 0 = 1 := rfl
theorem prU_same (xs : List UInt64) (i : Nat) (at_ : UInt64) : prU xs i at_ (i + 1) = prU xs i at_ i := if_pos rfl
theorem prU_next {xs : List UInt64} {i k : Nat} {at_ : UInt64} (h : k ≠ i) : prU xs i at_ (k + 1) = fpMul (prU xs i at_ k) (subU at_ (ix xs k)) := if_neg h
theorem qU_prU (xs : List UInt64) (i : Nat) (a : UInt64) : ∀ k, qU (prU xs i a k) = Prm.prq (fun j => qU (ix xs j)) i (qU a) k
  | 0 => rfl
  | k + 1 => by
    unfold prU Prm.prq
    split
    · exact qU_prU xs i a k
    · rw [qU_mul, qU_sub, qU_prU xs i a k]
def wtU (xs : List UInt64) (at_ : UInt64) (i : Nat) : UInt64 := fpMul (prU xs i at_ xs.length) (powU (prU xs i (ix xs i) xs.length) 2305843009213693949)
theorem qU_wtU (xs : List UInt64) (a : UInt64) (i : Nat) : qU (wtU xs a i) = Prm.wtq (fun j => qU (ix xs j)) xs.length i (qU a) := by
  unfold wtU Prm.wtq
  rw [qU_mul, qU_inv, qU_prU, qU_prU]
def wtsU (xs : List UInt64) (at_ : UInt64) : Nat → List UInt64
  | 0 => []
  | i + 1 => wtsU xs at_ i ++ [wtU xs at_ i]
theorem wtsU_zero (xs : List UInt64) (at_ : UInt64) : wtsU xs at_ 0 = [] := rfl
theorem wtsU_succ (xs : List UInt64) (at_ : UInt64) (i : Nat) : wtsU xs at_ (i + 1) = wtsU xs at_ i ++ [wtU xs at_ i] := rfl
theorem wtsU_length (xs : List UInt64) (at_ : UInt64) (i : Nat) : (wtsU xs at_ i).length = i := by
  induction i with
  | zero => rfl
  | succ i ih => simp [wtsU, ih]
theorem wtsU_ix (xs : List UInt64) (at_ : UInt64) (n j : Nat) (h : j < n) : ix (wtsU xs at_ n) j = wtU xs at_ j := by
  induction n with
  | zero => omega
  | succ n ih =>
    rw [wtsU_succ]
    by_cases e : j = n
    · subst e
      simp [ix, List.getD_eq_getElem?_getD, wtsU_length]
    · rw [show ix (wtsU xs at_ n ++ [wtU xs at_ n]) j = ix (wtsU xs at_ n) j from by simp [ix, List.getD_eq_getElem?_getD, List.getElem?_append_left (show j < (wtsU xs at_ n).length by rw [wtsU_length]; omega)]]
      exact ih (by omega)
/-- The value at a place of the curve through points, after k of them. -/
def thU (l : List Sh) (at_ : UInt64) : Nat → UInt64
  | 0 => 0
  | k + 1 => addU (thU l at_ k) (fpMul (ix l k).2 (wtU (l.map (·.1)) at_ k))
theorem thU_zero (l : List Sh) (at_ : UInt64) : thU l at_ 0 = 0 := rfl
theorem thU_succ (l : List Sh) (at_ : UInt64) (k : Nat) : thU l at_ (k + 1) = addU (thU l at_ k) (fpMul (ix l k).2 (wtU (l.map (·.1)) at_ k)) := rfl
theorem ix_fst (l : List Sh) (j : Nat) (h : j < l.length) : ix (l.map (·.1)) j = (ix l j).1 := by simp [ix, List.getD_eq_getElem?_getD, h]
theorem qU_thU (l : List Sh) (a : UInt64) : ∀ k, k ≤ l.length → qU (thU l a k) = Prm.lagq (fun j => qU (ix (l.map (·.1)) j)) (fun j => qU (ix l j).2) l.length (qU a) k
  | 0, _ => rfl
  | k + 1, hk => by
    rw [thU_succ, qU_add, qU_mul, qU_wtU, qU_thU l a k (by omega), List.length_map]
    rfl
/-! ### Places apart -/
def metU (xs : List UInt64) (k : Nat) (n : Int) : Bool := (List.range k).any fun j => decide (n64 (ix xs j % fpP) = n)
theorem metU_iff {xs : List UInt64} {k : Nat} {n : Int} : metU xs k n = true ↔ ∃ j, j < k ∧ n64 (ix xs j % fpP) = n := by
  unfold metU
  simp [List.any_eq_true]
def seenU (xs : List UInt64) : Nat → List (Int × Sc)
  | 0 => []
  | k + 1 => putI (seenU xs k) (n64 (ix xs k % fpP)) (.a (.v (.int .i64 1)))
theorem seenU_zero (xs : List UInt64) : seenU xs 0 = [] := rfl
theorem seenU_succ (xs : List UInt64) (k : Nat) : seenU xs (k + 1) = putI (seenU xs k) (n64 (ix xs k % fpP)) (.a (.v (.int .i64 1))) := rfl
theorem lookI_putI' (l : List (Int × Sc)) (i j : Int) (x : Sc) : lookI (putI l i x) j = if i = j then some x else lookI l j := by
  induction l with
  | nil => rfl
  | cons p l ih =>
    by_cases e : p.1 = i
    · simp only [putI, if_pos e, lookI]
      subst e
      by_cases e2 : p.1 = j
      · simp [e2]
      · simp [e2]
    · simp only [putI, if_neg e, lookI, ih]
      by_cases e2 : p.1 = j
      · subst e2; rw [if_pos rfl, if_neg (fun h => e h.symm), if_pos rfl]
      · rw [if_neg e2, if_neg e2]
theorem lookI_seenU (xs : List UInt64) (n : Int) : ∀ k, lookI (seenU xs k) n = if metU xs k n = true then some (.a (.v (.int .i64 1))) else none
  | 0 => by simp [seenU, lookI, metU]
  | k + 1 => by
    rw [seenU_succ, lookI_putI', lookI_seenU xs n k]
    by_cases e : n64 (ix xs k % fpP) = n
    · rw [if_pos e, if_pos (metU_iff.2 ⟨k, by omega, e⟩)]
    · rw [if_neg e]
      by_cases h : metU xs k n = true
      · obtain ⟨j, hj, hn⟩ := metU_iff.1 h
        rw [if_pos h, if_pos (metU_iff.2 ⟨j, by omega, hn⟩)]
      · rw [if_neg h, if_neg]
        intro h2
        obtain ⟨j, hj, hn⟩ := metU_iff.1 h2
        by_cases ej : j = k
        · subst ej; exact e hn
        · exact h (metU_iff.2 ⟨j, by omega, hn⟩)
theorem putI_bnd (n : Nat) (l : List (Int × Sc)) (i : Int) (x : Sc) (hl : mpBnd n l) (hx : Sc.bnd n x) : mpBnd n (putI l i x) := by
  induction l with
  | nil => intro p hp; rw [List.mem_singleton.1 hp]; exact hx
  | cons p l ih =>
    unfold putI
    split
    · intro q hq
      rcases List.mem_cons.1 hq with rfl | hq
      · exact hx
      · exact hl q (List.mem_cons_of_mem _ hq)
    · intro q hq
      rcases List.mem_cons.1 hq with rfl | hq
      · exact hl _ (List.mem_cons_self ..)
      · exact ih (fun r hr => hl r (List.mem_cons_of_mem _ hr)) q hq
theorem seenU_bnd (xs : List UInt64) (n : Nat) : ∀ k, mpBnd n (seenU xs k) = True
  | 0 => mpBnd_nil n
  | k + 1 => eq_true (putI_bnd n _ _ _ (of_eq_true (seenU_bnd xs n k)) trivial)
theorem putI_ren (ρ : List Nat) (l : List (Int × Sc)) (i : Int) (x : Sc) : mpRen ρ (putI l i x) = putI (mpRen ρ l) i (x.ren ρ) := by
  induction l with
  | nil => rfl
  | cons p l ih =>
    rw [mpRen_cons]
    unfold putI
    by_cases e : p.1 = i
    · rw [if_pos e, if_pos e, mpRen_cons]
    · rw [if_neg e, if_neg e, mpRen_cons, ih]
theorem seenU_ren (ρ : List Nat) (xs : List UInt64) : ∀ k, mpRen ρ (seenU xs k) = seenU xs k
  | 0 => rfl
  | k + 1 => by rw [seenU_succ, putI_ren, seenU_ren ρ xs k]; rfl
def apartU (xs : List UInt64) : Bool := (List.range xs.length).all fun k => !metU xs k (n64 (ix xs k % fpP))
theorem apartU_iff {xs : List UInt64} : apartU xs = true ↔ ∀ k, k < xs.length → metU xs k (n64 (ix xs k % fpP)) = false := by
  unfold apartU
  simp [List.all_eq_true]
theorem apartU_no {xs : List UInt64} {k : Nat} (hk : k < xs.length) (h : metU xs k (n64 (ix xs k % fpP)) = true) : apartU xs = false := by
  cases e : apartU xs
  · rfl
  · rw [apartU_iff.1 e k hk] at h; cases h
theorem n64_qU {a b : UInt64} (h : n64 (a % fpP) = n64 (b % fpP)) : qU a = qU b := by
  rw [qU_eq]
  have h := n64_inj.1 h
  have := congrArg UInt64.toNat h
  rwa [modP_toNat, modP_toNat] at this
theorem n64_of_qU {a b : UInt64} (h : qU a = qU b) : n64 (a % fpP) = n64 (b % fpP) := by
  rw [qU_eq] at h
  rw [show a % fpP = b % fpP from UInt64.toNat_inj.1 (by rw [modP_toNat, modP_toNat]; exact h)]
/-- Places are apart just if no two are one in the field. -/
theorem apartU_q {xs : List UInt64} : apartU xs = true ↔ ∀ i j, i < xs.length → j < xs.length → qU (ix xs i) = qU (ix xs j) → i = j := by
  rw [apartU_iff]
  constructor
  · intro h i j hi hj e
    apply Classical.byContradiction
    intro hij
    rcases Nat.lt_or_gt_of_ne hij with hl | hl
    · have := h j hj
      rw [metU_iff.2 ⟨i, hl, n64_of_qU e⟩] at this
      cases this
    · have := h i hi
      rw [metU_iff.2 ⟨j, hl, n64_of_qU e.symm⟩] at this
      cases this
  · intro h k hk
    cases e : metU xs k (n64 (ix xs k % fpP))
    · rfl
    · obtain ⟨j, hj, hn⟩ := metU_iff.1 e
      have := h j k (by omega) hk (n64_qU hn)
      omega
end Go.Proofs.YteiifdpikcnbgaaDoor
