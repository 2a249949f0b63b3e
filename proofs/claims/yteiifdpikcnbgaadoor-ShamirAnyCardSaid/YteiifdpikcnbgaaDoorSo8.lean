/- Any shares that are enough join the secret; one fewer do not; with one that is another one they do not, either; sums add. No walk. -/
import Derived.Test.YteiifdpikcnbgaaDoorSo6
namespace Go.Proofs.YteiifdpikcnbgaaDoor
open Go.RowKit
set_option linter.unusedSimpArgs false
set_option linter.unusedVariables false
open Prm (Q)
/-- Which are taken, from the turn-th on, without some that are to be left out; how many may still be. -/
def somI (N T : Nat) (sk : List Bool) : Nat → List Nat × Nat
  | 0 => ([], 3)
  | k + 1 => if k < sk.length ∧ ix sk k = true ∧ 0 < (somI N T sk k).2 then ((somI N T sk k).1, (somI N T sk k).2 - 1) else ((somI N T sk k).1 ++ [(k + T) % N], (somI N T sk k).2)
theorem somI_zero (N T : Nat) (sk : List Bool) : somI N T sk 0 = ([], 3) := rfl
theorem somI_skip {N T : Nat} {sk : List Bool} {k : Nat} (h : k < sk.length ∧ ix sk k = true ∧ 0 < (somI N T sk k).2) : somI N T sk (k + 1) = ((somI N T sk k).1, (somI N T sk k).2 - 1) := if_pos h
theorem somI_take {N T : Nat} {sk : List Bool} {k : Nat} (h : ¬ (k < sk.length ∧ ix sk k = true ∧ 0 < (somI N T sk k).2)) : somI N T sk (k + 1) = ((somI N T sk k).1 ++ [(k + T) % N], (somI N T sk k).2) := if_neg h
theorem somI_many (N T : Nat) (sk : List Bool) : ∀ k, (somI N T sk k).1.length + 3 = k + (somI N T sk k).2 ∧ (somI N T sk k).2 ≤ 3
  | 0 => ⟨rfl, Nat.le_refl _⟩
  | k + 1 => by
    have ih := somI_many N T sk k
    by_cases h : k < sk.length ∧ ix sk k = true ∧ 0 < (somI N T sk k).2
    · rw [somI_skip h]
      refine ⟨?_, ?_⟩
      · show (somI N T sk k).1.length + 3 = k + 1 + ((somI N T sk k).2 - 1)
        omega
      · show (somI N T sk k).2 - 1 ≤ 3
        omega
    · rw [somI_take h]
      refine ⟨?_, ih.2⟩
      show ((somI N T sk k).1 ++ [(k + T) % N]).length + 3 = k + 1 + (somI N T sk k).2
      rw [List.length_append]
      show (somI N T sk k).1.length + 1 + 3 = _
      omega
theorem somI_mem (N T : Nat) (sk : List Bool) : ∀ k, ∀ x ∈ (somI N T sk k).1, ∃ j, j < k ∧ x = (j + T) % N
  | 0, x, h => by cases h
  | k + 1, x, h => by
    by_cases g : k < sk.length ∧ ix sk k = true ∧ 0 < (somI N T sk k).2
    · rw [somI_skip g] at h
      obtain ⟨j, h1, h2⟩ := somI_mem N T sk k x h
      exact ⟨j, by omega, h2⟩
    · rw [somI_take g] at h
      rcases List.mem_append.1 h with h | h
      · obtain ⟨j, h1, h2⟩ := somI_mem N T sk k x h
        exact ⟨j, by omega, h2⟩
      · exact ⟨k, by omega, List.mem_singleton.1 h⟩
theorem turn_ne {N T j k : Nat} (hj : j < k) (hk : k < N) : (j + T) % N ≠ (k + T) % N := by
  intro h
  have h1 := Nat.div_add_mod (j + T) N
  have h2 := Nat.div_add_mod (k + T) N
  rw [h] at h1
  have h3 : N * ((j + T) / N) + (k - j) = N * ((k + T) / N) := by omega
  have h4 : (j + T) / N ≤ (k + T) / N := Nat.div_le_div_right (by omega)
  obtain ⟨d, hd⟩ := Nat.exists_eq_add_of_le h4
  rw [hd, Nat.mul_add] at h3
  have h5 : k - j = N * d := by omega
  cases d with
  | zero => omega
  | succ d =>
    rw [Nat.mul_succ] at h5
    have := Nat.zero_le (N * d)
    omega
theorem somI_nodup (N T : Nat) (sk : List Bool) : ∀ k, k ≤ N → (somI N T sk k).1.Nodup
  | 0, _ => List.Pairwise.nil
  | k + 1, hk => by
    have ih := somI_nodup N T sk k (by omega)
    by_cases g : k < sk.length ∧ ix sk k = true ∧ 0 < (somI N T sk k).2
    · rw [somI_skip g]; exact ih
    · rw [somI_take g]
      show ((somI N T sk k).1 ++ [(k + T) % N]).Nodup
      rw [List.nodup_append]
      refine ⟨ih, List.pairwise_singleton _ _, fun x hx y hy e => ?_⟩
      obtain ⟨j, h1, h2⟩ := somI_mem N T sk k x hx
      rw [List.mem_singleton.1 hy, h2] at e
      exact turn_ne h1 (by omega) e
section
variable (s0 s1 : UInt64) (cs ds : List UInt64) (N T : Nat) (sk : List Bool)
abbrev aL : List Sh := splS (s0 :: cs) N
def soL : List Sh := (somI N T sk N).1.map (ix (aL s0 cs N))
variable {s0 s1 cs ds N T sk}
theorem ix_spl_mem {c : List UInt64} {n i : Nat} (h : i < n) : ix (splS c n) i ∈ splS c n := ix_mem (by rw [splS_length]; exact h)
theorem soL_mem (hN : 0 < N) : ∀ s ∈ soL s0 cs N T sk, s ∈ aL s0 cs N := fun s hs => by
  obtain ⟨i, hi, rfl⟩ := List.mem_map.1 hs
  obtain ⟨j, _, rfl⟩ := somI_mem N T sk N i hi
  exact ix_spl_mem (Nat.mod_lt _ hN)
theorem soL_nodup (hN : 0 < N) (h64 : N ≤ 64) : (PL (soL s0 cs N T sk)).Nodup := by
  show List.Pairwise _ (List.map _ (List.map _ _))
  rw [List.pairwise_map, List.pairwise_map]
  refine (somI_nodup N T sk N (Nat.le_refl _)).imp_of_mem ?_
  intro i j hi hj hne e
  obtain ⟨i', _, rfl⟩ := somI_mem N T sk N i hi
  obtain ⟨j', _, rfl⟩ := somI_mem N T sk N j hj
  have hil := Nat.mod_lt (i' + T) hN
  have hjl := Nat.mod_lt (j' + T) hN
  rw [splS_ix _ N _ hil, splS_ix _ N _ hjl] at e
  have := congrArg UInt64.toNat e
  have e2 : ∀ x, x < 64 → (UInt64.ofNat (x + 1)).toNat = x + 1 := fun x hx => by rw [UInt64.toNat_ofNat']; omega
  have this : (UInt64.ofNat ((i' + T) % N + 1)).toNat = (UInt64.ofNat ((j' + T) % N + 1)).toNat := this
  rw [e2 _ (by omega), e2 _ (by omega)] at this
  exact hne (by omega)
theorem soL_length : (soL s0 cs N T sk).length ≤ N ∧ N ≤ (soL s0 cs N T sk).length + 3 := by
  have := somI_many N T sk N
  unfold soL
  rw [List.length_map]
  omega
theorem ok_sub {l m : List Sh} (h : okAll l = true) (hs : ∀ s ∈ m, s ∈ l) : okAll m = true := okAll_iff.2 fun s hm => okAll_iff.1 h s (hs s hm)
theorem ev_at0 (x : UInt64) (l : List UInt64) : Prm.ev ((x :: l).map qU) (qU 0) = qU x := by
  show qU x + qU 0 * Prm.ev (l.map qU) (qU 0) = qU x
  have : qU 0 = 0 := rfl
  rw [this]
  grind
theorem modP_lt (a : UInt64) : (a % fpP).toNat < 2305843009213693951 := by rw [modP_toNat]; exact Nat.mod_lt _ (by decide)
theorem some_join (m : Nat) (hm : cs.length + 1 = m) (hN : N = m + 3) (h64 : N ≤ 64) : joiE (soL s0 cs N T sk) m = 0 ∧ joiU (soL s0 cs N T sk) m = s0 % fpP := by
  have hl := soL_length (s0 := s0) (cs := cs) (N := N) (T := T) (sk := sk)
  have hmem := soL_mem (s0 := s0) (cs := cs) (N := N) (T := T) (sk := sk) (by omega)
  obtain ⟨h1, h2, h3⟩ := join_curve (l := soL s0 cs N T sk) ((s0 :: cs).map qU) m (by rw [List.length_map, List.length_cons]; omega) (by omega) (by omega) (by omega) (ok_sub (spl_ok _ N h64) hmem) (soL_nodup (by omega) h64) (sub_curve (spl_curve _ N) hmem)
  refine ⟨h1, qU_inj h3 (modP_lt _) ?_⟩
  rw [h2, ev_at0, qU_mod]
theorem few_join (m : Nat) (hm : cs.length + 1 = m) (hN : N = m + 3) (h64 : N ≤ 64) : joiE ((soL s0 cs N T sk).take (m - 1)) m = 7 := by
  have hl := soL_length (s0 := s0) (cs := cs) (N := N) (T := T) (sk := sk)
  have hmem := soL_mem (s0 := s0) (cs := cs) (N := N) (T := T) (sk := sk) (by omega)
  exact join_few m (by omega) (by rw [List.length_take]; omega) (by rw [List.length_take]; omega) (ok_sub (ok_sub (spl_ok _ N h64) hmem) fun s hs => List.mem_of_mem_take hs) (nodup_take _ (soL_nodup (by omega) h64))
theorem wrong_join (m : Nat) (hm : cs.length + 1 = m) (hN : N = m + 3) (h64 : N ≤ 64) (t : Nat) (ht : t < N) : joiE ((aL s0 cs N).set t ((ix (aL s0 cs N) t).1, addU (ix (aL s0 cs N) t).2 1)) m = 4 :=
  join_wrong ((s0 :: cs).map qU) t m (by rw [List.length_map, List.length_cons]; omega) (by omega) (by rw [splS_length]; omega) (by rw [splS_length]; omega) (spl_ok _ N h64) (up_nodup (spl_up _ N h64)) (spl_curve _ N) (by rw [splS_length]; omega)
theorem sum_ix (i : Nat) (hi : i < N) : ix (sumTo (aL s0 cs N) (aL s1 ds N) N) i = (UInt64.ofNat (i + 1), addU (polyU (s0 :: cs) (UInt64.ofNat (i + 1))) (polyU (s1 :: ds) (UInt64.ofNat (i + 1)))) := by
  rw [sumTo_early _ _ _ _ hi (by rw [splS_length]; exact Nat.le_refl _), splS_ix _ N i hi, splS_ix _ N i hi]
theorem sum_len : (sumTo (aL s0 cs N) (aL s1 ds N) N).length = N := by rw [sumTo_length, splS_length]
theorem sum_join (m : Nat) (hm : cs.length + 1 = m) (hd : ds.length = cs.length) (hN : N = m + 3) (h64 : N ≤ 64) : joiE (sumTo (aL s0 cs N) (aL s1 ds N) N) m = 0 ∧ joiU (sumTo (aL s0 cs N) (aL s1 ds N) N) m = addU s0 s1 := by
  have hel : ∀ s ∈ sumTo (aL s0 cs N) (aL s1 ds N) N, ∃ i, i < N ∧ s = (UInt64.ofNat (i + 1), addU (polyU (s0 :: cs) (UInt64.ofNat (i + 1))) (polyU (s1 :: ds) (UInt64.ofNat (i + 1)))) := fun s hs => by
    obtain ⟨i, hi, rfl⟩ := List.mem_iff_getElem.1 hs
    rw [sum_len] at hi
    refine ⟨i, hi, ?_⟩
    rw [← sum_ix i hi, ix_get (by rw [sum_len]; exact hi)]
  have hup : ∀ i j, i < j → j < (sumTo (aL s0 cs N) (aL s1 ds N) N).length → (ix (sumTo (aL s0 cs N) (aL s1 ds N) N) i).1.toNat < (ix (sumTo (aL s0 cs N) (aL s1 ds N) N) j).1.toNat := fun i j hij hj => by
    rw [sum_len] at hj
    rw [sum_ix i (by omega), sum_ix j hj]
    show (UInt64.ofNat (i + 1)).toNat < (UInt64.ofNat (j + 1)).toNat
    rw [UInt64.toNat_ofNat', UInt64.toNat_ofNat']
    omega
  have hok : okAll (sumTo (aL s0 cs N) (aL s1 ds N) N) = true := okAll_iff.2 fun s hs => by
    obtain ⟨i, hi, rfl⟩ := hel s hs
    have h1 : (UInt64.ofNat (i + 1)).toNat = i + 1 := by rw [UInt64.toNat_ofNat']; omega
    refine ⟨fun h => ?_, ?_, ?_⟩
    · have := congrArg UInt64.toNat h
      rw [h1] at this
      cases this
    · show (UInt64.ofNat (i + 1)).toNat < _
      omega
    · show (addU _ _).toNat < _
      rw [addU_toNat]
      exact Nat.mod_lt _ (by decide)
  have hv : ∀ s ∈ sumTo (aL s0 cs N) (aL s1 ds N) N, qU s.2 = Prm.ev (Prm.addL ((s0 :: cs).map qU) ((s1 :: ds).map qU)) (qU s.1) := fun s hs => by
    obtain ⟨i, hi, rfl⟩ := hel s hs
    rw [Prm.addL_ev]
    show qU (addU _ _) = _
    rw [qU_add, qU_poly, qU_poly]
  obtain ⟨h1, h2, h3⟩ := join_curve (l := sumTo (aL s0 cs N) (aL s1 ds N) N) (Prm.addL ((s0 :: cs).map qU) ((s1 :: ds).map qU)) m
    (Prm.addL_len _ _ _ (by rw [List.length_map, List.length_cons]; omega) (by rw [List.length_map, List.length_cons]; omega)) (by omega) (by rw [sum_len]; omega) (by rw [sum_len]; omega) hok (up_nodup hup) hv
  refine ⟨h1, qU_inj h3 (by rw [addU_toNat]; exact Nat.mod_lt _ (by decide)) ?_⟩
  rw [h2, Prm.addL_ev, ev_at0, ev_at0, qU_add]
end
end Go.Proofs.YteiifdpikcnbgaaDoor
