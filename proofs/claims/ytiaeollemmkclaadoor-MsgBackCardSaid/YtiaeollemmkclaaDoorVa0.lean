import Derived.Test.YtiaeollemmkclaaDoorEn3
/- Numbers as few bytes (layer 11), in plain words: what is written, what is read, and that one undoes the other. No program in sight. -/
namespace Go.Proofs.YtiaeollemmkclaaDoor

/-- The last k digits of a number, base 256, the greatest first. -/
def dgV : Nat → Nat → List UInt8
  | 0, _ => []
  | k + 1, v => dgV k (v / 256) ++ [UInt8.ofNat (v % 256)]
/-- The number that digits stand for. -/
def fbV (l : List UInt8) : Nat := l.foldl (fun v x => 256 * v + x.toNat) 0
theorem dgV_length : ∀ (k v : Nat), (dgV k v).length = k
  | 0, _ => rfl
  | k + 1, v => by simp [dgV, dgV_length k]
theorem fbV_snoc (l : List UInt8) (x : UInt8) : fbV (l ++ [x]) = 256 * fbV l + x.toNat := by simp [fbV]
theorem fbV_nil : fbV [] = 0 := rfl
theorem snoc_ind {α : Type} {p : List α → Prop} (h0 : p []) (h1 : ∀ l x, p l → p (l ++ [x])) (l : List α) : p l := by
  have : ∀ r : List α, p r.reverse := fun r => by
    induction r with
    | nil => exact h0
    | cons x r ih => rw [List.reverse_cons]; exact h1 _ _ ih
  have h := this l.reverse
  rwa [List.reverse_reverse] at h
theorem fbV_lt (l : List UInt8) : fbV l < 256 ^ l.length := by
  induction l using snoc_ind with
  | h0 => simp [fbV]
  | h1 l x ih =>
    have := x.toNat_lt
    rw [fbV_snoc, List.length_append, List.length_singleton, Nat.pow_succ]
    omega
theorem fbV_dgV : ∀ (k v : Nat), fbV (dgV k v) = v % 256 ^ k
  | 0, v => by simp [dgV, fbV, Nat.mod_one]
  | k + 1, v => by
    rw [dgV, fbV_snoc, fbV_dgV k, UInt8.toNat_ofNat', Nat.mod_mod_of_dvd v (by decide : 256 ∣ 2 ^ 8)]
    have h := Nat.mod_mul (x := v) (a := 256) (b := 256 ^ k)
    rw [Nat.pow_succ, Nat.mul_comm (256 ^ k) 256, h]
    omega
theorem dgV_fbV (l : List UInt8) : dgV l.length (fbV l) = l := by
  induction l using snoc_ind with
  | h0 => rfl
  | h1 l x ih =>
    have hx := x.toNat_lt
    rw [List.length_append, List.length_singleton, dgV, fbV_snoc, show (256 * fbV l + x.toNat) / 256 = fbV l by omega, ih, show (256 * fbV l + x.toNat) % 256 = x.toNat by omega]
    simp
/-- How many digits a number has. -/
def nbV : Nat → Nat → Nat
  | 0, _ => 1
  | k + 1, v => if v < 256 then 1 else 1 + nbV k (v / 256)
def nb8 (v : UInt64) : Nat := nbV 7 v.toNat
theorem nbV_of : ∀ (k f v : Nat), k ≤ f → 256 ^ k ≤ v → v < 256 ^ (k + 1) → nbV f v = k + 1
  | 0, 0, v, _, _, _ => rfl
  | 0, f + 1, v, _, h1, h2 => by simp [nbV]; omega
  | k + 1, 0, v, h, _, _ => by omega
  | k + 1, f + 1, v, h, h1, h2 => by
    have h3 : 256 ^ (k + 1) = 256 * 256 ^ k := by rw [Nat.pow_succ, Nat.mul_comm]
    have h4 : 256 ^ (k + 1 + 1) = 256 * 256 ^ (k + 1) := by rw [Nat.pow_succ, Nat.mul_comm]
    have h5 := Nat.pow_pos (n := k) (by decide : 0 < 256)
    have h6 : ¬ v < 256 := by omega
    rw [nbV, if_neg h6, nbV_of k f (v / 256) (by omega) (by omega) (by omega)]
    omega
theorem nbV_le : ∀ (f v : Nat), 1 ≤ nbV f v ∧ nbV f v ≤ f + 1
  | 0, _ => by simp [nbV]
  | f + 1, v => by
    have := nbV_le f (v / 256)
    simp only [nbV]
    split <;> omega
theorem nbV_lo : ∀ (f v : Nat), 1 ≤ v → v < 256 ^ (f + 1) → 256 ^ (nbV f v - 1) ≤ v ∧ v < 256 ^ nbV f v
  | 0, v, h, h2 => by simpa [nbV] using ⟨h, h2⟩
  | f + 1, v, h, h2 => by
    rw [nbV]
    split
    · rename_i h3
      simpa using ⟨h, h3⟩
    · rename_i h3
      have h4 : 256 ^ (f + 1 + 1) = 256 * 256 ^ (f + 1) := by rw [Nat.pow_succ, Nat.mul_comm]
      have ih := nbV_lo f (v / 256) (by omega) (by omega)
      have hl := nbV_le f (v / 256)
      have h5 : 256 ^ (1 + nbV f (v / 256) - 1) = 256 * 256 ^ (nbV f (v / 256) - 1) := by
        rw [show 1 + nbV f (v / 256) - 1 = (nbV f (v / 256) - 1) + 1 by omega, Nat.pow_succ, Nat.mul_comm]
      have h6 : 256 ^ (1 + nbV f (v / 256)) = 256 * 256 ^ nbV f (v / 256) := by rw [Nat.add_comm, Nat.pow_succ, Nat.mul_comm]
      rw [h5, h6]
      omega
theorem nb8_le (v : UInt64) : 1 ≤ nb8 v ∧ nb8 v ≤ 8 := nbV_le 7 _
theorem nb8_lo (v : UInt64) (h : 1 ≤ v.toNat) : 256 ^ (nb8 v - 1) ≤ v.toNat ∧ v.toNat < 256 ^ nb8 v := nbV_lo 7 _ h (Nat.lt_of_lt_of_le v.toNat_lt (by decide))

/-- VA1: a number as bytes. -/
def putV (v : UInt64) : List UInt8 := if v < 248 then [v.toUInt8] else UInt8.ofNat (247 + nb8 v) :: dgV (nb8 v) v.toNat
/-- A number at the beginning of bytes, and how many it has. -/
def getV : List UInt8 → Option (UInt64 × Nat)
  | [] => none
  | x :: t => if x < 248 then some (x.toUInt64, 1)
    else if t.length < x.toNat - 247 ∨ ix t 0 = 0 then none
    else if fbV (t.take (x.toNat - 247)) < 248 then none
    else some (UInt64.ofNat (fbV (t.take (x.toNat - 247))), x.toNat - 246)
theorem putV_length (v : UInt64) : 1 ≤ (putV v).length ∧ (putV v).length ≤ 9 := by
  have := nb8_le v
  unfold putV
  split <;> simp [dgV_length] <;> omega
theorem head_dgV : ∀ (k v : Nat), 256 ^ k ≤ v → v < 256 ^ (k + 1) → ix (dgV (k + 1) v) 0 ≠ 0
  | 0, v, h1, h2 => by
    simp only [dgV, List.nil_append, ix, List.getD_cons_zero]
    intro h
    have := congrArg UInt8.toNat h
    simp at this h1 h2
    omega
  | k + 1, v, h1, h2 => by
    have h3 : 256 ^ (k + 1) = 256 * 256 ^ k := by rw [Nat.pow_succ, Nat.mul_comm]
    have h4 : 256 ^ (k + 1 + 1) = 256 * 256 ^ (k + 1) := by rw [Nat.pow_succ, Nat.mul_comm]
    have ih := head_dgV k (v / 256) (by omega) (by omega)
    rw [dgV]
    unfold ix at ih ⊢
    rwa [List.getD_eq_getElem?_getD, List.getElem?_append_left (by simp [dgV_length]), ← List.getD_eq_getElem?_getD]
theorem getV_putV (v : UInt64) (r : List UInt8) : getV (putV v ++ r) = some (v, (putV v).length) := by
  unfold putV
  by_cases h : v < 248
  · rw [if_pos h]
    have hn : v.toNat < 248 := UInt64.lt_iff_toNat_lt.1 h
    have h1 : v.toUInt8 < 248 := by
      rw [UInt8.lt_iff_toNat_lt]
      simp
      omega
    simp only [List.cons_append, List.nil_append, getV, if_pos h1, List.length_singleton]
    congr 2
    apply UInt64.toNat_inj.1
    simp
    omega
  · rw [if_neg h]
    have hn : 248 ≤ v.toNat := Nat.not_lt.1 fun hc => h (UInt64.lt_iff_toNat_lt.2 hc)
    have hb := nb8_le v
    have hl := nb8_lo v (by omega)
    have hx : (UInt8.ofNat (247 + nb8 v)).toNat = 247 + nb8 v := by
      rw [UInt8.toNat_ofNat']
      omega
    have h1 : ¬ UInt8.ofNat (247 + nb8 v) < 248 := by
      rw [UInt8.lt_iff_toNat_lt, hx]
      simp
      omega
    have ht : (dgV (nb8 v) v.toNat ++ r).take (nb8 v) = dgV (nb8 v) v.toNat := by
      rw [List.take_append_of_le_length (by rw [dgV_length]; omega), List.take_of_length_le (by rw [dgV_length]; omega)]
    have hf : fbV (dgV (nb8 v) v.toNat) = v.toNat := by rw [fbV_dgV, Nat.mod_eq_of_lt hl.2]
    have h0 : ix (dgV (nb8 v) v.toNat ++ r) 0 ≠ 0 := by
      have := head_dgV (nb8 v - 1) v.toNat hl.1 (by rw [show nb8 v - 1 + 1 = nb8 v by omega]; exact hl.2)
      rw [show nb8 v - 1 + 1 = nb8 v by omega] at this
      unfold ix at this ⊢
      rwa [List.getD_eq_getElem?_getD, List.getElem?_append_left (by rw [dgV_length]; omega), ← List.getD_eq_getElem?_getD]
    simp only [List.cons_append, getV, if_neg h1, hx, show 247 + nb8 v - 247 = nb8 v by omega, show 247 + nb8 v - 246 = nb8 v + 1 by omega, ht, hf, List.length_append, dgV_length, List.length_cons]
    rw [if_neg (by rintro (h | h); · omega
                   · exact h0 h), if_neg (by omega)]
    simp
theorem getV_some {b : List UInt8} {v : UInt64} {n : Nat} (h : getV b = some (v, n)) : n = (putV v).length ∧ b = putV v ++ b.drop n := by
  cases b with
  | nil => simp [getV] at h
  | cons x t =>
    have hx := x.toNat_lt
    simp only [getV] at h
    split at h
    · rename_i h1
      simp only [Option.some.injEq, Prod.mk.injEq] at h
      obtain ⟨rfl, rfl⟩ := h
      have h1' := UInt8.lt_iff_toNat_lt.1 h1
      have h2 : x.toUInt64 < 248 := by
        rw [UInt64.lt_iff_toNat_lt]
        simpa using h1'
      unfold putV
      rw [if_pos h2]
      simp
    · rename_i h1
      have h1' : 248 ≤ x.toNat := Nat.not_lt.1 fun hc => h1 (UInt8.lt_iff_toNat_lt.2 hc)
      split at h
      · cases h
      · rename_i h2
        split at h
        · cases h
        · rename_i h3
          simp only [Option.some.injEq, Prod.mk.injEq] at h
          obtain ⟨rfl, rfl⟩ := h
          have h21 : ¬ t.length < x.toNat - 247 := fun hc => h2 (.inl hc)
          have h22 : ix t 0 ≠ 0 := fun hc => h2 (.inr hc)
          have htl : (t.take (x.toNat - 247)).length = x.toNat - 247 := by rw [List.length_take]; omega
          have hlt := fbV_lt (t.take (x.toNat - 247))
          rw [htl] at hlt
          have hp8 : 256 ^ (x.toNat - 247) ≤ 256 ^ 8 := Nat.pow_le_pow_right (by decide) (by omega)
          have hv : (UInt64.ofNat (fbV (t.take (x.toNat - 247)))).toNat = fbV (t.take (x.toNat - 247)) := by
            rw [UInt64.toNat_ofNat']
            exact Nat.mod_eq_of_lt (Nat.lt_of_lt_of_le hlt (Nat.le_trans hp8 (by decide)))
          have hge : 256 ^ (x.toNat - 247 - 1) ≤ fbV (t.take (x.toNat - 247)) := by
            obtain ⟨y, t', rfl⟩ : ∃ y t', t = y :: t' := by
              cases t with
              | nil => simp at h21; omega
              | cons y t' => exact ⟨y, t', rfl⟩
            have hy : y ≠ 0 := by simpa [ix] using h22
            have hy' : 1 ≤ y.toNat := by
              rcases Nat.eq_zero_or_pos y.toNat with h | h
              · exact absurd (UInt8.toNat_inj.1 (by simpa using h)) hy
              · exact h
            obtain ⟨k, hk⟩ : ∃ k, x.toNat - 247 = k + 1 := ⟨x.toNat - 248, by omega⟩
            rw [hk, List.take_succ_cons]
            have key : ∀ (l : List UInt8) (a : Nat), a * 256 ^ l.length ≤ l.foldl (fun v x => 256 * v + x.toNat) a := by
              intro l
              induction l with
              | nil => intro a; simp
              | cons z l ih =>
                intro a
                rw [List.foldl_cons, List.length_cons, Nat.pow_succ]
                refine Nat.le_trans ?_ (ih _)
                have : a * (256 ^ l.length * 256) = (256 * a) * 256 ^ l.length := by
                  rw [Nat.mul_comm (256 ^ l.length) 256, ← Nat.mul_assoc, Nat.mul_comm a 256]
                rw [this]
                exact Nat.mul_le_mul_right _ (by omega)
            have h9 := key (t'.take k) y.toNat
            have hlk : (t'.take k).length = k := by
              rw [List.length_take]
              simp at h21
              omega
            rw [hlk] at h9
            have : fbV (y :: t'.take k) = (t'.take k).foldl (fun v x => 256 * v + x.toNat) y.toNat := by simp [fbV]
            rw [this]
            refine Nat.le_trans ?_ h9
            rw [show k + 1 - 1 = k by omega]
            exact Nat.le_mul_of_pos_left _ hy'
          have hnb : nb8 (UInt64.ofNat (fbV (t.take (x.toNat - 247)))) = x.toNat - 247 := by
            unfold nb8
            rw [hv]
            have := nbV_of (x.toNat - 247 - 1) 7 (fbV (t.take (x.toNat - 247))) (by omega) hge (by rw [show x.toNat - 247 - 1 + 1 = x.toNat - 247 by omega]; exact hlt)
            omega
          have hnl : ¬ UInt64.ofNat (fbV (t.take (x.toNat - 247))) < 248 := by
            rw [UInt64.lt_iff_toNat_lt, hv]
            simpa using h3
          have hpu : putV (UInt64.ofNat (fbV (t.take (x.toNat - 247)))) = x :: t.take (x.toNat - 247) := by
            unfold putV
            rw [if_neg hnl, hnb, hv]
            have hd := dgV_fbV (t.take (x.toNat - 247))
            rw [htl] at hd
            refine congr (congrArg List.cons ?_) hd
            apply UInt8.toNat_inj.1
            rw [UInt8.toNat_ofNat']
            omega
          rw [hpu]
          refine ⟨by simp [htl]; omega, ?_⟩
          rw [show x.toNat - 246 = (x.toNat - 247) + 1 by omega, List.drop_succ_cons, List.cons_append, List.take_append_drop]
/-- Two numbers have the same bytes just if they are the same. -/
theorem putV_inj {v u : UInt64} {r s : List UInt8} (h : putV v ++ r = putV u ++ s) : v = u ∧ r = s := by
  have h1 := getV_putV v r
  rw [h, getV_putV] at h1
  simp only [Option.some.injEq, Prod.mk.injEq] at h1
  obtain rfl := h1.1
  exact ⟨rfl, List.append_cancel_left h⟩
end Go.Proofs.YtiaeollemmkclaaDoor
