/- What the digits of a sum say, in plain Lean: a sum comes back from its digits, and a right text is the digits of what it says. -/
import Derived.Test.YtkchdhkpjnnliaaDoorRefB
import Derived.Laws.Strings
namespace Go.Proofs.YtkchdhkpjnnliaaDoor
open Go.RowKit
theorem sAt_bstr (l : List UInt8) (i : Nat) : sAt (bstr l) i = ix l i := rfl
theorem bstr_size (l : List UInt8) : (bstr l).size = l.length := rfl
theorem ix_ext {l m : List UInt8} (h : l.length = m.length) (h2 : ∀ i < l.length, ix l i = ix m i) : l = m := by
  apply List.ext_getElem h
  intro i h3 h4
  have := h2 i h3
  simpa [ix, List.getD_eq_getElem?_getD, List.getElem?_eq_getElem h3, List.getElem?_eq_getElem h4] using this
theorem ix_lft (a b : List UInt8) (i : Nat) (h : i < a.length) : ix (a ++ b) i = ix a i := by simp [ix, List.getD_eq_getElem?_getD, List.getElem?_append_left h]
theorem ix_rgt (a b : List UInt8) (i : Nat) (h : a.length ≤ i) : ix (a ++ b) i = ix b (i - a.length) := by simp [ix, List.getD_eq_getElem?_getD, List.getElem?_append_right h]
theorem ix_setU (l : List UInt8) (i j : Nat) (x : UInt8) (hi : i < l.length) : ix (l.set i x) j = if i = j then x else ix l j := by
  simp only [ix, List.getD_eq_getElem?_getD, List.getElem?_set]
  by_cases h : i = j
  · subst h
    simp [hi]
  · simp [h]
theorem textTo_ix (s : List UInt8) (n : Nat) : ∀ k < n, ix (textTo s n) (2 * k) = hexd ((ix s k).toNat / 16) ∧ ix (textTo s n) (2 * k + 1) = hexd ((ix s k).toNat % 16) := by
  induction n with
  | zero => intro k h; omega
  | succ n ih =>
    intro k h
    rw [textTo_succ]
    by_cases hk : k < n
    · rw [ix_lft _ _ _ (by rw [textTo_len]; omega), ix_lft _ _ _ (by rw [textTo_len]; omega)]
      exact ih k hk
    · have hk : k = n := by omega
      subst hk
      rw [ix_rgt _ _ _ (by rw [textTo_len]; omega), ix_rgt _ _ _ (by rw [textTo_len]; omega), textTo_len, Nat.sub_self, show 2 * k + 1 - 2 * k = 1 by omega]
      exact ⟨rfl, rfl⟩
theorem good_table : ∀ i : _root_.Fin 16, digB (hexd i.val) = true := by decide +kernel
theorem back_table : ∀ x : _root_.Fin 256, (shl8 (digV (hexd (x.val / 16))) 4 ||| digV (hexd (x.val % 16))) = UInt8.ofNat x.val := by decide +kernel
theorem hex_table : ∀ x : _root_.Fin 256, digB (UInt8.ofNat x.val) = true → hexd (digV (UInt8.ofNat x.val)).toNat = UInt8.ofNat x.val := by decide +kernel
theorem hexd_digV (x : UInt8) (h : digB x = true) : hexd (digV x).toNat = x := by
  have := hex_table ⟨x.toNat, x.toNat_lt⟩
  simp only [UInt8.ofNat_toNat] at this
  exact this h
theorem goodTo_iff (s : ByteArray) (n : Nat) : goodTo s n = true ↔ ∀ k < n, goodAt s k = true := by
  induction n with
  | zero => exact ⟨fun _ k h => by omega, fun _ => rfl⟩
  | succ n ih =>
    rw [goodTo_succ, Bool.and_eq_true, ih]
    refine ⟨fun ⟨h1, h2⟩ k hk => ?_, fun h => ⟨fun k hk => h k (by omega), h n (by omega)⟩⟩
    by_cases hk2 : k < n
    · exact h1 k hk2
    · obtain rfl : k = n := by omega
      exact h2
theorem parseTo_ix (s : ByteArray) (n : Nat) : ∀ k < n, n ≤ 32 → ix (parseTo s n) k = parse8 s k := by
  induction n with
  | zero => intro k h; omega
  | succ n ih =>
    intro k h hn
    rw [parseTo_succ, ix_setU _ _ _ _ (by rw [parseTo_length]; omega)]
    by_cases hk : n = k
    · subst hk; simp
    · rw [if_neg hk]
      exact ih k (by omega) (by omega)
theorem parse_text (s : List UInt8) (hs : s.length = 32) : parseOk (bstr (textTo s 32)) = true ∧ parseOut (bstr (textTo s 32)) = s := by
  have h0 : parseOk (bstr (textTo s 32)) = true := by
    unfold parseOk
    rw [bstr_size, textTo_len, Bool.and_eq_true, goodTo_iff]
    refine ⟨by simp, fun k hk => ?_⟩
    unfold goodAt
    rw [sAt_bstr, sAt_bstr, (textTo_ix s 32 k hk).1, (textTo_ix s 32 k hk).2, Bool.and_eq_true]
    have := (ix s k).toNat_lt
    exact ⟨good_table ⟨(ix s k).toNat / 16, by omega⟩, good_table ⟨(ix s k).toNat % 16, by omega⟩⟩
  refine ⟨h0, ?_⟩
  unfold parseOut
  rw [if_pos h0]
  apply ix_ext
  · rw [parseTo_length, hs]
  · intro k hk
    rw [parseTo_length] at hk
    rw [parseTo_ix _ 32 k hk (Nat.le_refl _)]
    unfold parse8
    rw [sAt_bstr, sAt_bstr, (textTo_ix s 32 k hk).1, (textTo_ix s 32 k hk).2]
    have := back_table ⟨(ix s k).toNat, (ix s k).toNat_lt⟩
    simpa using this
theorem textTo_inj {s t : List UInt8} (hs : s.length = 32) (ht : t.length = 32) (h : textTo s 32 = textTo t 32) : s = t := by
  rw [← (parse_text s hs).2, ← (parse_text t ht).2, h]
theorem text_parse (s : ByteArray) (h : parseOk s = true) : bstr (textTo (parseOut s) 32) = s := by
  have h1 := h
  unfold parseOk at h1
  rw [Bool.and_eq_true, goodTo_iff] at h1
  obtain ⟨h2, h3⟩ := h1
  have h2 : s.size = 64 := of_decide_eq_true h2
  have h4 : textTo (parseOut s) 32 = s.data.toList := by
    apply ix_ext
    · rw [textTo_len]
      exact h2.symm
    · intro i hi
      rw [textTo_len] at hi
      obtain ⟨k, hk, hik⟩ : ∃ k, k < 32 ∧ (i = 2 * k ∨ i = 2 * k + 1) := ⟨i / 2, by omega, by omega⟩
      have h5 : ix (parseOut s) k = parse8 s k := by
        unfold parseOut
        rw [if_pos h]
        exact parseTo_ix s 32 k hk (Nat.le_refl _)
      have h6 := parse8_nat s k
      have h7 := digV_lt (sAt s (2 * k))
      have h8 := digV_lt (sAt s (2 * k + 1))
      have h9 := h3 k hk
      unfold goodAt at h9
      rw [Bool.and_eq_true] at h9
      rcases hik with rfl | rfl
      · rw [(textTo_ix _ 32 k hk).1, h5, ← h6, show (16 * (digV (sAt s (2 * k))).toNat + (digV (sAt s (2 * k + 1))).toNat) / 16 = (digV (sAt s (2 * k))).toNat by omega]
        exact hexd_digV _ h9.1
      · rw [(textTo_ix _ 32 k hk).2, h5, ← h6, show (16 * (digV (sAt s (2 * k))).toNat + (digV (sAt s (2 * k + 1))).toNat) % 16 = (digV (sAt s (2 * k + 1))).toNat by omega]
        exact hexd_digV _ h9.2
  rw [h4]
  rfl
/-- Two sums' digits, compared. -/
theorem text_cmp {s t : List UInt8} (hs : s.length = 32) (ht : t.length = 32) : ((bstr (textTo s 32)).toList == (bstr (textTo t 32)).toList) = decide (s = t) := by
  by_cases h : s = t
  · subst h; simp
  · rw [decide_eq_false h, beq_eq_false_iff_ne]
    intro h2
    rw [ByteArray.toList_eq, ByteArray.toList_eq] at h2
    exact h (textTo_inj hs ht h2)
end Go.Proofs.YtkchdhkpjnnliaaDoor
