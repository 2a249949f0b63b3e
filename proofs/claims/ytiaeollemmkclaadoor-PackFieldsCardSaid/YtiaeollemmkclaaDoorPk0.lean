import Derived.Test.YtiaeollemmkclaaDoorVa0
/- Fields as bytes (layer 13), in plain words: what is written, what is read of it, and what is read of a part of it. No program in sight. -/
namespace Go.Proofs.YtiaeollemmkclaaDoor

/-- A field: 0 a number, 1 numbers, 2 bytes, 3 a sum, else a row. -/
structure Fd where
  k : UInt8
  n : UInt64
  l : List UInt64
  b : List UInt8
  s : List UInt8
  x : List UInt32
  many : Int
  most : UInt64
def w4 (a b c d : UInt8) : UInt32 := a.toUInt32 <<< 24 ||| b.toUInt32 <<< 16 ||| c.toUInt32 <<< 8 ||| d.toUInt32
def b4 (v : UInt32) : List UInt8 := [(v >>> 24).toUInt8, (v >>> 16).toUInt8, (v >>> 8).toUInt8, v.toUInt8]
def rowB (x : List UInt32) : List UInt8 := x.flatMap b4
def numsB (l : List UInt64) : List UInt8 := l.flatMap putV
def lenV {α : Type} (l : List α) : List UInt8 := putV (UInt64.ofNat l.length)
/-- PK1: a field as bytes. -/
def putF (f : Fd) : List UInt8 :=
  if f.k = 0 then putV f.n else if f.k = 1 then lenV f.l ++ numsB f.l else if f.k = 2 then lenV f.b ++ f.b else if f.k = 3 then f.s else lenV f.x ++ rowB f.x
def putFs (l : List Fd) : List UInt8 := l.flatMap putF
/-- What is left of what is read, and whether something was wrong. -/
abbrev Rs := List UInt8 × Bool
def badR : Rs := ([], true)
/-- A number off, at most so great. -/
def numR (most : UInt64) (st : Rs) : UInt64 × Bool × Rs := match getV st.1 with
  | some (v, n) => if v ≤ most then (v, true, (st.1.drop n, st.2)) else (0, false, badR)
  | none => (0, false, badR)
def manyU (many : Int) : UInt64 := UInt64.ofNat (max many 0).toNat
/-- How many there are, each of at least so many bytes. -/
def cntR (many : Int) (each : Nat) (st : Rs) : Nat × Bool × Rs :=
  if (numR (manyU many) st).2.1 = true then
    (if (numR (manyU many) st).1.toNat ≤ (numR (manyU many) st).2.2.1.length / each then ((numR (manyU many) st).1.toNat, true, (numR (manyU many) st).2.2) else (0, false, badR))
  else (0, false, badR)
/-- So many numbers more. -/
def numsR (most : UInt64) : Nat → List UInt64 → Rs → List UInt64 × Rs
  | 0, acc, st => (acc, st)
  | n + 1, acc, st => if (numR most st).2.1 = true then numsR most n (acc ++ [(numR most st).1]) (numR most st).2.2 else ([], badR)
def fours : List UInt8 → List UInt32
  | a :: b :: c :: d :: r => w4 a b c d :: fours r
  | _ => []
def numsOf (many : Int) (most : UInt64) (st : Rs) : List UInt64 × Rs :=
  if (cntR many 1 st).2.1 = true then numsR most (cntR many 1 st).1 [] (cntR many 1 st).2.2 else ([], badR)
def bytesOf (many : Int) (st : Rs) : List UInt8 × Rs :=
  if (cntR many 1 st).2.1 = true then ((cntR many 1 st).2.2.1.take (cntR many 1 st).1, ((cntR many 1 st).2.2.1.drop (cntR many 1 st).1, (cntR many 1 st).2.2.2)) else ([], badR)
def sumOf (st : Rs) : List UInt8 × Rs := if st.1.length < 32 then (List.replicate 32 0, badR) else (st.1.take 32, (st.1.drop 32, st.2))
def rowOf (many : Int) (st : Rs) : List UInt32 × Rs :=
  if (cntR many 4 st).2.1 = true then (fours ((cntR many 4 st).2.2.1.take (4 * (cntR many 4 st).1)), ((cntR many 4 st).2.2.1.drop (4 * (cntR many 4 st).1), (cntR many 4 st).2.2.2)) else ([], badR)
def zeroF (k : UInt8) : Fd := ⟨k, 0, [], [], List.replicate 32 0, [], 0, 0⟩
/-- PK2: what is read, and what is left. -/
def takeF (f : Fd) (st : Rs) : Fd × Rs :=
  if f.k = 0 then ({ zeroF f.k with n := (numR f.most st).1 }, (numR f.most st).2.2)
  else if f.k = 1 then ({ zeroF f.k with l := (numsOf f.many f.most st).1 }, (numsOf f.many f.most st).2)
  else if f.k = 2 then ({ zeroF f.k with b := (bytesOf f.many st).1 }, (bytesOf f.many st).2)
  else if f.k = 3 then ({ zeroF f.k with s := (sumOf st).1 }, (sumOf st).2)
  else ({ zeroF f.k with x := (rowOf f.many st).1 }, (rowOf f.many st).2)

/-! ### What is wrong once stays so -/
theorem getV_nil : getV [] = none := rfl
theorem numR_bad (most : UInt64) : numR most badR = (0, false, badR) := rfl
theorem cntR_bad (many : Int) (e : Nat) : cntR many e badR = (0, false, badR) := rfl
theorem takeF_bad (f : Fd) : (takeF f badR).2 = badR := by
  unfold takeF
  split
  · rfl
  · split
    · rfl
    · split
      · rfl
      · split <;> rfl
/-! ### What was written is read; of a part of it, it is read, or something is wrong -/
def pre (c : Nat) (l : List UInt8) : Rs := (l.take c, false)
theorem numR_pre (most v : UInt64) (h : v ≤ most) (c : Nat) (t : List UInt8) : numR most (pre c (putV v ++ t)) = (0, false, badR) ∨ ((putV v).length ≤ c ∧ numR most (pre c (putV v ++ t)) = (v, true, pre (c - (putV v).length) t)) := by
  cases hg : getV ((putV v ++ t).take c) with
  | none => exact .inl (by simp only [numR, pre, hg])
  | some q =>
    obtain ⟨v', n⟩ := q
    obtain ⟨h1, h2⟩ := getV_some hg
    have h3 : putV v ++ t = putV v' ++ (((putV v ++ t).take c).drop n ++ (putV v ++ t).drop c) := by rw [← List.append_assoc, ← h2, List.take_append_drop]
    obtain ⟨rfl, _⟩ := putV_inj h3
    refine .inr ⟨?_, ?_⟩
    · have := congrArg List.length h2
      simp only [List.length_take, List.length_append, List.length_drop] at this
      omega
    · have hl : (putV v).length ≤ c := by
        have := congrArg List.length h2
        simp only [List.length_take, List.length_append, List.length_drop] at this
        omega
      simp only [numR, pre, hg, if_pos h, h1]
      simp only [List.drop_take, List.drop_left]
theorem pre_all (l : List UInt8) : pre l.length l = (l, false) := by simp [pre]
theorem ofNat_toNat {n : Nat} (h : n ≤ 300) : (UInt64.ofNat n).toNat = n := by
  rw [UInt64.toNat_ofNat']
  omega
theorem cntR_pre {α : Type} (l : List α) (many : Int) (e : Nat) (hl : l.length ≤ 300) (hm : many = 300) (c : Nat) (t : List UInt8) : cntR many e (pre c (lenV l ++ t)) = (0, false, badR) ∨ ((lenV l).length ≤ c ∧ l.length ≤ (t.take (c - (lenV l).length)).length / e ∧ cntR many e (pre c (lenV l ++ t)) = (l.length, true, pre (c - (lenV l).length) t)) := by
  have hle : UInt64.ofNat l.length ≤ manyU many := by
    subst hm
    rw [UInt64.le_iff_toNat_le, ofNat_toNat hl, show (manyU 300).toNat = 300 from rfl]
    omega
  rcases numR_pre (manyU many) _ hle c t with h | ⟨h1, h⟩
  · exact .inl (by unfold cntR lenV; rw [h]; rfl)
  · unfold cntR lenV
    rw [h]
    simp only [if_true, ofNat_toNat hl]
    by_cases hq : l.length ≤ (pre (c - (putV (UInt64.ofNat l.length)).length) t).1.length / e
    · rw [if_pos hq]
      exact .inr ⟨h1, hq, rfl⟩
    · rw [if_neg hq]
      exact .inl rfl
theorem numsR_pre : ∀ (l acc : List UInt64) (c : Nat) (t : List UInt8), numsR (18446744073709551615 : UInt64) l.length acc (pre c (numsB l ++ t)) = ([], badR) ∨ ((numsB l).length ≤ c ∧ numsR (18446744073709551615 : UInt64) l.length acc (pre c (numsB l ++ t)) = (acc ++ l, pre (c - (numsB l).length) t))
  | [], acc, c, t => .inr ⟨by simp [numsB], by simp [numsB, numsR]⟩
  | v :: l, acc, c, t => by
    have hv : v ≤ (18446744073709551615 : UInt64) := by
      rw [UInt64.le_iff_toNat_le]
      have := v.toNat_lt
      show v.toNat ≤ 18446744073709551615
      omega
    have e : numsB (v :: l) ++ t = putV v ++ (numsB l ++ t) := by simp [numsB, List.append_assoc]
    have el : (numsB (v :: l)).length = (putV v).length + (numsB l).length := by simp [numsB]
    rw [e, el, List.length_cons, numsR]
    rcases numR_pre (18446744073709551615 : UInt64) v hv c (numsB l ++ t) with h | ⟨h1, h⟩
    · exact .inl (by rw [h]; rfl)
    · rw [h]
      simp only [if_true]
      rcases numsR_pre l (acc ++ [v]) (c - (putV v).length) t with h2 | ⟨h2, h3⟩
      · exact .inl h2
      · refine .inr ⟨by omega, ?_⟩
        rw [h3]
        simp [Nat.sub_sub]
theorem w4_b4 (v : UInt32) : w4 (v >>> 24).toUInt8 (v >>> 16).toUInt8 (v >>> 8).toUInt8 v.toUInt8 = v := by
  unfold w4
  apply UInt32.toBitVec_inj.1
  simp only [UInt32.toBitVec_or, UInt32.toBitVec_shiftLeft, UInt8.toBitVec_toUInt32, UInt32.toBitVec_toUInt8, UInt32.toBitVec_shiftRight]
  apply BitVec.eq_of_getLsbD_eq
  intro i hi
  simp only [BitVec.getLsbD_or, BitVec.getLsbD_setWidth]
  have e : ∀ k, k ≤ i → k + (i - k) = i := fun k h => by omega
  rcases Nat.lt_or_ge i 8 with h1 | h1
  · simp [hi, h1, show i < 16 by omega, show i < 24 by omega]
  rcases Nat.lt_or_ge i 16 with h2 | h2
  · simp [hi, h2, show ¬ i < 8 by omega, show i < 24 by omega, show i - 8 < 8 by omega, show i - 8 < 32 by omega, e 8 h1]
  rcases Nat.lt_or_ge i 24 with h3 | h3
  · simp [hi, h3, show ¬ i < 8 by omega, show ¬ i < 16 by omega, show ¬ i - 8 < 8 by omega, show i - 16 < 8 by omega, show i - 16 < 32 by omega, e 16 h2]
  · simp [hi, show ¬ i < 8 by omega, show ¬ i < 16 by omega, show ¬ i < 24 by omega, show ¬ i - 8 < 8 by omega, show ¬ i - 16 < 8 by omega, show i - 24 < 8 by omega, show i - 24 < 32 by omega, e 24 h3]
theorem fours_rowB : ∀ (x : List UInt32) (t : List UInt8), fours ((rowB x ++ t).take (4 * x.length)) = x
  | [], t => by simp [rowB, fours]
  | v :: x, t => by
    have e : rowB (v :: x) ++ t = (v >>> 24).toUInt8 :: (v >>> 16).toUInt8 :: (v >>> 8).toUInt8 :: v.toUInt8 :: (rowB x ++ t) := by simp [rowB, b4]
    rw [e, List.length_cons, show 4 * (x.length + 1) = 4 * x.length + 1 + 1 + 1 + 1 by omega]
    simp only [List.take_succ_cons, fours, w4_b4, fours_rowB x t]
theorem rowB_length (x : List UInt32) : (rowB x).length = 4 * x.length := by
  induction x with
  | nil => rfl
  | cons v x ih =>
    have : rowB (v :: x) = b4 v ++ rowB x := by simp [rowB]
    rw [this, List.length_append, ih]
    simp [b4]
    omega
/-- The field that is asked for, for one that was written. -/
def askF (f : Fd) : Fd := { f with many := 300, most := 18446744073709551615 }
def kindF (f : Fd) : Fd := if f.k = 0 then { zeroF f.k with n := f.n } else if f.k = 1 then { zeroF f.k with l := f.l } else if f.k = 2 then { zeroF f.k with b := f.b } else if f.k = 3 then { zeroF f.k with s := f.s } else { zeroF f.k with x := f.x }
theorem takeF_pre (f : Fd) (h1 : f.l.length ≤ 60) (h2 : f.b.length ≤ 300) (h3 : f.x.length ≤ 60) (h4 : f.s.length = 32) (c : Nat) (t : List UInt8) :
    (takeF (askF f) (pre c (putF f ++ t))).2 = badR ∨ ((putF f).length ≤ c ∧ takeF (askF f) (pre c (putF f ++ t)) = (kindF f, pre (c - (putF f).length) t)) := by
  have hm : ∀ v : UInt64, v ≤ (18446744073709551615 : UInt64) := fun v => by
    rw [UInt64.le_iff_toNat_le]
    have := v.toNat_lt
    show v.toNat ≤ 18446744073709551615
    omega
  unfold takeF putF kindF
  show (_ ∨ _)
  simp only [show (askF f).k = f.k from rfl, show (askF f).most = 18446744073709551615 from rfl, show (askF f).many = 300 from rfl]
  by_cases k0 : f.k = 0
  · simp only [if_pos k0]
    rcases numR_pre _ f.n (hm f.n) c t with h | ⟨h, e⟩
    · exact .inl (by rw [h])
    · exact .inr ⟨h, by rw [e]⟩
  simp only [if_neg k0]
  by_cases k1 : f.k = 1
  · simp only [if_pos k1, List.append_assoc, List.length_append]
    unfold numsOf
    rcases cntR_pre f.l 300 1 (by omega) rfl c (numsB f.l ++ t) with h | ⟨h, _, e⟩
    · exact .inl (by rw [h]; rfl)
    · rw [e]
      simp only [if_true]
      rcases numsR_pre f.l [] (c - (lenV f.l).length) t with h5 | ⟨h5, h6⟩
      · exact .inl (by rw [h5])
      · exact .inr ⟨by omega, by rw [h6, Nat.sub_sub]; rfl⟩
  simp only [if_neg k1]
  by_cases k2 : f.k = 2
  · simp only [if_pos k2, List.append_assoc, List.length_append]
    unfold bytesOf
    rcases cntR_pre f.b 300 1 h2 rfl c (f.b ++ t) with h | ⟨h, h5, e⟩
    · exact .inl (by rw [h]; rfl)
    · rw [e]
      simp only [if_true]
      rw [Nat.div_one, List.length_take] at h5
      have h6 : f.b.length ≤ c - (lenV f.b).length := by omega
      refine .inr ⟨by omega, ?_⟩
      simp only [pre, List.take_append, List.drop_append, List.drop_take, ← Nat.sub_sub]
      simp [List.take_of_length_le h6]
  simp only [if_neg k2]
  by_cases k3 : f.k = 3
  · simp only [if_pos k3]
    unfold sumOf
    by_cases hq : (pre c (f.s ++ t)).1.length < 32
    · exact .inl (by rw [if_pos hq])
    · rw [if_neg hq]
      simp only [pre, List.length_take, List.length_append] at hq
      have h6 : 32 ≤ c := by omega
      refine .inr ⟨by omega, ?_⟩
      have e1 : ((f.s ++ t).take c).take 32 = f.s := by
        rw [List.take_take, Nat.min_eq_left h6, List.take_append_of_le_length (by omega), List.take_of_length_le (by omega)]
      have e2 : ((f.s ++ t).take c).drop 32 = t.take (c - 32) := by
        rw [List.drop_take, ← h4, List.drop_left]
      simp only [pre, e1, e2, h4]
  simp only [if_neg k3, List.append_assoc, List.length_append]
  unfold rowOf
  rcases cntR_pre f.x 300 4 (by omega) rfl c (rowB f.x ++ t) with h | ⟨h, h5, e⟩
  · exact .inl (by rw [h]; rfl)
  · rw [e]
    simp only [if_true]
    have h6 : 4 * f.x.length ≤ c - (lenV f.x).length := by
      rw [List.length_take] at h5
      omega
    refine .inr ⟨by rw [rowB_length]; omega, ?_⟩
    simp only [pre, List.take_take, Nat.min_eq_left h6, fours_rowB, List.drop_take, rowB_length, ← Nat.sub_sub]
    rw [List.drop_append_of_le_length (by rw [rowB_length]; omega), List.drop_of_length_le (by rw [rowB_length]; omega), List.nil_append]
/-! ### All of it -/
theorem numR_all (most v : UInt64) (h : v ≤ most) (t : List UInt8) (b : Bool) : numR most (putV v ++ t, b) = (v, true, (t, b)) := by
  simp only [numR, getV_putV, if_pos h, List.drop_left]
theorem cntR_all {α : Type} (l : List α) (e : Nat) (hl : l.length ≤ 300) (t : List UInt8) (b : Bool) (ht : l.length ≤ t.length / e) : cntR 300 e (lenV l ++ t, b) = (l.length, true, (t, b)) := by
  have hle : UInt64.ofNat l.length ≤ manyU 300 := by
    rw [UInt64.le_iff_toNat_le, ofNat_toNat hl, show (manyU 300).toNat = 300 from rfl]
    omega
  unfold cntR lenV
  rw [numR_all _ _ hle t b]
  simp only [if_true, ofNat_toNat hl, if_pos ht]
theorem le_most (v : UInt64) : v ≤ (18446744073709551615 : UInt64) := by
  rw [UInt64.le_iff_toNat_le]
  have := v.toNat_lt
  show v.toNat ≤ 18446744073709551615
  omega
theorem numsR_all : ∀ (l acc : List UInt64) (t : List UInt8) (b : Bool), numsR (18446744073709551615 : UInt64) l.length acc (numsB l ++ t, b) = (acc ++ l, (t, b))
  | [], acc, t, b => by simp [numsB, numsR]
  | v :: l, acc, t, b => by
    have e : numsB (v :: l) ++ t = putV v ++ (numsB l ++ t) := by simp [numsB, List.append_assoc]
    rw [e, List.length_cons, numsR, numR_all _ v (le_most v)]
    simp only [if_true]
    rw [numsR_all l]
    simp
theorem numsB_length (l : List UInt64) : l.length ≤ (numsB l).length := by
  induction l with
  | nil => simp
  | cons v l ih =>
    have := (putV_length v).1
    simp only [numsB, List.flatMap_cons, List.length_append, List.length_cons] at ih ⊢
    omega
theorem takeF_all (f : Fd) (h1 : f.l.length ≤ 60) (h2 : f.b.length ≤ 300) (h3 : f.x.length ≤ 60) (h4 : f.s.length = 32) (t : List UInt8) (b : Bool) : takeF (askF f) (putF f ++ t, b) = (kindF f, (t, b)) := by
  unfold takeF putF kindF
  simp only [show (askF f).k = f.k from rfl, show (askF f).most = 18446744073709551615 from rfl, show (askF f).many = 300 from rfl]
  by_cases k0 : f.k = 0
  · simp only [if_pos k0, numR_all _ f.n (le_most f.n)]
  simp only [if_neg k0]
  by_cases k1 : f.k = 1
  · simp only [if_pos k1, List.append_assoc]
    unfold numsOf
    rw [cntR_all f.l 1 (by omega) _ b (by have := numsB_length f.l; simp; omega)]
    simp only [if_true, numsR_all]
    rfl
  simp only [if_neg k1]
  by_cases k2 : f.k = 2
  · simp only [if_pos k2, List.append_assoc]
    unfold bytesOf
    rw [cntR_all f.b 1 h2 _ b (by simp)]
    simp only [if_true, List.take_left, List.drop_left]
  simp only [if_neg k2]
  by_cases k3 : f.k = 3
  · simp only [if_pos k3]
    unfold sumOf
    rw [if_neg (by simp; omega)]
    simp only [← h4, List.take_left, List.drop_left]
  simp only [if_neg k3, List.append_assoc]
  unfold rowOf
  rw [cntR_all f.x 4 (by omega) _ b (by rw [List.length_append, rowB_length]; omega)]
  simp only [if_true, fours_rowB]
  rw [← rowB_length f.x, List.drop_left]
end Go.Proofs.YtiaeollemmkclaaDoor
