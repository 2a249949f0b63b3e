import Derived.Test.YtombphphaoeeiaaGreatDoorBase
/- What is not nought, modulo 2^61 - 1, has an inverse: its power by 2^61 - 3 (a generator, and a pigeonhole). No program in sight. -/
namespace Go.Proofs.YtombphphaoeeiaaGreatDoor.Prm
/-- A map of the numbers below n into themselves that tells them apart meets each. -/
theorem onto : ∀ (n : Nat) (f : Nat → Nat), (∀ i, i < n → f i < n) → (∀ i j, i < n → j < n → f i = f j → i = j) → ∀ y, y < n → ∃ i, i < n ∧ f i = y
  | 0, _, _, _, y, hy => absurd hy (Nat.not_lt_zero _)
  | n + 1, f, hf, hi, y, hy => by
    have key := onto n (fun i => if f i = n then f n else f i) (fun i h => by
        show (if f i = n then f n else f i) < n
        split
        · rename_i e
          have h1 := hf n (by omega)
          have h2 : f n ≠ n := fun e2 => by
            have := hi i n (by omega) (by omega) (e.trans e2.symm)
            omega
          omega
        · rename_i e
          have h1 := hf i (by omega)
          omega) (fun i j h1 h2 he => by
        have he : (if f i = n then f n else f i) = (if f j = n then f n else f j) := he
        have g1 : f i ≠ f n := fun e => by have := hi i n (by omega) (by omega) e; omega
        have g2 : f j ≠ f n := fun e => by have := hi j n (by omega) (by omega) e; omega
        split at he
        · rename_i e1
          split at he
          · rename_i e2
            exact hi i j (by omega) (by omega) (e1.trans e2.symm)
          · exact absurd he.symm g2
        · split at he
          · exact absurd he g1
          · exact hi i j (by omega) (by omega) he)
    by_cases ha : y = f n
    · exact ⟨n, by omega, ha.symm⟩
    · by_cases hn : f n = n
      · obtain ⟨i, h1, h2⟩ := key y (by omega)
        have h2 : (if f i = n then f n else f i) = y := h2
        split at h2
        · exact absurd h2.symm ha
        · exact ⟨i, by omega, h2⟩
      · have hfn := hf n (by omega)
        by_cases hyn : y = n
        · obtain ⟨i, h1, h2⟩ := key (f n) (by omega)
          have h2 : (if f i = n then f n else f i) = f n := h2
          split at h2
          · rename_i e
            exact ⟨i, by omega, e.trans hyn.symm⟩
          · have := hi i n (by omega) (by omega) h2
            omega
        · obtain ⟨i, h1, h2⟩ := key y (by omega)
          have h2 : (if f i = n then f n else f i) = y := h2
          split at h2
          · exact absurd h2.symm ha
          · exact ⟨i, by omega, h2⟩
def P : Nat := 2305843009213693951
/-- A power, by squares. -/
def pw (b : Nat) : Nat → Nat → Nat
  | 0, _ => 1 % P
  | k + 1, e => let h := pw b k (e / 2); if e % 2 = 1 then h * h % P * b % P else h * h % P
theorem pw_spec (b : Nat) : ∀ (k e : Nat), e < 2 ^ k → pw b k e = b ^ e % P
  | 0, e, h => by
    have : e = 0 := by simpa using h
    subst this; rfl
  | k + 1, e, h => by
    have ih := pw_spec b k (e / 2) (by rw [Nat.pow_succ] at h; omega)
    have hh : b ^ (e / 2 + e / 2) = b ^ (e / 2) * b ^ (e / 2) := Nat.pow_add ..
    unfold pw
    simp only
    rw [ih]
    by_cases ho : e % 2 = 1
    · rw [if_pos ho, ← Nat.mul_mod, ← hh]
      have e1 : b ^ e = b ^ (e / 2 + e / 2) * b := by rw [← Nat.pow_succ]; congr 1; omega
      rw [e1, Nat.mod_mul_mod]
    · rw [if_neg ho, ← Nat.mul_mod, ← hh]
      congr 2; omega
def qs : List Nat := [2, 3, 5, 7, 11, 13, 31, 41, 61, 151, 331, 1321]
theorem pm1 : P - 1 = 2 * (3 * (3 * (5 * (5 * (7 * (11 * (13 * (31 * (41 * (61 * (151 * (331 * 1321)))))))))))) := by decide +kernel
theorem g_one : 37 ^ (P - 1) % P = 1 := by rw [← pw_spec 37 61 (P - 1) (by decide +kernel)]; decide +kernel
theorem g_not : ∀ q ∈ qs, 37 ^ ((P - 1) / q) % P ≠ 1 := by
  intro q hq
  have hlt : (P - 1) / q < 2 ^ 61 := Nat.lt_of_le_of_lt (Nat.div_le_self _ _) (by decide +kernel)
  rw [← pw_spec 37 61 _ hlt]
  revert q
  decide +kernel
theorem small : ∀ q ∈ qs, ∀ d, d ≤ q → d ∣ q → d = 1 ∨ d = q := by
  have h : ∀ q ∈ qs, ∀ d ∈ List.range (q + 1), q % d = 0 → d = 1 ∨ d = q := by decide +kernel
  intro q hq d hd hdv
  exact h q hq d (List.mem_range.2 (by omega)) (Nat.mod_eq_zero_of_dvd hdv)
theorem cop {k q : Nat} (hq : q ∈ qs) (h : ¬ q ∣ k) : Nat.Coprime k q := by
  have h1 : Nat.gcd k q ∣ q := Nat.gcd_dvd_right _ _
  have hq0 : 0 < q := by
    have : ∀ q ∈ qs, 0 < q := by decide
    exact this q hq
  rcases small q hq _ (Nat.le_of_dvd hq0 h1) h1 with e | e
  · exact e
  · exact absurd (e ▸ Nat.gcd_dvd_left k q) h
theorem has_q {k : Nat} (hk : k ∣ P - 1) (h1 : k ≠ 1) : ∃ q ∈ qs, q ∣ k := by
  apply Classical.byContradiction
  intro hno
  have hc : ∀ q ∈ qs, Nat.Coprime k q := fun q hq => cop hq fun hd => hno ⟨q, hq, hd⟩
  have hall : Nat.Coprime k (P - 1) := by
    rw [pm1]
    have m := fun (q : Nat) (hq : q ∈ qs) (r : Nat) (hr : Nat.Coprime k r) => Nat.Coprime.mul_right (hc q hq) hr
    exact m 2 (by decide) _ (m 3 (by decide) _ (m 3 (by decide) _ (m 5 (by decide) _ (m 5 (by decide) _ (m 7 (by decide) _ (m 11 (by decide) _ (m 13 (by decide) _ (m 31 (by decide) _ (m 41 (by decide) _ (m 61 (by decide) _ (m 151 (by decide) _ (m 331 (by decide) _ (hc 1321 (by decide))))))))))))))
  have := Nat.Coprime.eq_one_of_dvd hall hk
  exact h1 this
/-- Powers that are one. -/
theorem one_mul (x a b : Nat) (h : x ^ a % P = 1) : x ^ (a * b) % P = 1 := by
  rw [Nat.pow_mul, Nat.pow_mod, h, Nat.one_pow]
  decide +kernel
theorem one_sub (x a b : Nat) (hab : b ≤ a) (ha : x ^ a % P = 1) (hb : x ^ b % P = 1) : x ^ (a - b) % P = 1 := by
  have e : x ^ a = x ^ (a - b) * x ^ b := by rw [← Nat.pow_add]; congr 1; omega
  rw [e, Nat.mul_mod, hb, Nat.mul_one, Nat.mod_mod] at ha
  exact ha
theorem one_gcd (x : Nat) (a b : Nat) (ha : x ^ a % P = 1) (hb : x ^ b % P = 1) : x ^ Nat.gcd a b % P = 1 := by
  induction a, b using Nat.gcd.induction with
  | H0 n => rw [Nat.gcd_zero_left]; exact hb
  | H1 m n h ih =>
    rw [Nat.gcd_rec]
    refine ih ?_ ha
    have h2 := one_mul x m (n / m) ha
    have h3 := one_sub x n (m * (n / m)) (Nat.mul_div_le ..) hb h2
    rwa [show n - m * (n / m) = n % m from by have := Nat.div_add_mod n m; omega] at h3
theorem g_order {d : Nat} (h : 37 ^ d % P = 1) (hd : 0 < d) : P - 1 ≤ d := by
  apply Classical.byContradiction
  intro hlt
  have h1 := one_gcd 37 d (P - 1) h g_one
  have hdv := Nat.gcd_dvd_right d (P - 1)
  have hle : Nat.gcd d (P - 1) ≤ d := Nat.le_of_dvd hd (Nat.gcd_dvd_left d (P - 1))
  obtain ⟨k, hk⟩ := hdv
  have hk1 : k ≠ 1 := fun e => by rw [e, Nat.mul_one] at hk; omega
  obtain ⟨q, hq, j, hj⟩ := has_q ⟨Nat.gcd d (P - 1), by rw [Nat.mul_comm]; exact hk⟩ hk1
  refine g_not q hq ?_
  have hq0 : 0 < q := by
    have : ∀ q ∈ qs, 0 < q := by decide
    exact this q hq
  have e : (P - 1) / q = Nat.gcd d (P - 1) * j := by
    conv => lhs; rw [hk, hj]
    rw [show Nat.gcd d (P - 1) * (q * j) = Nat.gcd d (P - 1) * j * q from by rw [Nat.mul_comm q j, Nat.mul_assoc]]
    exact Nat.mul_div_cancel _ hq0
  rw [e]
  exact one_mul 37 _ j h1
theorem g_inv (i : Nat) : ∃ j, 37 ^ i * 37 ^ j % P = 1 := by
  refine ⟨(P - 1) * (i + 1) - i, ?_⟩
  rw [← Nat.pow_add, show i + ((P - 1) * (i + 1) - i) = (P - 1) * (i + 1) from by have : i ≤ (P - 1) * (i + 1) := (by have : 1 * (i + 1) ≤ (P - 1) * (i + 1) := Nat.mul_le_mul_right _ (by decide +kernel); omega); omega]
  exact one_mul 37 _ _ g_one
theorem g_inj {a b : Nat} (hab : a ≤ b) (h : 37 ^ a % P = 37 ^ b % P) : 37 ^ (b - a) % P = 1 := by
  obtain ⟨j, hj⟩ := g_inv a
  have e : 37 ^ b = 37 ^ (b - a) * 37 ^ a := by rw [← Nat.pow_add]; congr 1; omega
  have h2 : 37 ^ b * 37 ^ j % P = 1 := by rw [Nat.mul_mod, ← h, ← Nat.mul_mod]; exact hj
  rw [e, Nat.mul_assoc, Nat.mul_mod, hj, Nat.mul_one, Nat.mod_mod] at h2
  exact h2
theorem g_all {x : Nat} (hx : x % P ≠ 0) : ∃ i, 37 ^ i % P = x % P := by
  have hP : 0 < P := by decide
  have hne : ∀ i, 37 ^ i % P ≠ 0 := fun i h => by
    obtain ⟨j, hj⟩ := g_inv i
    rw [Nat.mul_mod, h, Nat.zero_mul] at hj
    cases hj
  have key := onto (P - 1) (fun i => 37 ^ i % P - 1) (fun i _ => by
    have := Nat.mod_lt (37 ^ i) hP
    have := hne i
    show 37 ^ i % P - 1 < P - 1
    omega) (fun i j hi hj he => by
    have he : 37 ^ i % P - 1 = 37 ^ j % P - 1 := he
    have h1 := hne i
    have h2 := hne j
    have he : 37 ^ i % P = 37 ^ j % P := by omega
    apply Classical.byContradiction
    intro hij
    rcases Nat.lt_or_gt_of_ne hij with hl | hl
    · have := g_order (g_inj (Nat.le_of_lt hl) he) (by omega)
      omega
    · have := g_order (g_inj (Nat.le_of_lt hl) he.symm) (by omega)
      omega) (x % P - 1) (by have := Nat.mod_lt x hP; omega)
  obtain ⟨i, _, h⟩ := key
  have h : 37 ^ i % P - 1 = x % P - 1 := h
  have := hne i
  exact ⟨i, by omega⟩
/-- What is not nought has its power by 2^61 - 2 one. -/
theorem fermat {x : Nat} (hx : x % P ≠ 0) : x ^ (P - 1) % P = 1 := by
  obtain ⟨i, hi⟩ := g_all hx
  rw [Nat.pow_mod, ← hi, ← Nat.pow_mod, ← Nat.pow_mul, Nat.mul_comm]
  exact one_mul 37 _ _ g_one
theorem inv {x : Nat} (hx : x % P ≠ 0) : x * x ^ (P - 2) % P = 1 := by
  have := fermat hx
  rwa [show P - 1 = P - 2 + 1 from by decide, Nat.pow_succ, Nat.mul_comm] at this
/-! ### Curves in the field -/
abbrev Q := Fin 2305843009213693951
instance : NeZero 2305843009213693951 := ⟨by decide⟩
theorem q_ne {x : Q} (h : x ≠ 0) : x.val % P ≠ 0 := fun e => h (by
  apply Fin.ext
  have := x.isLt
  have e : x.val % 2305843009213693951 = 0 := e
  show x.val = 0
  omega)
/-- The inverse. -/
def ivq (x : Q) : Q := Fin.ofNat _ (x.val ^ (P - 2))
theorem ivq_mul {x : Q} (h : x ≠ 0) : x * ivq x = 1 := by
  apply Fin.ext
  have := inv (q_ne h)
  show x.val * (x.val ^ (P - 2) % 2305843009213693951) % 2305843009213693951 = 1
  rw [Nat.mul_mod, Nat.mod_mod, ← Nat.mul_mod]
  exact this
theorem mul_zero_q {x y : Q} (h : x * y = 0) : x = 0 ∨ y = 0 := by
  by_cases hx : x = 0
  · exact .inl hx
  · right
    have h1 := ivq_mul hx
    have : y = (x * ivq x) * y := by rw [h1]; grind
    have h3 : (x * ivq x) * y = ivq x * (x * y) := by grind
    rw [this, h3, h]; grind
theorem mul_ne_q {x y : Q} (hx : x ≠ 0) (hy : y ≠ 0) : x * y ≠ 0 := fun h => (mul_zero_q h).elim hx hy
/-- A curve's value at a place: the constant number first. -/
def ev : List Q → Q → Q
  | [], _ => 0
  | c :: l, x => c + x * ev l x
def dv : List Q → Q → List Q
  | [], _ => []
  | [_], _ => []
  | _ :: d :: l, a => ev (d :: l) a :: dv (d :: l) a
theorem dv_len (l : List Q) (a : Q) : (dv l a).length = l.length - 1 := by
  induction l with
  | nil => rfl
  | cons c l ih => cases l with
    | nil => rfl
    | cons d l => simp only [dv, List.length_cons] at ih ⊢; omega
theorem dv_ev (l : List Q) (a x : Q) : ev l x = ev l a + (x - a) * ev (dv l a) x := by
  induction l with
  | nil => simp only [ev, dv]; grind
  | cons c l ih => cases l with
    | nil => simp only [ev, dv]; grind
    | cons d l =>
      simp only [dv, ev] at ih ⊢
      grind
/-- As many roots as numbers: it is nought. -/
theorem roots : ∀ (xs : List Q) (l : List Q), l.length ≤ xs.length → xs.Nodup → (∀ x ∈ xs, ev l x = 0) → ∀ x, ev l x = 0
  | [], l, hl, _, _, x => by
    have : l = [] := List.length_eq_zero_iff.1 (by simpa using hl)
    subst this; rfl
  | a :: xs, l, hl, hn, hr, x => by
    have h0 := hr a (List.mem_cons_self ..)
    have ih := roots xs (dv l a) (by rw [dv_len]; simp only [List.length_cons] at hl; omega) (List.nodup_cons.1 hn).2 (fun b hb => by
      have h1 := hr b (List.mem_cons_of_mem _ hb)
      rw [dv_ev l a b, h0] at h1
      have h2 : (b - a) * ev (dv l a) b = 0 := by grind
      rcases mul_zero_q h2 with h | h
      · have : b = a := by grind
        exact absurd (this ▸ hb) (List.nodup_cons.1 hn).1
      · exact h)
    rw [dv_ev l a x, h0, ih x]
    grind
def IsP (n : Nat) (f : Q → Q) : Prop := ∃ l : List Q, l.length ≤ n ∧ ∀ x, f x = ev l x
def addL : List Q → List Q → List Q
  | [], m => m
  | l, [] => l
  | a :: l, b :: m => (a + b) :: addL l m
theorem addL_len : ∀ (l m : List Q) (n : Nat), l.length ≤ n → m.length ≤ n → (addL l m).length ≤ n
  | [], m, n, _, h => by simpa [addL] using h
  | a :: l, [], n, h, _ => by simpa [addL] using h
  | a :: l, b :: m, n, h1, h2 => by
    cases n with
    | zero => simp at h1
    | succ n =>
      have := addL_len l m n (by simpa using h1) (by simpa using h2)
      simp only [addL, List.length_cons]; omega
theorem addL_ev : ∀ (l m : List Q) (x : Q), ev (addL l m) x = ev l x + ev m x
  | [], m, x => by simp only [addL, ev]; grind
  | a :: l, [], x => by simp only [addL, ev]; grind
  | a :: l, b :: m, x => by
    have := addL_ev l m x
    simp only [addL, ev]
    grind
theorem IsP.add {n : Nat} {f g : Q → Q} (h1 : IsP n f) (h2 : IsP n g) : IsP n fun x => f x + g x := by
  obtain ⟨l, a1, a2⟩ := h1
  obtain ⟨m, b1, b2⟩ := h2
  exact ⟨addL l m, addL_len l m n a1 b1, fun x => by rw [addL_ev, ← a2, ← b2]⟩
theorem IsP.mono {n m : Nat} {f : Q → Q} (h : IsP n f) (hm : n ≤ m) : IsP m f := by
  obtain ⟨l, a1, a2⟩ := h
  exact ⟨l, by omega, a2⟩
theorem IsP.const (c : Q) : IsP 1 fun _ => c := ⟨[c], by simp, fun x => by simp only [ev]; grind⟩
theorem IsP.zero {n : Nat} {f : Q → Q} (h : IsP n f) (xs : List Q) (hl : n ≤ xs.length) (hn : xs.Nodup) (hr : ∀ x ∈ xs, f x = 0) (x : Q) : f x = 0 := by
  obtain ⟨l, a1, a2⟩ := h
  rw [a2]
  exact roots xs l (by omega) hn (fun y hy => by rw [← a2]; exact hr y hy) x
/-! ### Through points -/
section
variable (X : Nat → Q)
/-- The product over the first k places but one of the distances from a place. -/
def prq (i : Nat) (a : Q) : Nat → Q
  | 0 => 1
  | k + 1 => if k = i then prq i a k else prq i a k * (a - X k)
theorem prq_ne (i : Nat) (a : Q) : ∀ k, (∀ j, j < k → j ≠ i → a ≠ X j) → prq X i a k ≠ 0
  | 0, _ => by unfold prq; decide
  | k + 1, h => by
    have ih := prq_ne i a k fun j hj => h j (by omega)
    unfold prq
    split
    · exact ih
    · rename_i hk
      refine mul_ne_q ih fun e => h k (by omega) hk ?_
      grind
/-- What the value at a place is worth. -/
def wtq (n i : Nat) (a : Q) : Q := prq X i a n * ivq (prq X i (X i) n)
variable (Y : Nat → Q)
def lagq (n : Nat) (a : Q) : Nat → Q
  | 0 => 0
  | k + 1 => lagq n a k + Y k * wtq X n k a
variable {X}
end
end Go.Proofs.YtombphphaoeeiaaGreatDoor.Prm
