/- The law of hidden rows: whoever came, what hides them goes off. No program in sight. -/
import Derived.Test.YteiifdpikcnbgaaDoorBl1
namespace Go.Proofs.YteiifdpikcnbgaaDoor
open Go.RowKit
set_option linter.unusedSimpArgs false
/-- What a peer adds to the row of another one, at a place. -/
def tm (me : Int) (key : UInt64) (d j : Nat) (p : Pr) : UInt32 := if p.1 = me then 0 else if me < p.1 then ix (pairW p.2 key d) j else 0 - ix (pairW p.2 key d) j
theorem pairTo_sum (me : Int) (key : UInt64) (l : List Pr) (d j i : Nat) (hj : j < d) (hi : i ≤ l.length) : ix (pairTo me key l d i) j = sumL ((l.take i).map (tm me key d j)) := by
  induction i with
  | zero => rw [pairTo_zero, zeros_get]; rfl
  | succ i ih =>
    rw [take_ix _ _ hi, List.map_append, List.map_cons, List.map_nil, sumL_snoc, ← ih (by omega)]
    unfold tm
    by_cases e : (ix l i).1 = me
    · rw [pairTo_me _ _ _ _ _ e, if_pos e, UInt32.add_zero]
    · rw [if_neg e]
      by_cases h : me < (ix l i).1
      · rw [pairTo_lo _ _ _ _ _ e h, if_pos h, opTo_get _ _ _ _ _ hj]
      · rw [pairTo_hi _ _ _ _ _ e h, if_neg h, opTo_get _ _ _ _ _ hj, UInt32.zero_sub, ← UInt32.sub_eq_add_neg]
theorem pairTo_all (me : Int) (key : UInt64) (l : List Pr) (d j : Nat) (hj : j < d) : ix (pairTo me key l d l.length) j = sumL (l.map (tm me key d j)) := by
  rw [pairTo_sum _ _ _ _ _ _ hj (Nat.le_refl _), List.take_length]
theorem ocTo_sum (d : Nat) (f : Int → UInt64) (came : List Int) (j i : Nat) (hj : j < d) (hi : i ≤ came.length) : ix (ocTo d f came i) j = sumL ((came.take i).map fun n => ix (ownW (f n) d) j) := by
  induction i with
  | zero => rw [ocTo_zero, zeros_get]; rfl
  | succ i ih => rw [ocTo_succ, opTo_get _ _ _ _ _ hj, ih (by omega), take_ix _ _ hi, List.map_append, List.map_cons, List.map_nil, sumL_snoc]
theorem soTo_sum (d : Nat) (f : Int → UInt64) (came : List Int) (l : List Pr) (s : List UInt32) (j i : Nat) (hj : j < d) : ix (soTo d f came l s i) j = ix s j - sumN (fun m => if isIn came (ix l m).1 = true then 0 else ix (hidW came l d f m) j) i := by
  induction i with
  | zero => rw [soTo_zero]; simp only [sumN, UInt32.sub_zero]
  | succ i ih =>
    simp only [sumN]
    cases h : isIn came (ix l i).1
    · rw [soTo_out h, opTo_get _ _ _ _ _ hj, ih]
      simp only [Bool.false_eq_true, if_false]
      generalize ix s j = a
      generalize sumN _ i = b
      generalize ix (hidW came l d f i) j = c
      rw [UInt32.sub_eq_add_neg, UInt32.sub_eq_add_neg, UInt32.sub_eq_add_neg, UInt32.neg_add, UInt32.sub_eq_add_neg, UInt32.add_assoc]
    · rw [soTo_in h, ih]
      simp only [if_true, UInt32.add_zero]
/-! ### Numbers as lists -/
def findL (l : List Pr) (k : Int) : Option UInt64 := findTo l k l.length
def numL (l : List Pr) : List (Int × Sc) := numTo l l.length
theorem ix_snoc_lt {α : Type} [Inhabited α] (l : List α) (x : α) {i : Nat} (h : i < l.length) : ix (l ++ [x]) i = ix l i := by
  simp [ix, List.getD_eq_getElem?_getD, List.getElem?_append_left h]
theorem ix_snoc {α : Type} [Inhabited α] (l : List α) (x : α) : ix (l ++ [x]) l.length = x := by simp [ix, List.getD_eq_getElem?_getD]
theorem findTo_snoc (l : List Pr) (p : Pr) (k : Int) (i : Nat) (h : i ≤ l.length) : findTo (l ++ [p]) k i = findTo l k i := by
  induction i with
  | zero => rfl
  | succ i ih => simp only [findTo, ih (by omega), ix_snoc_lt l p (show i < l.length by omega)]
theorem findL_snoc (l : List Pr) (p : Pr) (k : Int) : findL (l ++ [p]) k = if p.1 = k then some p.2 else findL l k := by
  unfold findL
  rw [List.length_append, List.length_singleton]
  simp only [findTo, ix_snoc, findTo_snoc l p k _ (Nat.le_refl _)]
theorem numTo_snoc (l : List Pr) (p : Pr) (i : Nat) (h : i ≤ l.length) : numTo (l ++ [p]) i = numTo l i := by
  induction i with
  | zero => rfl
  | succ i ih => simp only [numTo, ih (by omega), ix_snoc_lt l p (show i < l.length by omega)]
theorem numL_snoc (l : List Pr) (p : Pr) : numL (l ++ [p]) = putI (numL l) p.1 (.a (.v (vU64 p.2))) := by
  unfold numL
  rw [List.length_append, List.length_singleton]
  simp only [numTo, ix_snoc, numTo_snoc l p _ (Nat.le_refl _)]
theorem numL_nil : numL [] = [] := rfl
theorem lookI_numL (l : List Pr) (k : Int) : lookI (numL l) k = (findL l k).map fun v => .a (.v (vU64 v)) := lookI_numTo l _ k
theorem numL_bnd (l : List Pr) (n : Nat) : mpBnd n (numL l) = True := numTo_bnd l _ n
theorem numL_ren (ρ : List Nat) (l : List Pr) : mpRen ρ (numL l) = numL l := numTo_ren ρ l _
/-! ### Clients at every third number -/
section
variable (key seed : Nat → UInt64) (c : Nat → Bool) (x : Nat → List UInt32)
def bP (i : Nat) : Pr := (3 * (i : Int), powU 3 (key i))
def bL (n : Nat) : List Pr := (List.range n).map (bP key)
def bC (n : Nat) : List Int := ((List.range n).filter c).map fun (i : Nat) => 3 * (i : Int)
def bS (n : Nat) : List Pr := ((List.range n).filter c).map fun (i : Nat) => (3 * (i : Int), seed i)
def bK (n : Nat) : List Pr := ((List.range n).filter fun i => !c i).map fun (i : Nat) => (3 * (i : Int), key i)
theorem bL_len (n : Nat) : (bL key n).length = n := by simp [bL]
theorem bL_ix {n i : Nat} (h : i < n) : ix (bL key n) i = bP key i := by simp [bL, ix, List.getD_eq_getElem?_getD, h]
theorem bL_succ (n : Nat) : bL key (n + 1) = bL key n ++ [bP key n] := by simp [bL, List.range_succ]
theorem bL_may {n : Nat} (h : n ≤ 20) : may (bL key n) = true := may_list fun i hi => by
  rw [bL_len] at hi
  rw [bL_ix _ hi]
  refine ⟨?_, by show 3 * (i : Int) < 64; omega, _, rfl⟩
  cases i with
  | zero => rw [lastP_zero]; show (-1 : Int) < 3 * 0; decide
  | succ i => rw [lastP_succ, bL_ix _ (by omega)]; show 3 * (i : Int) < 3 * ((i + 1 : Nat) : Int); omega
theorem fil_yes {n : Nat} (h : c n = true) : (List.range (n + 1)).filter c = (List.range n).filter c ++ [n] := by
  rw [List.range_succ, List.filter_append]; simp [List.filter, h]
theorem fil_no {n : Nat} (h : c n = false) : (List.range (n + 1)).filter c = (List.range n).filter c := by
  rw [List.range_succ, List.filter_append]; simp [List.filter, h]
theorem bC_yes {n : Nat} (h : c n = true) : bC c (n + 1) = bC c n ++ [3 * (n : Int)] := by unfold bC; rw [fil_yes c h, List.map_append]; rfl
theorem bC_no {n : Nat} (h : c n = false) : bC c (n + 1) = bC c n := by unfold bC; rw [fil_no c h]
theorem bS_yes {n : Nat} (h : c n = true) : bS seed c (n + 1) = bS seed c n ++ [(3 * (n : Int), seed n)] := by unfold bS; rw [fil_yes c h, List.map_append]; rfl
theorem bS_no {n : Nat} (h : c n = false) : bS seed c (n + 1) = bS seed c n := by unfold bS; rw [fil_no c h]
theorem bK_yes {n : Nat} (h : c n = true) : bK key c (n + 1) = bK key c n := by unfold bK; rw [fil_no _ (by simp [h])]
theorem bK_no {n : Nat} (h : c n = false) : bK key c (n + 1) = bK key c n ++ [(3 * (n : Int), key n)] := by unfold bK; rw [fil_yes _ (by simp [h]), List.map_append]; rfl
theorem bS_find (n i : Nat) : findL (bS seed c n) (3 * (i : Int)) = if i < n ∧ c i = true then some (seed i) else none := by
  induction n with
  | zero => rw [if_neg (by omega)]; rfl
  | succ n ih =>
    cases h : c n
    · rw [bS_no seed c h, ih]
      by_cases hi : i = n
      · subst hi; rw [if_neg (by omega), if_neg (by rw [h]; simp)]
      · by_cases h2 : i < n ∧ c i = true
        · rw [if_pos h2, if_pos ⟨by omega, h2.2⟩]
        · rw [if_neg h2, if_neg (fun h3 => h2 ⟨by omega, h3.2⟩)]
    · rw [bS_yes seed c h, findL_snoc]
      by_cases hi : i = n
      · subst hi; rw [if_pos rfl, if_pos ⟨by omega, h⟩]
      · rw [if_neg (by omega), ih]
        by_cases h2 : i < n ∧ c i = true
        · rw [if_pos h2, if_pos ⟨by omega, h2.2⟩]
        · rw [if_neg h2, if_neg (fun h3 => h2 ⟨by omega, h3.2⟩)]
theorem bK_find (n i : Nat) : findL (bK key c n) (3 * (i : Int)) = if i < n ∧ c i = false then some (key i) else none := by
  have := bS_find key (fun i => !c i) n i
  simp only [Bool.not_eq_true'] at this
  exact this
theorem bC_in (n i : Nat) (h : i < n) : isIn (bC c n) (3 * (i : Int)) = c i := by
  have : isIn (bC c n) (3 * (i : Int)) = true ↔ c i = true := by
    rw [isIn_iff]
    unfold bC
    rw [List.mem_map]
    constructor
    · rintro ⟨m, hm, e⟩
      obtain rfl : m = i := by omega
      exact (List.mem_filter.1 hm).2
    · intro hc
      exact ⟨i, List.mem_filter.2 ⟨List.mem_range.2 h, hc⟩, rfl⟩
  cases h1 : c i
  · cases h2 : isIn (bC c n) (3 * (i : Int))
    · rfl
    · exact (by simpa [h1] using this.1 h2 : False).elim
  · rw [this]; exact h1
theorem bC_rise (n : Nat) : ∀ i, i < (bC c n).length → lastI (bC c n) i < ix (bC c n) i := by
  have hp : (bC c n).Pairwise (· < ·) := by
    unfold bC
    rw [List.pairwise_map]
    refine List.Pairwise.imp (fun {a b} (h : a < b) => by omega) ((List.pairwise_lt_range).filter c)
  have h0 : ∀ y ∈ bC c n, (0 : Int) ≤ y := by
    intro y hy
    obtain ⟨m, _, rfl⟩ := List.mem_map.1 hy
    omega
  intro i hi
  cases i with
  | zero => have := h0 _ (ix_mem hi); rw [lastI_zero]; omega
  | succ i =>
    rw [lastI_succ]
    have := List.pairwise_iff_getElem.1 hp i (i + 1) (by omega) hi (by omega)
    simpa only [ix, List.getD_eq_getElem?_getD, List.getElem?_eq_getElem (show i < (bC c n).length by omega), List.getElem?_eq_getElem hi, Option.getD_some] using this
theorem bC_among (n : Nat) : among (bC c n) (bL key n) = true := among_iff.2 fun i hi => by
  unfold amGood
  rw [decide_eq_true (bC_rise c n i hi), Bool.true_and]
  obtain ⟨m, hm, e⟩ := List.mem_map.1 (ix_mem hi)
  have hm := List.mem_range.1 (List.mem_filter.1 hm).1
  exact hasId_iff.2 ⟨m, by rw [bL_len]; exact hm, by rw [bL_ix _ hm]; exact e⟩
theorem b_given (n : Nat) : given (bC c n) (bL key n) (findL (bS seed c n)) (findL (bK key c n)) = true := given_iff.2 fun i hi => by
  rw [bL_len] at hi
  unfold gvGood
  rw [bL_ix _ hi]
  show (if isIn (bC c n) (3 * (i : Int)) = true then (findL (bS seed c n) (3 * (i : Int))).isSome else (findL (bK key c n) (3 * (i : Int))).isSome) = true
  rw [bC_in c n i hi, bS_find, bK_find]
  cases h : c i <;> simp [hi]
def bO (n : Nat) : List UInt32 := opnVal (bC c n) (bL key n) (findL (bS seed c n)) (findL (bK key c n)) 4
theorem b_out {n : Nat} (h : n ≤ 20) : opnOut (bC c n) (bL key n) (findL (bS seed c n)) (findL (bK key c n)) 4 = bO key seed c n := opnOut_yes (opnNum_yes (by decide) (bL_may key h) (bC_among key c n) (b_given key seed c n))
theorem b_num {n : Nat} (h : n ≤ 20) : opnNum (bC c n) (bL key n) (findL (bS seed c n)) (findL (bK key c n)) 4 = 0 := opnNum_yes (by decide) (bL_may key h) (bC_among key c n) (b_given key seed c n)
def bR (n i : Nat) : List UInt32 := sumR 4 [x i, ownW (seed i) 4, prOut (3 * (i : Int)) (key i) (bL key n) 4] 3
theorem bR_length (n i : Nat) : (bR key seed x n i).length = 4 := sumR_length _ _ _
theorem bR_ok {n i : Nat} (h : n ≤ 20) (hi : i < n) : prOk (3 * (i : Int)) (bL key n) 4 = true := by
  have := found_mem (ix_mem (l := bL key n) (i := i) (by rw [bL_len]; exact hi))
  rw [bL_ix _ hi] at this
  exact prOk_of (n := 4) (bL_may key h) (by omega) this
/-- What m adds to i's row, at a place. -/
def bA (j i m : Nat) : UInt32 := tm (3 * (i : Int)) (key i) 4 j (bP key m)
theorem bA_self (j i : Nat) : bA key j i i = 0 := if_pos rfl
theorem bA_anti (j i m : Nat) : bA key j i m + bA key j m i = 0 := by
  unfold bA tm bP
  rcases Nat.lt_trichotomy i m with h | h | h
  · rw [if_neg (by show ¬ 3 * (m : Int) = 3 * i; omega), if_pos (by show 3 * (i : Int) < 3 * m; omega), if_neg (by show ¬ 3 * (i : Int) = 3 * m; omega), if_neg (by show ¬ 3 * (m : Int) < 3 * i; omega)]
    show ix (pairW (powU 3 (key m)) (key i) 4) j + (0 - ix (pairW (powU 3 (key i)) (key m) 4) j) = 0
    rw [pairW_comm, UInt32.zero_sub, UInt32.add_right_neg]
  · subst h; simp
  · rw [if_neg (by show ¬ 3 * (m : Int) = 3 * i; omega), if_neg (by show ¬ 3 * (i : Int) < 3 * m; omega), if_neg (by show ¬ 3 * (i : Int) = 3 * m; omega), if_pos (by show 3 * (m : Int) < 3 * i; omega)]
    show 0 - ix (pairW (powU 3 (key m)) (key i) 4) j + ix (pairW (powU 3 (key i)) (key m) 4) j = 0
    rw [pairW_comm, UInt32.zero_sub, UInt32.add_left_neg]
theorem bR_get {n i j : Nat} (h : n ≤ 20) (hi : i < n) (hj : j < 4) : ix (bR key seed x n i) j = ix (x i) j + (ix (ownW (seed i) 4) j + sumN (bA key j i) n) := by
  unfold bR
  have h3 := sumR_all 4 [x i, ownW (seed i) 4, prOut (3 * (i : Int)) (key i) (bL key n) 4] j hj
  have h4 : ix (prOut (3 * (i : Int)) (key i) (bL key n) 4) j = sumN (bA key j i) n := by
    have e := prTo_eq (key := key i) (n := 4) (bR_ok key h hi)
    have e : prOut (3 * (i : Int)) (key i) (bL key n) 4 = _ := e
    rw [e, pairTo_all _ _ _ _ _ hj]
    unfold bL
    rw [List.map_map, sumL_range]
    rfl
  have h5 : ([x i, ownW (seed i) 4, prOut (3 * (i : Int)) (key i) (bL key n) 4] : List (List UInt32)).length = 3 := rfl
  rw [h5] at h3
  rw [h3]
  show 0 + ix (x i) j + ix (ownW (seed i) 4) j + ix (prOut (3 * (i : Int)) (key i) (bL key n) 4) j = _
  rw [h4, UInt32.zero_add, UInt32.add_assoc]
theorem bH_get {n i j : Nat} (hi : i < n) (hj : j < 4) (hc : c i = false) : ix (hidW (bC c n) (bL key n) 4 (fd (findL (bK key c n))) i) j = sumN (fun m => if c m = true then bA key j i m else 0) n := by
  unfold hidW
  rw [bL_ix _ hi]
  have hf : fd (findL (bK key c n)) (bP key i).1 = key i := fd_some (by
    show findL (bK key c n) (3 * (i : Int)) = _
    rw [bK_find, if_pos ⟨hi, hc⟩])
  rw [hf, pairTo_all _ _ _ _ _ hj]
  unfold withL bL
  rw [List.filter_map, List.map_map]
  show sumL ((List.filter (withB (bC c n) (bP key i) ∘ bP key) (List.range n)).map fun m => bA key j i m) = _
  rw [sumL_filter]
  refine sumN_congr fun m hm => ?_
  show (if (decide (bP key m = bP key i) || isIn (bC c n) (3 * (m : Int))) = true then bA key j i m else 0) = _
  rw [bC_in c n m hm]
  cases h : c m
  · by_cases e : m = i
    · subst e; rw [bA_self]; simp
    · have : ¬ bP key m = bP key i := fun h => e (by have := congrArg Prod.fst h; have : 3 * (m : Int) = 3 * (i : Int) := this; omega)
      simp [this]
  · simp
theorem u32_last (a o r h : UInt32) (e : r + h = 0) : a + (o + r) - (o - h) = a := by
  have : a + (o + r) - (o - h) = a + (r + h) := by grind
  rw [this, e, UInt32.add_zero]
/-- The theorem: the sum of the rows of those that came, less what hides it, is the sum of what they had. -/
theorem blind_law {n : Nat} (h : n ≤ 20) : opTo (· - ·) (sumR 4 (((List.range n).filter c).map (bR key seed x n)) (((List.range n).filter c).map (bR key seed x n)).length) (bO key seed c n) 4 = sumR 4 (((List.range n).filter c).map x) (((List.range n).filter c).map x).length := by
  apply ext_ix
  · rw [opTo_length, sumR_length]
  · intro j hj
    rw [opTo_length] at hj
    rw [opTo_get _ _ _ _ _ hj, sumR_all _ _ _ hj, sumR_all _ _ _ hj, List.map_map, List.map_map, sumL_filter, sumL_filter]
    unfold bO opnVal
    rw [soTo_sum _ _ _ _ _ _ _ hj, ocTo_sum _ _ _ _ _ hj (Nat.le_refl _), List.take_length]
    have e1 : sumL ((bC c n).map fun k => ix (ownW (fd (findL (bS seed c n)) k) 4) j) = sumN (fun i => if c i = true then ix (ownW (seed i) 4) j else 0) n := by
      unfold bC
      rw [List.map_map, sumL_filter]
      refine sumN_congr fun i hi => ?_
      cases hc : c i
      · simp only [Bool.false_eq_true, if_false]
      · simp only [Function.comp, if_true]
        rw [fd_some (v := seed i) (by rw [bS_find, if_pos ⟨hi, hc⟩])]
    have e2 : sumN (fun m => if isIn (bC c n) (ix (bL key n) m).1 = true then 0 else ix (hidW (bC c n) (bL key n) 4 (fd (findL (bK key c n))) m) j) (bL key n).length = sumN (fun i => if c i = true then 0 else sumN (fun m => if c m = true then bA key j i m else 0) n) n := by
      rw [bL_len]
      refine sumN_congr fun i hi => ?_
      rw [bL_ix _ hi]
      show (if isIn (bC c n) (3 * (i : Int)) = true then _ else _) = _
      rw [bC_in c n i hi]
      cases hc : c i
      · simp only [Bool.false_eq_true, if_false]
        exact bH_get key c hi hj hc
      · rfl
    have e3 : sumN (fun i => if c i = true then ((fun r => ix r j) ∘ bR key seed x n) i else 0) n = sumN (fun i => if c i = true then ((fun r => ix r j) ∘ x) i else 0) n + (sumN (fun i => if c i = true then ix (ownW (seed i) 4) j else 0) n + sumN (fun i => if c i = true then sumN (bA key j i) n else 0) n) := by
      rw [← sumN_add, ← sumN_add]
      refine sumN_congr fun i hi => ?_
      cases hc : c i
      · simp
      · simp only [if_true, Function.comp]
        exact bR_get key seed x h hi hj
    rw [e1, e2, e3]
    refine u32_last _ _ _ _ ?_
    rw [← sumN_add]
    refine Eq.trans (sumN_congr (g := fun i => sumN (fun m => if c i = true then bA key j i m else if c m = true then bA key j i m else 0) n) fun i hi => ?_) (sumN_anti (fun i m => if c i = true then bA key j i m else if c m = true then bA key j i m else 0) n ?_ ?_)
    · cases hc : c i
      · simp only [Bool.false_eq_true, if_false, UInt32.zero_add]
      · simp only [if_true, UInt32.add_zero]
    · intro i m _ _
      have := bA_anti key j i m
      cases h1 : c i <;> cases h2 : c m <;> simp [this]
    · intro i _
      rw [bA_self]
      cases c i <;> rfl
end
end Go.Proofs.YteiifdpikcnbgaaDoor
