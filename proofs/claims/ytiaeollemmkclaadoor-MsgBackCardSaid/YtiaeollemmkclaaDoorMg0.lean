import Derived.Test.YtiaeollemmkclaaDoorPk0
import Derived.Test.YtiaeollemmkclaaDoorSetA
import Derived.Test.YtiaeollemmkclaaDoorPc
/- The plain law of layer 16: messages, their forms, as bytes, of bytes. No program in sight. -/
namespace Go.Proofs.YtiaeollemmkclaaDoor
/-! ### What is said -/
structure MgS where
  k : UInt8
  pl : Int
  ot : Int
  cl : Int
  ge : Int
  nu : UInt64
  sm : List UInt8
  ids : List Int
  ns : List UInt64
  ps : List Pr
  xs : List UInt32
  re : Int
deriving DecidableEq
def zeroM : MgS := ⟨0, 0, 0, 0, 0, 0, List.replicate 32 0, [], [], [], [], 0⟩
instance : Inhabited MgS := ⟨zeroM⟩
/-- A kind's name, and its form. -/
def kindM (k : UInt8) : List UInt8 × List UInt8 :=
  if k = 1 then ([106, 111, 105, 110], [99, 103, 110, 115]) else if k = 2 then ([114, 111, 115, 116, 101, 114], [103, 112])
  else if k = 3 then ([98, 111, 120], [99, 103, 118]) else if k = 4 then ([98, 111, 120, 101, 115], [103, 105, 118])
  else if k = 5 then ([109, 97, 115, 107, 101, 100], [99, 103, 120]) else if k = 6 then ([112, 97, 114, 116, 105, 97, 108], [97, 103, 105, 120, 112, 118])
  else if k = 7 then ([116, 97, 107, 101, 110], [97, 103]) else if k = 8 then ([97, 115, 107], [97, 103, 105])
  else if k = 9 then ([103, 105, 118, 101], [99, 103, 118]) else if k = 10 then ([103, 105, 118, 101, 110], [97, 99, 103, 118])
  else if k = 11 then ([97, 98, 111, 114, 116], [114]) else if k = 12 then ([100, 111, 110, 101], [105, 120])
  else if k = 13 then ([112, 105, 110, 103], [97, 103]) else if k = 14 then ([112, 111, 110, 103], [97, 103])
  else if k = 15 then ([115, 116, 101, 112], [97, 103]) else if k = 16 then ([109, 111, 118, 101], [97, 111, 103])
  else if k = 17 then ([108, 111, 115, 116], [103, 105]) else if k = 18 then ([108, 97, 116, 101], [99, 103])
  else if k = 19 then ([113, 117, 105, 116], [114]) else ([], [])
def formL (k : UInt8) : List UInt8 := (kindM k).2
def wiM (n most : Int) : Bool := decide (0 ≤ n ∧ n ≤ most)
def pm1 : UInt64 := 2305843009213693950
def mayF (m : MgS) (c : UInt8) : Bool :=
  if c = 97 then wiM m.pl 15 else if c = 111 then wiM m.ot 15 else if c = 99 then wiM m.cl 63 else if c = 103 then wiM m.ge 1073741824
  else if c = 110 then decide (m.nu ≤ pm1) else if c = 115 then true else if c = 105 then chkS (-1) m.ids
  else if c = 118 then decide (m.ns.length ≤ 128) && !(m.ns.any fun v => decide (pm1 < v)) else if c = 112 then may m.ps
  else if c = 120 then decide (m.xs.length ≤ 32) else if c = 114 then wiM m.re 255 else false
def withoutF (m : MgS) (c : UInt8) : MgS :=
  if c = 97 then { m with pl := 0 } else if c = 111 then { m with ot := 0 } else if c = 99 then { m with cl := 0 } else if c = 103 then { m with ge := 0 }
  else if c = 110 then { m with nu := 0 } else if c = 115 then { m with sm := List.replicate 32 0 } else if c = 105 then { m with ids := [] }
  else if c = 118 then { m with ns := [] } else if c = 112 then { m with ps := [] } else if c = 120 then { m with xs := [] } else if c = 114 then { m with re := 0 } else m
def chkGo (m : MgS) : List UInt8 → MgS → Bool
  | [], r => decide (r = zeroM)
  | c :: f, r => if mayF m c = true then chkGo m f (withoutF r c) else false
def chkM (m : MgS) : Bool := if formL m.k = [] then false else chkGo m (formL m.k) { m with k := 0 }
/-! As bytes. -/
def numsI (l : List Int) : List UInt64 := l.map UInt64.ofInt
def intsU (l : List UInt64) : List Int := l.map fun v => (v.toNat : Int)
/-- What is written of a field: blocks, the first one first. -/
def blkF (m : MgS) (c : UInt8) : List (List UInt8) :=
  if c = 97 then [putV (UInt64.ofInt m.pl)] else if c = 111 then [putV (UInt64.ofInt m.ot)] else if c = 99 then [putV (UInt64.ofInt m.cl)] else if c = 103 then [putV (UInt64.ofInt m.ge)]
  else if c = 110 then [putV m.nu] else if c = 115 then [m.sm] else if c = 105 then [lenV (numsI m.ids) ++ numsB (numsI m.ids)]
  else if c = 118 then [lenV m.ns ++ numsB m.ns] else if c = 112 then [lenV (numsI (m.ps.map (·.1))) ++ numsB (numsI (m.ps.map (·.1))), lenV (m.ps.map (·.2)) ++ numsB (m.ps.map (·.2))]
  else if c = 120 then [lenV m.xs ++ rowB m.xs] else if c = 114 then [putV (UInt64.ofInt m.re)] else []
def fbM (m : MgS) (c : UInt8) : List UInt8 := (blkF m c).flatten
def encM (m : MgS) : List UInt8 := putV m.k.toUInt64 ++ (formL m.k).flatMap (fbM m)
/-! Of bytes. -/
def stepM (c : UInt8) (st : Rs) (m : MgS) : Option (MgS × Rs) :=
  if c = 97 then some ({ m with pl := ((numR 15 st).1.toNat : Int) }, (numR 15 st).2.2)
  else if c = 111 then some ({ m with ot := ((numR 15 st).1.toNat : Int) }, (numR 15 st).2.2)
  else if c = 99 then some ({ m with cl := ((numR 63 st).1.toNat : Int) }, (numR 63 st).2.2)
  else if c = 103 then some ({ m with ge := ((numR 1073741824 st).1.toNat : Int) }, (numR 1073741824 st).2.2)
  else if c = 110 then some ({ m with nu := (numR pm1 st).1 }, (numR pm1 st).2.2)
  else if c = 115 then some ({ m with sm := (sumOf st).1 }, (sumOf st).2)
  else if c = 105 then some ({ m with ids := intsU (numsOf 64 63 st).1 }, (numsOf 64 63 st).2)
  else if c = 118 then some ({ m with ns := (numsOf 128 pm1 st).1 }, (numsOf 128 pm1 st).2)
  else if c = 112 then (if (numsOf 64 63 st).1.length = (numsOf 64 pm1 (numsOf 64 63 st).2).1.length then some ({ m with ps := m.ps ++ (intsU (numsOf 64 63 st).1).zip (numsOf 64 pm1 (numsOf 64 63 st).2).1 }, (numsOf 64 pm1 (numsOf 64 63 st).2).2) else none)
  else if c = 120 then some ({ m with xs := (rowOf 32 st).1 }, (rowOf 32 st).2)
  else if c = 114 then some ({ m with re := ((numR 255 st).1.toNat : Int) }, (numR 255 st).2.2) else some (m, st)
def decGo : List UInt8 → MgS → Rs → Option (MgS × Rs)
  | [], m, st => some (m, st)
  | c :: f, m, st => match stepM c st m with
    | none => none
    | some (m', st') => decGo f m' st'
def endD : Option (MgS × Rs) → Option MgS
  | none => none
  | some (m, st) => if st = ([], false) ∧ chkM m = true then some m else none
def decM (b : List UInt8) : Option MgS := endD (decGo (formL (numR 255 (b, false)).1.toUInt8) { zeroM with k := (numR 255 (b, false)).1.toUInt8 } (numR 255 (b, false)).2.2)
/-! ### What was written is read -/
theorem many_le {n many : Nat} (h : n ≤ many) (hm : many ≤ 300) : UInt64.ofNat n ≤ manyU (many : Int) ∧ (UInt64.ofNat n).toNat = n := by
  have e : (UInt64.ofNat n).toNat = n := ofNat_toNat (by omega)
  refine ⟨?_, e⟩
  rw [UInt64.le_iff_toNat_le, e]
  unfold manyU
  rw [show (max (many : Int) 0).toNat = many by omega, ofNat_toNat hm]
  exact h
theorem cnt_all {α : Type} (l : List α) (many e : Nat) (hl : l.length ≤ many) (hm : many ≤ 300) (t : List UInt8) (b : Bool) (ht : l.length ≤ t.length / e) : cntR many e (lenV l ++ t, b) = (l.length, true, (t, b)) := by
  obtain ⟨hle, hn⟩ := many_le hl hm
  unfold cntR lenV
  rw [numR_all _ _ hle t b]
  simp only [if_true, hn, if_pos ht]
theorem cnt_pre {α : Type} (l : List α) (many e : Nat) (hl : l.length ≤ many) (hm : many ≤ 300) (c : Nat) (t : List UInt8) : cntR many e (pre c (lenV l ++ t)) = (0, false, badR) ∨ ((lenV l).length ≤ c ∧ l.length ≤ (t.take (c - (lenV l).length)).length / e ∧ cntR many e (pre c (lenV l ++ t)) = (l.length, true, pre (c - (lenV l).length) t)) := by
  obtain ⟨hle, hn⟩ := many_le hl hm
  rcases numR_pre (manyU many) _ hle c t with h | ⟨h1, h⟩
  · exact .inl (by unfold cntR lenV; rw [h]; rfl)
  · unfold cntR lenV
    rw [h]
    simp only [if_true, hn]
    by_cases hq : l.length ≤ (pre (c - (putV (UInt64.ofNat l.length)).length) t).1.length / e
    · rw [if_pos hq]
      exact .inr ⟨h1, hq, rfl⟩
    · rw [if_neg hq]
      exact .inl rfl
theorem nums_all (most : UInt64) : ∀ (l acc : List UInt64) (t : List UInt8) (b : Bool), (∀ v ∈ l, v ≤ most) → numsR most l.length acc (numsB l ++ t, b) = (acc ++ l, (t, b))
  | [], acc, t, b, _ => by simp [numsB, numsR]
  | v :: l, acc, t, b, h => by
    have e : numsB (v :: l) ++ t = putV v ++ (numsB l ++ t) := by simp [numsB, List.append_assoc]
    rw [e, List.length_cons, numsR, numR_all _ v (h v (List.mem_cons_self ..))]
    simp only [if_true]
    rw [nums_all most l _ _ _ fun x hx => h x (List.mem_cons_of_mem _ hx)]
    simp
theorem nums_pre (most : UInt64) : ∀ (l acc : List UInt64) (c : Nat) (t : List UInt8), (∀ v ∈ l, v ≤ most) → numsR most l.length acc (pre c (numsB l ++ t)) = ([], badR) ∨ ((numsB l).length ≤ c ∧ numsR most l.length acc (pre c (numsB l ++ t)) = (acc ++ l, pre (c - (numsB l).length) t))
  | [], acc, c, t, _ => .inr ⟨by simp [numsB], by simp [numsB, numsR]⟩
  | v :: l, acc, c, t, h => by
    have e : numsB (v :: l) ++ t = putV v ++ (numsB l ++ t) := by simp [numsB, List.append_assoc]
    have el : (numsB (v :: l)).length = (putV v).length + (numsB l).length := by simp [numsB]
    rw [e, el, List.length_cons, numsR]
    rcases numR_pre most v (h v (List.mem_cons_self ..)) c (numsB l ++ t) with h' | ⟨h1, h'⟩
    · exact .inl (by rw [h']; rfl)
    · rw [h']
      simp only [if_true]
      rcases nums_pre most l (acc ++ [v]) (c - (putV v).length) t fun x hx => h x (List.mem_cons_of_mem _ hx) with h2 | ⟨h2, h3⟩
      · exact .inl h2
      · refine .inr ⟨by omega, ?_⟩
        rw [h3]
        simp [Nat.sub_sub]
theorem numsOf_all (l : List UInt64) (many : Nat) (most : UInt64) (hl : l.length ≤ many) (hm : many ≤ 300) (hv : ∀ v ∈ l, v ≤ most) (t : List UInt8) (b : Bool) : numsOf many most ((lenV l ++ numsB l) ++ t, b) = (l, (t, b)) := by
  rw [List.append_assoc]
  unfold numsOf
  rw [cnt_all l many 1 hl hm _ b (by have := numsB_length l; rw [List.length_append, Nat.div_one]; omega)]
  simp only [if_true, nums_all most l _ _ _ hv]
  rfl
theorem numsOf_pre (l : List UInt64) (many : Nat) (most : UInt64) (hl : l.length ≤ many) (hm : many ≤ 300) (hv : ∀ v ∈ l, v ≤ most) (c : Nat) (t : List UInt8) (hc : c < (lenV l ++ numsB l).length) : numsOf many most (pre c ((lenV l ++ numsB l) ++ t)) = ([], badR) := by
  rw [List.append_assoc]
  rw [List.length_append] at hc
  unfold numsOf
  rcases cnt_pre l many 1 hl hm c (numsB l ++ t) with h | ⟨h, _, e⟩
  · rw [h]; rfl
  · rw [e]
    simp only [if_true]
    rcases nums_pre most l [] (c - (lenV l).length) t hv with h5 | ⟨h5, _⟩
    · exact h5
    · omega
theorem rowOf_all (x : List UInt32) (many : Nat) (hl : x.length ≤ many) (hm : many ≤ 300) (t : List UInt8) (b : Bool) : rowOf many ((lenV x ++ rowB x) ++ t, b) = (x, (t, b)) := by
  rw [List.append_assoc]
  unfold rowOf
  rw [cnt_all x many 4 hl hm _ b (by rw [List.length_append, rowB_length]; omega)]
  simp only [if_true, fours_rowB]
  rw [← rowB_length x, List.drop_left]
theorem rowOf_pre (x : List UInt32) (many : Nat) (hl : x.length ≤ many) (hm : many ≤ 300) (c : Nat) (t : List UInt8) (hc : c < (lenV x ++ rowB x).length) : rowOf many (pre c ((lenV x ++ rowB x) ++ t)) = ([], badR) := by
  rw [List.append_assoc]
  rw [List.length_append, rowB_length] at hc
  unfold rowOf
  rcases cnt_pre x many 4 hl hm c (rowB x ++ t) with h | ⟨h, h5, e⟩
  · rw [h]; rfl
  · rw [List.length_take] at h5
    omega
theorem numR_short (most v : UInt64) (h : v ≤ most) (c : Nat) (t : List UInt8) (hc : c < (putV v).length) : numR most (pre c (putV v ++ t)) = (0, false, badR) := by
  rcases numR_pre most v h c t with h | ⟨h1, _⟩
  · exact h
  · omega
/-- A field copied. -/
def copyF (m' : MgS) (c : UInt8) (m : MgS) : MgS :=
  if c = 97 then { m' with pl := m.pl } else if c = 111 then { m' with ot := m.ot } else if c = 99 then { m' with cl := m.cl } else if c = 103 then { m' with ge := m.ge }
  else if c = 110 then { m' with nu := m.nu } else if c = 115 then { m' with sm := m.sm } else if c = 105 then { m' with ids := m.ids }
  else if c = 118 then { m' with ns := m.ns } else if c = 112 then { m' with ps := m'.ps ++ m.ps } else if c = 120 then { m' with xs := m.xs } else if c = 114 then { m' with re := m.re } else m'
theorem wiM_int {n most : Int} (h : wiM n most = true) (hm : most ≤ 1073741824) : UInt64.ofInt n ≤ UInt64.ofNat most.toNat ∧ ((UInt64.ofInt n).toNat : Int) = n := by
  have h := of_decide_eq_true h
  have e : UInt64.ofInt n = UInt64.ofNat n.toNat := by
    rw [show n = ((n.toNat : Nat) : Int) by omega, Int.toNat_natCast]
    exact UInt64.toNat_inj.1 (by
      rw [UInt64.toNat_ofNat']
      show (Int.toNat (_ % 2 ^ 64)) % 2 ^ 64 = _
      omega)
  have e2 : (UInt64.ofNat n.toNat).toNat = n.toNat := by rw [UInt64.toNat_ofNat']; omega
  rw [e, UInt64.le_iff_toNat_le, e2, UInt64.toNat_ofNat']
  exact ⟨by omega, by omega⟩
theorem ofInt_toNat {n : Int} (h : 0 ≤ n) (h2 : n ≤ 1073741824) : ((UInt64.ofInt n).toNat : Int) = n := (wiM_int (n := n) (most := 1073741824) (decide_eq_true ⟨h, h2⟩) (Int.le_refl _)).2
theorem intsU_numsI {l : List Int} (h : ∀ x ∈ l, 0 ≤ x ∧ x < 64) : intsU (numsI l) = l ∧ ∀ v ∈ numsI l, v ≤ (63 : UInt64) := by
  unfold intsU numsI
  constructor
  · rw [List.map_map]
    exact (List.map_congr_left fun x hx => ofInt_toNat (h x hx).1 (by have := h x hx; omega)).trans (List.map_id l)
  · intro v hv
    obtain ⟨x, hx, rfl⟩ := List.mem_map.1 hv
    have := ofInt_toNat (h x hx).1 (by have := h x hx; omega)
    have := h x hx
    rw [UInt64.le_iff_toNat_le, show (63 : UInt64).toNat = 63 from rfl]
    omega
theorem chkS_len {l : List Int} (h : chkS (-1) l = true) : l.length ≤ 64 := by
  rw [← from_bits h]
  exact from_len _
theorem may_facts {l : List Pr} (h : may l = true) : l.length ≤ 64 ∧ (∀ x ∈ l.map (·.1), 0 ≤ x ∧ x < 64) ∧ ∀ v ∈ l.map (·.2), v ≤ pm1 := by
  refine ⟨may_len h, fun x hx => ?_, fun v hv => ?_⟩
  · obtain ⟨p, hp, rfl⟩ := List.mem_map.1 hx
    obtain ⟨i, hi⟩ := List.mem_iff_getElem?.1 hp
    have hil := (List.getElem?_eq_some_iff.1 hi).1
    have hg := may_iff.1 h
    have h1 := lastP_ge (l := l) i fun j hj => hg j (by omega)
    have h2 := hg i hil
    have e : ix l i = p := by rw [ix, List.getD_eq_getElem?_getD, hi]; rfl
    unfold pgood at h2
    rw [e] at h2
    exact ⟨by omega, h2.2.1⟩
  · obtain ⟨p, hp, rfl⟩ := List.mem_map.1 hv
    obtain ⟨i, hi⟩ := List.mem_iff_getElem?.1 hp
    have hil := (List.getElem?_eq_some_iff.1 hi).1
    have h2 := (may_iff.1 h i hil).2.2.2
    have e : ix l i = p := by rw [ix, List.getD_eq_getElem?_getD, hi]; rfl
    rw [e, UInt64.lt_iff_toNat_lt, show fpP.toNat = 2305843009213693951 from rfl] at h2
    rw [UInt64.le_iff_toNat_le, show pm1.toNat = 2305843009213693950 from rfl]
    omega
theorem zip_maps (l : List Pr) : (l.map (·.1)).zip (l.map (·.2)) = l := by
  induction l with
  | nil => rfl
  | cons p l ih => rw [List.map_cons, List.map_cons, List.zip_cons_cons, ih]
theorem ns_facts {l : List UInt64} (h : (decide (l.length ≤ 128) && !(l.any fun v => decide (pm1 < v))) = true) : l.length ≤ 128 ∧ ∀ v ∈ l, v ≤ pm1 := by
  rw [Bool.and_eq_true, Bool.not_eq_true', List.any_eq_false] at h
  refine ⟨of_decide_eq_true h.1, fun v hv => ?_⟩
  have := h.2 v hv
  rw [decide_eq_true_eq, UInt64.lt_iff_toNat_lt] at this
  rw [UInt64.le_iff_toNat_le]
  omega
theorem step_all {m : MgS} {c : UInt8} (h : mayF m c = true) (hs : m.sm.length = 32) (m' : MgS) (t : List UInt8) (b : Bool) : stepM c (fbM m c ++ t, b) m' = some (copyF m' c m, (t, b)) := by
  unfold mayF at h
  unfold stepM fbM blkF copyF
  by_cases h1 : c = 97
  · simp only [if_pos h1] at h ⊢
    obtain ⟨a, e⟩ := wiM_int h (by decide)
    have a : UInt64.ofInt m.pl ≤ 15 := a
    simp only [List.flatten_cons, List.flatten_nil, List.append_nil]
    rw [numR_all _ _ a, e]
  simp only [if_neg h1] at h ⊢
  by_cases h1 : c = 111
  · simp only [if_pos h1] at h ⊢
    obtain ⟨a, e⟩ := wiM_int h (by decide)
    have a : UInt64.ofInt m.ot ≤ 15 := a
    simp only [List.flatten_cons, List.flatten_nil, List.append_nil]
    rw [numR_all _ _ a, e]
  simp only [if_neg h1] at h ⊢
  by_cases h1 : c = 99
  · simp only [if_pos h1] at h ⊢
    obtain ⟨a, e⟩ := wiM_int h (by decide)
    have a : UInt64.ofInt m.cl ≤ 63 := a
    simp only [List.flatten_cons, List.flatten_nil, List.append_nil]
    rw [numR_all _ _ a, e]
  simp only [if_neg h1] at h ⊢
  by_cases h1 : c = 103
  · simp only [if_pos h1] at h ⊢
    obtain ⟨a, e⟩ := wiM_int h (by decide)
    have a : UInt64.ofInt m.ge ≤ 1073741824 := a
    simp only [List.flatten_cons, List.flatten_nil, List.append_nil]
    rw [numR_all _ _ a, e]
  simp only [if_neg h1] at h ⊢
  by_cases h1 : c = 110
  · simp only [if_pos h1] at h ⊢
    simp only [List.flatten_cons, List.flatten_nil, List.append_nil]
    rw [numR_all _ _ (of_decide_eq_true h)]
  simp only [if_neg h1] at h ⊢
  by_cases h1 : c = 115
  · simp only [if_pos h1] at h ⊢
    simp only [List.flatten_cons, List.flatten_nil, List.append_nil]
    unfold sumOf
    rw [if_neg (by rw [List.length_append]; omega)]
    simp only [← hs, List.take_left, List.drop_left]
  simp only [if_neg h1] at h ⊢
  by_cases h1 : c = 105
  · simp only [if_pos h1] at h ⊢
    obtain ⟨a, e⟩ := intsU_numsI (l := m.ids) fun x hx => by have := (chkS_iff.1 h).1 x hx; omega
    simp only [List.flatten_cons, List.flatten_nil, List.append_nil]
    have := numsOf_all (numsI m.ids) 64 63 (by unfold numsI; rw [List.length_map]; exact chkS_len h) (by decide) e t b
    rw [show (64 : Int) = ((64 : Nat) : Int) from rfl, this, a]
  simp only [if_neg h1] at h ⊢
  by_cases h1 : c = 118
  · simp only [if_pos h1] at h ⊢
    obtain ⟨a, e⟩ := ns_facts h
    simp only [List.flatten_cons, List.flatten_nil, List.append_nil]
    have := numsOf_all m.ns 128 pm1 a (by decide) e t b
    rw [show (128 : Int) = ((128 : Nat) : Int) from rfl, this]
  simp only [if_neg h1] at h ⊢
  by_cases h1 : c = 112
  · simp only [if_pos h1] at h ⊢
    obtain ⟨a, e, f⟩ := may_facts h
    obtain ⟨g, i⟩ := intsU_numsI e
    simp only [List.flatten_cons, List.flatten_nil, List.append_nil]
    have q1 := numsOf_all (numsI (m.ps.map (·.1))) 64 63 (by unfold numsI; rw [List.length_map, List.length_map]; exact a) (by decide) i ((lenV (m.ps.map (·.2)) ++ numsB (m.ps.map (·.2))) ++ t) b
    have q2 := numsOf_all (m.ps.map (·.2)) 64 pm1 (by rw [List.length_map]; exact a) (by decide) f t b
    rw [List.append_assoc (lenV (numsI (m.ps.map (·.1))) ++ _)]
    rw [show (64 : Int) = ((64 : Nat) : Int) from rfl, q1]
    simp only [q2, g]
    rw [if_pos (by unfold numsI; simp), zip_maps]
  simp only [if_neg h1] at h ⊢
  by_cases h1 : c = 120
  · simp only [if_pos h1] at h ⊢
    simp only [List.flatten_cons, List.flatten_nil, List.append_nil]
    have := rowOf_all m.xs 32 (of_decide_eq_true h) (by decide) t b
    rw [show (32 : Int) = ((32 : Nat) : Int) from rfl, this]
  simp only [if_neg h1] at h ⊢
  by_cases h1 : c = 114
  · simp only [if_pos h1] at h ⊢
    obtain ⟨a, e⟩ := wiM_int h (by decide)
    have a : UInt64.ofInt m.re ≤ 255 := a
    simp only [List.flatten_cons, List.flatten_nil, List.append_nil]
    rw [numR_all _ _ a, e]
  simp only [if_neg h1] at h
  cases h
/-- Bad once, bad for good. -/
def isBad (r : Option (MgS × Rs)) : Prop := r = none ∨ ∃ m, r = some (m, badR)
theorem step_bad (c : UInt8) (m : MgS) : isBad (stepM c badR m) ∨ stepM c badR m = some (m, badR) := by
  have n0 : ∀ most, (numR most badR).2.2 = badR := fun _ => rfl
  have l0 : ∀ many most, numsOf many most badR = ([], badR) := fun _ _ => rfl
  have s0 : (sumOf badR).2 = badR := rfl
  have r0 : ∀ many, (rowOf many badR).2 = badR := fun _ => rfl
  left
  unfold stepM
  by_cases h1 : c = 97
  · simp only [if_pos h1]
    exact .inr ⟨_, rfl⟩
  simp only [if_neg h1]
  by_cases h1 : c = 111
  · simp only [if_pos h1]
    exact .inr ⟨_, rfl⟩
  simp only [if_neg h1]
  by_cases h1 : c = 99
  · simp only [if_pos h1]
    exact .inr ⟨_, rfl⟩
  simp only [if_neg h1]
  by_cases h1 : c = 103
  · simp only [if_pos h1]
    exact .inr ⟨_, rfl⟩
  simp only [if_neg h1]
  by_cases h1 : c = 110
  · simp only [if_pos h1]
    exact .inr ⟨_, rfl⟩
  simp only [if_neg h1]
  by_cases h1 : c = 115
  · simp only [if_pos h1]
    exact .inr ⟨_, rfl⟩
  simp only [if_neg h1]
  by_cases h1 : c = 105
  · simp only [if_pos h1]
    exact .inr ⟨_, rfl⟩
  simp only [if_neg h1]
  by_cases h1 : c = 118
  · simp only [if_pos h1]
    exact .inr ⟨_, rfl⟩
  simp only [if_neg h1]
  by_cases h1 : c = 112
  · simp only [if_pos h1]
    exact .inr ⟨_, rfl⟩
  simp only [if_neg h1]
  by_cases h1 : c = 120
  · simp only [if_pos h1]
    exact .inr ⟨_, rfl⟩
  simp only [if_neg h1]
  by_cases h1 : c = 114
  · simp only [if_pos h1]
    exact .inr ⟨_, rfl⟩
  simp only [if_neg h1]
  exact .inr ⟨_, rfl⟩
theorem decGo_bad : ∀ (f : List UInt8) (m : MgS), isBad (decGo f m badR)
  | [], m => .inr ⟨m, rfl⟩
  | c :: f, m => by
    rw [decGo]
    have h : isBad (stepM c badR m) := by
      rcases step_bad c m with h | h
      · exact h
      · exact .inr ⟨_, h⟩
    rcases h with h | ⟨m', h⟩
    · rw [h]; exact .inl rfl
    · rw [h]; exact decGo_bad f m'
theorem step_short {m : MgS} {c : UInt8} (h : mayF m c = true) (hs : m.sm.length = 32) (m' : MgS) (t : List UInt8) (n : Nat) (hn : n < (fbM m c).length) : isBad (stepM c (pre n (fbM m c ++ t)) m') := by
  unfold mayF at h
  unfold fbM blkF at hn ⊢
  unfold stepM
  have nb : ∀ {most v : UInt64} {f : UInt64 → MgS}, v ≤ most → n < (putV v).length → isBad (some (f (numR most (pre n (putV v ++ t))).1, (numR most (pre n (putV v ++ t))).2.2)) := fun a b => .inr ⟨_, by rw [numR_short _ _ a _ _ b]⟩
  by_cases h1 : c = 97
  · simp only [if_pos h1, List.flatten_cons, List.flatten_nil, List.append_nil] at h hn ⊢
    exact nb (f := fun x => { m' with pl := (x.toNat : Int) }) (wiM_int h (by decide)).1 hn
  simp only [if_neg h1] at h hn ⊢
  by_cases h1 : c = 111
  · simp only [if_pos h1, List.flatten_cons, List.flatten_nil, List.append_nil] at h hn ⊢
    exact nb (f := fun x => { m' with ot := (x.toNat : Int) }) (wiM_int h (by decide)).1 hn
  simp only [if_neg h1] at h hn ⊢
  by_cases h1 : c = 99
  · simp only [if_pos h1, List.flatten_cons, List.flatten_nil, List.append_nil] at h hn ⊢
    exact nb (f := fun x => { m' with cl := (x.toNat : Int) }) (wiM_int h (by decide)).1 hn
  simp only [if_neg h1] at h hn ⊢
  by_cases h1 : c = 103
  · simp only [if_pos h1, List.flatten_cons, List.flatten_nil, List.append_nil] at h hn ⊢
    exact nb (f := fun x => { m' with ge := (x.toNat : Int) }) (wiM_int h (by decide)).1 hn
  simp only [if_neg h1] at h hn ⊢
  by_cases h1 : c = 110
  · simp only [if_pos h1, List.flatten_cons, List.flatten_nil, List.append_nil] at h hn ⊢
    exact nb (f := fun x => { m' with nu := x }) (of_decide_eq_true h) hn
  simp only [if_neg h1] at h hn ⊢
  by_cases h1 : c = 115
  · simp only [if_pos h1, List.flatten_cons, List.flatten_nil, List.append_nil] at h hn ⊢
    unfold sumOf
    rw [if_pos (by simp only [pre, List.length_take]; omega)]
    exact .inr ⟨_, rfl⟩
  simp only [if_neg h1] at h hn ⊢
  by_cases h1 : c = 105
  · simp only [if_pos h1, List.flatten_cons, List.flatten_nil, List.append_nil] at h hn ⊢
    obtain ⟨a, e⟩ := intsU_numsI (l := m.ids) fun x hx => by have := (chkS_iff.1 h).1 x hx; omega
    have := numsOf_pre (numsI m.ids) 64 63 (by unfold numsI; rw [List.length_map]; exact chkS_len h) (by decide) e n t hn
    exact .inr ⟨_, by rw [show (64 : Int) = ((64 : Nat) : Int) from rfl, this]⟩
  simp only [if_neg h1] at h hn ⊢
  by_cases h1 : c = 118
  · simp only [if_pos h1, List.flatten_cons, List.flatten_nil, List.append_nil] at h hn ⊢
    obtain ⟨a, e⟩ := ns_facts h
    have := numsOf_pre m.ns 128 pm1 a (by decide) e n t hn
    exact .inr ⟨_, by rw [show (128 : Int) = ((128 : Nat) : Int) from rfl, this]⟩
  simp only [if_neg h1] at h hn ⊢
  by_cases h1 : c = 112
  · simp only [if_pos h1, List.flatten_cons, List.flatten_nil, List.append_nil] at h hn ⊢
    obtain ⟨a, e, f⟩ := may_facts h
    obtain ⟨g, i⟩ := intsU_numsI e
    rw [List.append_assoc (lenV (numsI (m.ps.map (·.1))) ++ _)]
    by_cases hc : n < (lenV (numsI (m.ps.map (·.1))) ++ numsB (numsI (m.ps.map (·.1)))).length
    · have q1 := numsOf_pre (numsI (m.ps.map (·.1))) 64 63 (by unfold numsI; rw [List.length_map, List.length_map]; exact a) (by decide) i n ((lenV (m.ps.map (·.2)) ++ numsB (m.ps.map (·.2))) ++ t) hc
      rw [show (64 : Int) = ((64 : Nat) : Int) from rfl, q1]
      exact .inr ⟨_, rfl⟩
    · have hp : pre n ((lenV (numsI (m.ps.map (·.1))) ++ numsB (numsI (m.ps.map (·.1)))) ++ ((lenV (m.ps.map (·.2)) ++ numsB (m.ps.map (·.2))) ++ t)) = ((lenV (numsI (m.ps.map (·.1))) ++ numsB (numsI (m.ps.map (·.1)))) ++ (pre (n - (lenV (numsI (m.ps.map (·.1))) ++ numsB (numsI (m.ps.map (·.1)))).length) ((lenV (m.ps.map (·.2)) ++ numsB (m.ps.map (·.2))) ++ t)).1, false) := by
        unfold pre
        rw [List.take_append, List.take_of_length_le (by omega)]
      have q1 := numsOf_all (numsI (m.ps.map (·.1))) 64 63 (by unfold numsI; rw [List.length_map, List.length_map]; exact a) (by decide) i (pre (n - (lenV (numsI (m.ps.map (·.1))) ++ numsB (numsI (m.ps.map (·.1)))).length) ((lenV (m.ps.map (·.2)) ++ numsB (m.ps.map (·.2))) ++ t)).1 false
      have q2 := numsOf_pre (m.ps.map (·.2)) 64 pm1 (by rw [List.length_map]; exact a) (by decide) f (n - (lenV (numsI (m.ps.map (·.1))) ++ numsB (numsI (m.ps.map (·.1)))).length) t (by rw [List.length_append] at hn; omega)
      rw [hp, show (64 : Int) = ((64 : Nat) : Int) from rfl, q1]
      simp only
      rw [show ((pre (n - (lenV (numsI (m.ps.map (·.1))) ++ numsB (numsI (m.ps.map (·.1)))).length) ((lenV (m.ps.map (·.2)) ++ numsB (m.ps.map (·.2))) ++ t)).1, false) = pre (n - (lenV (numsI (m.ps.map (·.1))) ++ numsB (numsI (m.ps.map (·.1)))).length) ((lenV (m.ps.map (·.2)) ++ numsB (m.ps.map (·.2))) ++ t) from rfl, q2]
      split
      · exact .inr ⟨_, rfl⟩
      · exact .inl rfl
  simp only [if_neg h1] at h hn ⊢
  by_cases h1 : c = 120
  · simp only [if_pos h1, List.flatten_cons, List.flatten_nil, List.append_nil] at h hn ⊢
    have := rowOf_pre m.xs 32 (of_decide_eq_true h) (by decide) n t hn
    exact .inr ⟨_, by rw [show (32 : Int) = ((32 : Nat) : Int) from rfl, this]⟩
  simp only [if_neg h1] at h hn ⊢
  by_cases h1 : c = 114
  · simp only [if_pos h1, List.flatten_cons, List.flatten_nil, List.append_nil] at h hn ⊢
    exact nb (f := fun x => { m' with re := (x.toNat : Int) }) (wiM_int h (by decide)).1 hn
  simp only [if_neg h1] at h
  cases h
theorem decGo_all {m : MgS} (hs : m.sm.length = 32) : ∀ (f : List UInt8) (m' : MgS) (t : List UInt8) (b : Bool), (∀ c ∈ f, mayF m c = true) → decGo f m' (f.flatMap (fbM m) ++ t, b) = some (f.foldl (fun x c => copyF x c m) m', (t, b))
  | [], m', t, b, _ => rfl
  | c :: f, m', t, b, h => by
    rw [decGo, List.flatMap_cons, List.append_assoc, step_all (h c (List.mem_cons_self ..)) hs, List.foldl_cons]
    exact decGo_all hs f _ t b fun x hx => h x (List.mem_cons_of_mem _ hx)
theorem decGo_short {m : MgS} (hs : m.sm.length = 32) : ∀ (f : List UInt8) (m' : MgS) (t : List UInt8) (n : Nat), (∀ c ∈ f, mayF m c = true) → n < (f.flatMap (fbM m)).length → isBad (decGo f m' (pre n (f.flatMap (fbM m) ++ t)))
  | [], m', t, n, _, hn => by simp at hn
  | c :: f, m', t, n, h, hn => by
    rw [decGo, List.flatMap_cons, List.append_assoc]
    rw [List.flatMap_cons, List.length_append] at hn
    by_cases hc : n < (fbM m c).length
    · rcases step_short (h c (List.mem_cons_self ..)) hs m' (f.flatMap (fbM m) ++ t) n hc with e | ⟨m2, e⟩
      · rw [e]; exact .inl rfl
      · rw [e]; exact decGo_bad f m2
    · have hp : pre n (fbM m c ++ (f.flatMap (fbM m) ++ t)) = (fbM m c ++ (pre (n - (fbM m c).length) (f.flatMap (fbM m) ++ t)).1, false) := by
        unfold pre
        rw [List.take_append, List.take_of_length_le (by omega)]
      rw [hp, step_all (h c (List.mem_cons_self ..)) hs]
      exact decGo_short hs f _ t _ (fun x hx => h x (List.mem_cons_of_mem _ hx)) (by omega)
/-! ### Back -/
theorem chkGo_iff {m : MgS} : ∀ {f : List UInt8} {r : MgS}, chkGo m f r = true ↔ (∀ c ∈ f, mayF m c = true) ∧ f.foldl withoutF r = zeroM
  | [], r => by simp [chkGo]
  | c :: f, r => by
    rw [chkGo, List.foldl_cons]
    by_cases h : mayF m c = true
    · rw [if_pos h, chkGo_iff]
      refine ⟨fun ⟨a, b⟩ => ⟨fun x hx => ?_, b⟩, fun ⟨a, b⟩ => ⟨fun x hx => a x (List.mem_cons_of_mem _ hx), b⟩⟩
      rcases List.mem_cons.1 hx with rfl | hx
      · exact h
      · exact a x hx
    · rw [if_neg h]
      exact ⟨(fun e => nomatch e), fun ⟨a, _⟩ => absurd (a c (List.mem_cons_self ..)) h⟩
/-- What was copied so far, and what is left. -/
structure Jn (m m' r : MgS) : Prop where
  pl : m'.pl = m.pl ∨ m'.pl = 0 ∧ r.pl = m.pl
  ot : m'.ot = m.ot ∨ m'.ot = 0 ∧ r.ot = m.ot
  cl : m'.cl = m.cl ∨ m'.cl = 0 ∧ r.cl = m.cl
  ge : m'.ge = m.ge ∨ m'.ge = 0 ∧ r.ge = m.ge
  nu : m'.nu = m.nu ∨ m'.nu = 0 ∧ r.nu = m.nu
  sm : m'.sm = m.sm ∨ m'.sm = List.replicate 32 0 ∧ r.sm = m.sm
  ids : m'.ids = m.ids ∨ m'.ids = [] ∧ r.ids = m.ids
  ns : m'.ns = m.ns ∨ m'.ns = [] ∧ r.ns = m.ns
  xs : m'.xs = m.xs ∨ m'.xs = [] ∧ r.xs = m.xs
  re : m'.re = m.re ∨ m'.re = 0 ∧ r.re = m.re
  k : m'.k = m.k
theorem Jn.step {m m' r : MgS} (h : Jn m m' r) (c : UInt8) : Jn m (copyF m' c m) (withoutF r c) := by
  unfold copyF withoutF
  by_cases h1 : c = 97
  · simp only [if_pos h1]; exact ⟨.inl rfl, h.ot, h.cl, h.ge, h.nu, h.sm, h.ids, h.ns, h.xs, h.re, h.k⟩
  simp only [if_neg h1]
  by_cases h1 : c = 111
  · simp only [if_pos h1]; exact ⟨h.pl, .inl rfl, h.cl, h.ge, h.nu, h.sm, h.ids, h.ns, h.xs, h.re, h.k⟩
  simp only [if_neg h1]
  by_cases h1 : c = 99
  · simp only [if_pos h1]; exact ⟨h.pl, h.ot, .inl rfl, h.ge, h.nu, h.sm, h.ids, h.ns, h.xs, h.re, h.k⟩
  simp only [if_neg h1]
  by_cases h1 : c = 103
  · simp only [if_pos h1]; exact ⟨h.pl, h.ot, h.cl, .inl rfl, h.nu, h.sm, h.ids, h.ns, h.xs, h.re, h.k⟩
  simp only [if_neg h1]
  by_cases h1 : c = 110
  · simp only [if_pos h1]; exact ⟨h.pl, h.ot, h.cl, h.ge, .inl rfl, h.sm, h.ids, h.ns, h.xs, h.re, h.k⟩
  simp only [if_neg h1]
  by_cases h1 : c = 115
  · simp only [if_pos h1]; exact ⟨h.pl, h.ot, h.cl, h.ge, h.nu, .inl rfl, h.ids, h.ns, h.xs, h.re, h.k⟩
  simp only [if_neg h1]
  by_cases h1 : c = 105
  · simp only [if_pos h1]; exact ⟨h.pl, h.ot, h.cl, h.ge, h.nu, h.sm, .inl rfl, h.ns, h.xs, h.re, h.k⟩
  simp only [if_neg h1]
  by_cases h1 : c = 118
  · simp only [if_pos h1]; exact ⟨h.pl, h.ot, h.cl, h.ge, h.nu, h.sm, h.ids, .inl rfl, h.xs, h.re, h.k⟩
  simp only [if_neg h1]
  by_cases h1 : c = 112
  · simp only [if_pos h1]; exact ⟨h.pl, h.ot, h.cl, h.ge, h.nu, h.sm, h.ids, h.ns, h.xs, h.re, h.k⟩
  simp only [if_neg h1]
  by_cases h1 : c = 120
  · simp only [if_pos h1]; exact ⟨h.pl, h.ot, h.cl, h.ge, h.nu, h.sm, h.ids, h.ns, .inl rfl, h.re, h.k⟩
  simp only [if_neg h1]
  by_cases h1 : c = 114
  · simp only [if_pos h1]; exact ⟨h.pl, h.ot, h.cl, h.ge, h.nu, h.sm, h.ids, h.ns, h.xs, .inl rfl, h.k⟩
  simp only [if_neg h1]
  exact h
theorem Jn.fold {m : MgS} : ∀ (f : List UInt8) {m' r : MgS}, Jn m m' r → Jn m (f.foldl (fun x c => copyF x c m) m') (f.foldl withoutF r)
  | [], _, _, h => h
  | c :: f, _, _, h => Jn.fold f (h.step c)
/-- Peers are copied as often as they are named. -/
theorem copy_ps {m : MgS} (m' : MgS) (c : UInt8) : (copyF m' c m).ps = if c = 112 then m'.ps ++ m.ps else m'.ps := by
  unfold copyF
  by_cases h : c = 112
  · subst h; rfl
  · have e : (if c = 112 then m'.ps ++ m.ps else m'.ps) = m'.ps := if_neg h
    rw [e]
    by_cases h1 : c = 97
    · simp only [if_pos h1]
    simp only [if_neg h1]
    by_cases h1 : c = 111
    · simp only [if_pos h1]
    simp only [if_neg h1]
    by_cases h1 : c = 99
    · simp only [if_pos h1]
    simp only [if_neg h1]
    by_cases h1 : c = 103
    · simp only [if_pos h1]
    simp only [if_neg h1]
    by_cases h1 : c = 110
    · simp only [if_pos h1]
    simp only [if_neg h1]
    by_cases h1 : c = 115
    · simp only [if_pos h1]
    simp only [if_neg h1]
    by_cases h1 : c = 105
    · simp only [if_pos h1]
    simp only [if_neg h1]
    by_cases h1 : c = 118
    · simp only [if_pos h1]
    simp only [if_neg h1, if_neg h]
    by_cases h1 : c = 120
    · simp only [if_pos h1]
    simp only [if_neg h1]
    by_cases h1 : c = 114
    · simp only [if_pos h1]
    simp only [if_neg h1]
theorem without_ps (r : MgS) (c : UInt8) : (withoutF r c).ps = if c = 112 then [] else r.ps := by
  unfold withoutF
  by_cases h : c = 112
  · subst h; rfl
  · have e : (if c = 112 then [] else r.ps) = r.ps := if_neg h
    rw [e]
    by_cases h1 : c = 97
    · simp only [if_pos h1]
    simp only [if_neg h1]
    by_cases h1 : c = 111
    · simp only [if_pos h1]
    simp only [if_neg h1]
    by_cases h1 : c = 99
    · simp only [if_pos h1]
    simp only [if_neg h1]
    by_cases h1 : c = 103
    · simp only [if_pos h1]
    simp only [if_neg h1]
    by_cases h1 : c = 110
    · simp only [if_pos h1]
    simp only [if_neg h1]
    by_cases h1 : c = 115
    · simp only [if_pos h1]
    simp only [if_neg h1]
    by_cases h1 : c = 105
    · simp only [if_pos h1]
    simp only [if_neg h1]
    by_cases h1 : c = 118
    · simp only [if_pos h1]
    simp only [if_neg h1, if_neg h]
    by_cases h1 : c = 120
    · simp only [if_pos h1]
    simp only [if_neg h1]
    by_cases h1 : c = 114
    · simp only [if_pos h1]
    simp only [if_neg h1]
theorem fold_ps {m : MgS} : ∀ (f : List UInt8) (m' : MgS), (∀ c ∈ f, c ≠ 112) → (f.foldl (fun x c => copyF x c m) m').ps = m'.ps
  | [], _, _ => rfl
  | c :: f, m', h => by
    rw [List.foldl_cons, fold_ps f _ fun x hx => h x (List.mem_cons_of_mem _ hx), copy_ps, if_neg (h c (List.mem_cons_self ..))]
theorem foldw_ps : ∀ (f : List UInt8) (r : MgS), (∀ c ∈ f, c ≠ 112) → (f.foldl withoutF r).ps = r.ps
  | [], _, _ => rfl
  | c :: f, r, h => by
    rw [List.foldl_cons, foldw_ps f _ fun x hx => h x (List.mem_cons_of_mem _ hx), without_ps, if_neg (h c (List.mem_cons_self ..))]
/-- No form names peers twice. -/
theorem form_ps (k : UInt8) : (∀ c ∈ formL k, c ≠ 112) ∨ ∃ a b, formL k = a ++ 112 :: b ∧ (∀ c ∈ a, c ≠ 112) ∧ ∀ c ∈ b, c ≠ 112 := by
  by_cases h2 : k = 2
  · subst h2; exact .inr ⟨[103], [], rfl, by decide, by decide⟩
  by_cases h6 : k = 6
  · subst h6; exact .inr ⟨[97, 103, 105, 120], [118], rfl, by decide, by decide⟩
  left
  unfold formL kindM
  by_cases h1 : k = 1
  · simp only [if_pos h1]; decide
  simp only [if_neg h1, if_neg h2]
  by_cases h1 : k = 3
  · simp only [if_pos h1]; decide
  simp only [if_neg h1]
  by_cases h1 : k = 4
  · simp only [if_pos h1]; decide
  simp only [if_neg h1]
  by_cases h1 : k = 5
  · simp only [if_pos h1]; decide
  simp only [if_neg h1, if_neg h6]
  by_cases h1 : k = 7
  · simp only [if_pos h1]; decide
  simp only [if_neg h1]
  by_cases h1 : k = 8
  · simp only [if_pos h1]; decide
  simp only [if_neg h1]
  by_cases h1 : k = 9
  · simp only [if_pos h1]; decide
  simp only [if_neg h1]
  by_cases h1 : k = 10
  · simp only [if_pos h1]; decide
  simp only [if_neg h1]
  by_cases h1 : k = 11
  · simp only [if_pos h1]; decide
  simp only [if_neg h1]
  by_cases h1 : k = 12
  · simp only [if_pos h1]; decide
  simp only [if_neg h1]
  by_cases h1 : k = 13
  · simp only [if_pos h1]; decide
  simp only [if_neg h1]
  by_cases h1 : k = 14
  · simp only [if_pos h1]; decide
  simp only [if_neg h1]
  by_cases h1 : k = 15
  · simp only [if_pos h1]; decide
  simp only [if_neg h1]
  by_cases h1 : k = 16
  · simp only [if_pos h1]; decide
  simp only [if_neg h1]
  by_cases h1 : k = 17
  · simp only [if_pos h1]; decide
  simp only [if_neg h1]
  by_cases h1 : k = 18
  · simp only [if_pos h1]; decide
  simp only [if_neg h1]
  by_cases h1 : k = 19
  · simp only [if_pos h1]; decide
  simp only [if_neg h1]
  decide
theorem chkM_facts {m : MgS} (h : chkM m = true) : formL m.k ≠ [] ∧ (∀ c ∈ formL m.k, mayF m c = true) ∧ (formL m.k).foldl withoutF { m with k := 0 } = zeroM := by
  unfold chkM at h
  split at h
  · cases h
  · rename_i hf
    exact ⟨hf, chkGo_iff.1 h⟩
/-- What is copied of a message that may be is all of it. -/
theorem copy_all {m : MgS} (h : chkM m = true) : (formL m.k).foldl (fun x c => copyF x c m) { zeroM with k := m.k } = m := by
  obtain ⟨hf, hm, hz⟩ := chkM_facts h
  have J0 : Jn m { zeroM with k := m.k } { m with k := 0 } := ⟨.inr ⟨rfl, rfl⟩, .inr ⟨rfl, rfl⟩, .inr ⟨rfl, rfl⟩, .inr ⟨rfl, rfl⟩, .inr ⟨rfl, rfl⟩, .inr ⟨rfl, rfl⟩, .inr ⟨rfl, rfl⟩, .inr ⟨rfl, rfl⟩, .inr ⟨rfl, rfl⟩, .inr ⟨rfl, rfl⟩, rfl⟩
  have J := J0.fold (formL m.k)
  have hps : ((formL m.k).foldl (fun x c => copyF x c m) { zeroM with k := m.k }).ps = m.ps := by
    rcases form_ps m.k with h1 | ⟨a, b, e, ha, hb⟩
    · rw [fold_ps _ _ h1]
      have := foldw_ps _ { m with k := 0 } h1
      rw [hz] at this
      exact this
    · rw [e, List.foldl_append, List.foldl_cons, fold_ps _ _ hb, copy_ps, if_pos rfl, fold_ps _ _ ha]
      rfl
  rw [hz] at J
  generalize (formL m.k).foldl (fun x c => copyF x c m) { zeroM with k := m.k } = m' at *
  have g : ∀ {α : Type} {x y z r : α}, (x = y ∨ x = z ∧ r = y) → r = z → x = y := fun h e => by
    rcases h with h | ⟨h1, h2⟩
    · exact h
    · rw [h1, ← h2, e]
  have e1 := g J.pl rfl
  have e2 := g J.ot rfl
  have e3 := g J.cl rfl
  have e4 := g J.ge rfl
  have e5 := g J.nu rfl
  have e6 := g J.sm rfl
  have e7 := g J.ids rfl
  have e8 := g J.ns rfl
  have e9 := g J.xs rfl
  have e10 := g J.re rfl
  have e11 := J.k
  cases m'
  cases m
  simp only at *
  subst e1 e2 e3 e4 e5 e6 e7 e8 e9 e10 e11 hps
  rfl
theorem kind_le (k : UInt8) : k.toUInt64 ≤ (255 : UInt64) := by
  rw [UInt64.le_iff_toNat_le, UInt8.toNat_toUInt64, show (255 : UInt64).toNat = 255 from rfl]
  have := k.toNat_lt
  omega
theorem kind_back (k : UInt8) : k.toUInt64.toUInt8 = k := by
  apply UInt8.toNat_inj.1
  rw [UInt64.toNat_toUInt8, UInt8.toNat_toUInt64]
  have := k.toNat_lt
  omega
/-- MS3: what is said comes back. -/
theorem dec_enc {m : MgS} (h : chkM m = true) (hs : m.sm.length = 32) : decM (encM m) = some m := by
  obtain ⟨hf, hm, hz⟩ := chkM_facts h
  unfold decM encM
  rw [numR_all _ _ (kind_le m.k)]
  simp only [kind_back]
  have := decGo_all hs (formL m.k) { zeroM with k := m.k } [] false hm
  rw [List.append_nil] at this
  rw [this]
  unfold endD
  simp only [copy_all h, h, and_self, if_true]
/-- Longer it is none. -/
theorem dec_long {m : MgS} (h : chkM m = true) (hs : m.sm.length = 32) (x : UInt8) (t : List UInt8) : decM (encM m ++ x :: t) = none := by
  obtain ⟨hf, hm, hz⟩ := chkM_facts h
  unfold decM encM
  rw [List.append_assoc, numR_all _ _ (kind_le m.k)]
  simp only [kind_back]
  rw [decGo_all hs (formL m.k) { zeroM with k := m.k } (x :: t) false hm]
  unfold endD
  simp only
  rw [if_neg (fun e => by cases e.1)]
/-- Cut short it is none. -/
theorem dec_short {m : MgS} (h : chkM m = true) (hs : m.sm.length = 32) {n : Nat} (hn : n < (encM m).length) : decM ((encM m).take n) = none := by
  obtain ⟨hf, hm, hz⟩ := chkM_facts h
  have e : ((encM m).take n, false) = pre n (putV m.k.toUInt64 ++ (formL m.k).flatMap (fbM m)) := rfl
  unfold decM
  rw [e]
  have bad : ∀ r, isBad r → endD r = none := fun r hr => by
    rcases hr with rfl | ⟨m, rfl⟩
    · rfl
    · show (if badR = ([], false) ∧ chkM m = true then some m else none) = none
      rw [if_neg (fun e => by cases e.1)]
  unfold encM at hn
  rw [List.length_append] at hn
  by_cases hc : n < (putV m.k.toUInt64).length
  · rw [numR_short _ _ (kind_le m.k) _ _ hc]
    exact bad _ (decGo_bad _ _)
  · rcases numR_pre 255 _ (kind_le m.k) n ((formL m.k).flatMap (fbM m)) with h1 | ⟨_, h1⟩
    · rw [h1]
      exact bad _ (decGo_bad _ _)
    · rw [h1]
      simp only [kind_back]
      have := decGo_short hs (formL m.k) { zeroM with k := m.k } [] (n - (putV m.k.toUInt64).length) hm (by omega)
      rw [List.append_nil] at this
      exact bad _ this
/-- Two have the same bytes just if they are the same. -/
theorem enc_inj {m n : MgS} (hm : chkM m = true) (hn : chkM n = true) (hs : m.sm.length = 32) (hs2 : n.sm.length = 32) : encM m = encM n ↔ m = n := by
  refine ⟨fun e => ?_, fun e => by rw [e]⟩
  have h1 := dec_enc hm hs
  rw [e, dec_enc hn hs2] at h1
  exact (Option.some.inj h1).symm
end Go.Proofs.YtiaeollemmkclaaDoor
