import Derived.Test.YtombphphaoeeiaaGreatDoorSvB
import Derived.Test.YtombphphaoeeiaaGreatDoorSrI
/- The plain law of layer 32: groups, what each of them hides, and rows of which it is taken off. No program in sight. -/
namespace Go.Proofs.YtombphphaoeeiaaGreatDoor
set_option linter.unusedSimpArgs false
set_option linter.unusedVariables false
theorem list_eq_at {α : Type} [Inhabited α] {a b : List α} (hl : a.length = b.length) (h : ∀ i, i < a.length → ix a i = ix b i) : a = b := by
  apply List.ext_getElem hl
  intro i h1 h2
  have := h i h1
  rwa [ix_get h1, ix_get h2] at this
def shE (i : Nat) (e : Int × List UInt64) : Sh := (atU e.1, ix e.2 i)
def Gr.sh (g : Gr) (i : Nat) : List Sh := g.gv.map (shE i)
def Gr.sec (g : Gr) (i : Nat) : UInt64 := joiU (g.sh i) g.nd
def Gr.okI (g : Gr) (i : Nat) : Bool := decide (joiE (g.sh i) g.nd = 0) && (hasF g.cm (ix g.ps i).1 || decide (powU 3 (g.sec i) = (ix g.ps i).2))
def Gr.all (g : Gr) : Bool := (List.range g.ps.length).all g.okI
def Gr.err (g : Gr) : Int := if g.mayB = true then (if (g.gv.length : Int) < g.nd then 7 else if g.all = true then 0 else 13) else 1
theorem Gr.all_iff {g : Gr} : g.all = true ↔ ∀ i, i < g.ps.length → g.okI i = true := by unfold Gr.all; simp [List.all_eq_true]
theorem Gr.all_no {g : Gr} {i : Nat} (hi : i < g.ps.length) (h : g.okI i = false) : g.all = false := by
  cases ha : g.all
  · rfl
  · rw [Gr.all_iff.1 ha i hi] at h; cases h
/-- The seeds that came together, up to a peer; the keys. -/
def Gr.sd (g : Gr) : Nat → List (Int × Sc)
  | 0 => []
  | i + 1 => if hasF g.cm (ix g.ps i).1 = true then putI (g.sd i) (ix g.ps i).1 (.a (.v (vU64 (g.sec i)))) else g.sd i
def Gr.ky (g : Gr) : Nat → List (Int × Sc)
  | 0 => []
  | i + 1 => if hasF g.cm (ix g.ps i).1 = true then g.ky i else putI (g.ky i) (ix g.ps i).1 (.a (.v (vU64 (g.sec i))))
def Gr.sdF (g : Gr) : Nat → Int → Option UInt64
  | 0, _ => none
  | i + 1, k => if hasF g.cm (ix g.ps i).1 = true ∧ (ix g.ps i).1 = k then some (g.sec i) else g.sdF i k
def Gr.kyF (g : Gr) : Nat → Int → Option UInt64
  | 0, _ => none
  | i + 1, k => if ¬ hasF g.cm (ix g.ps i).1 = true ∧ (ix g.ps i).1 = k then some (g.sec i) else g.kyF i k
theorem Gr.lookI_sd (g : Gr) (k : Int) : ∀ i, lookI (g.sd i) k = (g.sdF i k).map fun v => .a (.v (vU64 v))
  | 0 => rfl
  | i + 1 => by
    unfold Gr.sd Gr.sdF
    by_cases h : hasF g.cm (ix g.ps i).1 = true
    · rw [if_pos h, lookI_putI]
      by_cases h2 : (ix g.ps i).1 = k
      · rw [if_pos h2, if_pos ⟨h, h2⟩]; rfl
      · rw [if_neg h2, if_neg (fun x => h2 x.2), g.lookI_sd k i]
    · rw [if_neg h, if_neg (fun x => h x.1), g.lookI_sd k i]
theorem Gr.lookI_ky (g : Gr) (k : Int) : ∀ i, lookI (g.ky i) k = (g.kyF i k).map fun v => .a (.v (vU64 v))
  | 0 => rfl
  | i + 1 => by
    unfold Gr.ky Gr.kyF
    by_cases h : hasF g.cm (ix g.ps i).1 = true
    · rw [if_pos h, if_neg (fun x => x.1 h), g.lookI_ky k i]
    · rw [if_neg h, lookI_putI]
      by_cases h2 : (ix g.ps i).1 = k
      · rw [if_pos h2, if_pos ⟨h, h2⟩]; rfl
      · rw [if_neg h2, if_neg (fun x => h2 x.2), g.lookI_ky k i]
theorem Gr.sd_bnd (g : Gr) (n : Nat) : ∀ i, mpBnd n (g.sd i) = True
  | 0 => eq_true fun _ h => by cases h
  | i + 1 => by
    unfold Gr.sd
    split
    · exact eq_true (putI_bndS n _ _ _ (of_eq_true (g.sd_bnd n i)) trivial)
    · exact g.sd_bnd n i
theorem Gr.ky_bnd (g : Gr) (n : Nat) : ∀ i, mpBnd n (g.ky i) = True
  | 0 => eq_true fun _ h => by cases h
  | i + 1 => by
    unfold Gr.ky
    split
    · exact g.ky_bnd n i
    · exact eq_true (putI_bndS n _ _ _ (of_eq_true (g.ky_bnd n i)) trivial)
theorem Gr.sd_ren (g : Gr) (ρ : List Nat) : ∀ i, mpRen ρ (g.sd i) = g.sd i
  | 0 => rfl
  | i + 1 => by
    unfold Gr.sd
    split
    · rw [putI_renS, g.sd_ren ρ i]; rfl
    · exact g.sd_ren ρ i
theorem Gr.ky_ren (g : Gr) (ρ : List Nat) : ∀ i, mpRen ρ (g.ky i) = g.ky i
  | 0 => rfl
  | i + 1 => by
    unfold Gr.ky
    split
    · exact g.ky_ren ρ i
    · rw [putI_renS, g.ky_ren ρ i]; rfl
/-! ### Shares in whatever order -/
theorem sorted_one {a b : List Sh} (hp : a.Perm b) (nd : (PL a).Nodup) (ha : ∀ i j, i < j → j < a.length → (ix a i).1.toNat ≤ (ix a j).1.toNat) (hb : ∀ i j, i < j → j < b.length → (ix b i).1.toNat ≤ (ix b j).1.toNat) : a = b := by
  have pw : ∀ {l : List Sh}, (∀ i j, i < j → j < l.length → (ix l i).1.toNat ≤ (ix l j).1.toNat) → l.Pairwise fun x y => x.1.toNat ≤ y.1.toNat := fun {l} h => by
    rw [List.pairwise_iff_getElem]
    intro i j hi hj hij
    have := h i j hij hj
    rwa [ix_get hi, ix_get hj] at this
  have inj : ∀ x ∈ a, ∀ y ∈ a, x.1 = y.1 → x = y := fun x hx y hy e => by
    obtain ⟨i, hi, rfl⟩ := List.getElem_of_mem hx
    obtain ⟨j, hj, rfl⟩ := List.getElem_of_mem hy
    have := nodup_ix nd hi hj (by rw [ix_get hi, ix_get hj]; exact e)
    subst this
    rfl
  exact hp.eq_of_pairwise (fun x y hx hy h1 h2 => inj x hx y (hp.mem_iff.2 hy) (UInt64.toNat_inj.1 (by omega))) (pw ha) (pw hb)
theorem sortP_one {a b : List Sh} (hp : a.Perm b) (nd : (PL a).Nodup) : sortP a = sortP b :=
  sorted_one (((sortP_perm a).trans hp).trans (sortP_perm b).symm) ((((sortP_perm a).map (·.1)).nodup_iff).2 nd) (fun i j h1 h2 => sortP_ord a i j h1 (by rwa [sortP_length] at h2)) fun i j h1 h2 => sortP_ord b i j h1 (by rwa [sortP_length] at h2)
theorem join_one {a b : List Sh} (hp : a.Perm b) (nd : (PL a).Nodup) (n : Int) : joiE a n = joiE b n ∧ joiU a n = joiU b n := by
  have h1 := sortP_one hp nd
  have h2 := hp.length_eq
  have h3 : okAll a = okAll b := by
    rw [Bool.eq_iff_iff]
    exact ⟨okAll_perm hp.symm, okAll_perm hp⟩
  have h4 : sorE a = sorE b := by unfold sorE; rw [h1, h2, h3]
  have h5 : joiE a n = joiE b n := by unfold joiE; rw [h1, h2, h4]
  exact ⟨h5, by unfold joiU; rw [h5, h1]⟩
theorem perm_of_seen {n : Nat} {seen : List Nat} (nd : seen.Nodup) (h1 : ∀ i, i < n → i ∈ seen) (h2 : ∀ i ∈ seen, i < n) : seen.Perm (List.range n) :=
  (List.perm_ext_iff_of_nodup nd List.nodup_range).2 fun a => ⟨fun h => List.mem_range.2 (h2 a h), fun h => h1 a (List.mem_range.1 h)⟩
/-- The shares, as they were handed out. -/
def Gr.shS (g : Gr) (i : Nat) (seen : List Nat) : List Sh := seen.map fun j => shE i (ix g.gv j)
theorem Gr.shS_snoc (g : Gr) (i j : Nat) (seen : List Nat) : g.shS i (seen ++ [j]) = g.shS i seen ++ [shE i (ix g.gv j)] := by unfold Gr.shS; rw [List.map_append]; rfl
theorem Gr.shS_len (g : Gr) (i : Nat) (seen : List Nat) : (g.shS i seen).length = seen.length := List.length_map ..
theorem map_ix_range {α β : Type} [Inhabited α] (l : List α) (f : α → β) : (List.range l.length).map (fun j => f (ix l j)) = l.map f := by
  refine List.ext_getElem (by simp) fun i h1 h2 => ?_
  simp only [List.length_map] at h2
  simp [ix_get h2]
theorem Gr.shS_perm (g : Gr) (i : Nat) {seen : List Nat} (nd : seen.Nodup) (h1 : ∀ j, j < g.gv.length → j ∈ seen) (h2 : ∀ j ∈ seen, j < g.gv.length) : (g.shS i seen).Perm (g.sh i) := by
  have := (perm_of_seen nd h1 h2).map fun j => shE i (ix g.gv j)
  rw [map_ix_range] at this
  exact this
theorem atU_inj {a b : Int} (ha : 0 ≤ a ∧ a < 64) (hb : 0 ≤ b ∧ b < 64) (h : atU a = atU b) : a = b := by
  obtain ⟨i, rfl⟩ : ∃ i : Nat, a = i := ⟨a.toNat, by omega⟩
  obtain ⟨j, rfl⟩ : ∃ j : Nat, b = j := ⟨b.toNat, by omega⟩
  have key : ∀ m : Nat, m < 64 → (atU (m : Int)).toNat = m + 1 := fun m hm => by
    have e : UInt64.ofInt (m : Int) = UInt64.ofNat m := by
      apply UInt64.toNat_inj.1
      simp [UInt64.ofInt]
      omega
    unfold atU
    rw [e, UInt64.toNat_add, UInt64.toNat_ofNat']
    have : (1 : UInt64).toNat = 1 := rfl
    rw [this]
    omega
  have e1 := key i (by omega)
  have e2 := key j (by omega)
  rw [h] at e1
  omega
theorem isIn_mem {l : List Int} {n : Int} : isIn l n = true ↔ n ∈ l := by
  unfold isIn
  rw [List.any_eq_true]
  exact ⟨fun ⟨x, h1, h2⟩ => by rw [decide_eq_true_eq] at h2; rwa [h2] at h1, fun h => ⟨n, h, decide_eq_true rfl⟩⟩
theorem Gr.join_any (g : Gr) (hm : g.mayB = true) (hk : (g.gv.map (·.1)).Nodup) (i : Nat) {seen : List Nat} (nd : seen.Nodup) (h1 : ∀ j, j < g.gv.length → j ∈ seen) (h2 : ∀ j ∈ seen, j < g.gv.length) :
    joiE (g.shS i seen) g.nd = joiE (g.sh i) g.nd ∧ joiU (g.shS i seen) g.nd = g.sec i := by
  have hp := g.shS_perm i nd h1 h2
  unfold Gr.mayB at hm
  simp only [Bool.and_eq_true] at hm
  obtain ⟨m1, _, _, _, m5⟩ := hm
  rw [List.all_eq_true] at m5
  have hid : ∀ e ∈ g.gv, 0 ≤ e.1 ∧ e.1 < 64 := fun e he => by
    have := m5 e he
    unfold gvOk at this
    rw [Bool.and_eq_true] at this
    have := isIn_mem.1 this.1
    obtain ⟨p, hp, e1⟩ := List.mem_map.1 this
    have := (may_pw.1 m1).2 p hp
    rw [← e1]
    exact ⟨this.1, this.2.1⟩
  have hn : (PL (g.sh i)).Nodup := by
    have e : PL (g.sh i) = (g.gv.map (·.1)).map atU := by unfold PL Gr.sh; rw [List.map_map, List.map_map]; rfl
    rw [e]
    refine List.Pairwise.map _ (fun a b h => h) ?_ |> fun h => h
    rw [List.nodup_iff_pairwise_ne] at hk
    refine hk.imp_of_mem fun {a b} ha hb hab h => hab ?_
    obtain ⟨x, hx, rfl⟩ := List.mem_map.1 ha
    obtain ⟨y, hy, rfl⟩ := List.mem_map.1 hb
    exact atU_inj (hid x hx) (hid y hy) h
  have := join_one hp.symm hn g.nd
  exact ⟨this.1.symm, this.2.symm⟩
/-! ### Rows -/
def Gr.sf (g : Gr) : Int → Option UInt64 := g.sdF g.ps.length
def Gr.kf (g : Gr) : Int → Option UInt64 := g.kyF g.ps.length
def Gr.code (g : Gr) (d : Nat) : Int := if g.err = 0 then opnNum g.cm g.ps g.sf g.kf d else g.err
def Gr.off (g : Gr) (d : Nat) : List UInt32 := opnVal g.cm g.ps g.sf g.kf d
def rwN (l : List Gr) (d : Nat) : Nat → Int
  | 0 => 0
  | i + 1 => if rwN l d i = 0 then (ix l i).code d else rwN l d i
def rwTo (l : List Gr) (row : List UInt32) : Nat → List UInt32
  | 0 => row
  | i + 1 => opTo (· - ·) (rwTo l row i) ((ix l i).off row.length) row.length
theorem rwTo_len (l : List Gr) (row : List UInt32) : ∀ i, (rwTo l row i).length = row.length
  | 0 => rfl
  | i + 1 => opTo_length _ _ _ _
def rowN (l : List Gr) (row : List UInt32) : Int := if row.length ≤ 32 ∧ apartG l = true then rwN l row.length l.length else 1
def rowO (l : List Gr) (row : List UInt32) : List UInt32 := if rowN l row = 0 then rwTo l row l.length else []
theorem rwN_two (a b : Gr) (d : Nat) : rwN [a, b] d 2 = if a.code d = 0 then b.code d else a.code d := rfl
theorem rowN_zero {a b : Gr} {row : List UInt32} : rowN [a, b] row = 0 ↔ row.length ≤ 32 ∧ apartG [a, b] = true ∧ a.code row.length = 0 ∧ b.code row.length = 0 := by
  unfold rowN
  by_cases h : row.length ≤ 32 ∧ apartG [a, b] = true
  · rw [if_pos h, show rwN [a, b] row.length [a, b].length = _ from rwN_two a b _]
    by_cases h2 : a.code row.length = 0
    · rw [if_pos h2]
      exact ⟨fun h3 => ⟨h.1, h.2, h2, h3⟩, fun h3 => h3.2.2.2⟩
    · rw [if_neg h2]
      exact ⟨fun h3 => absurd h3 h2, fun h3 => absurd h3.2.2.1 h2⟩
  · rw [if_neg h]
    exact ⟨fun h3 => absurd h3 (by decide), fun h3 => absurd ⟨h3.1, h3.2.1⟩ h⟩
theorem row_swap (a b : Gr) (row : List UInt32) : (rowN [a, b] row = 0 ↔ rowN [b, a] row = 0) ∧ (rowN [a, b] row = 0 → rowO [a, b] row = rowO [b, a] row ∧ a.err = 0 ∧ b.err = 0) := by
  have e : rowN [a, b] row = 0 ↔ rowN [b, a] row = 0 := by
    rw [rowN_zero, rowN_zero, apart_swap a b]
    exact ⟨fun h => ⟨h.1, h.2.1, h.2.2.2, h.2.2.1⟩, fun h => ⟨h.1, h.2.1, h.2.2.2, h.2.2.1⟩⟩
  refine ⟨e, fun h => ?_⟩
  have h' := e.1 h
  obtain ⟨_, _, h1, h2⟩ := rowN_zero.1 h
  refine ⟨?_, ?_, ?_⟩
  · unfold rowO
    rw [if_pos h, if_pos h']
    show opTo (· - ·) (opTo (· - ·) row (a.off row.length) row.length) (b.off row.length) row.length = opTo (· - ·) (opTo (· - ·) row (b.off row.length) row.length) (a.off row.length) row.length
    refine list_eq_at (by rw [opTo_length, opTo_length]) fun i hi => ?_
    rw [opTo_length] at hi
    rw [opTo_get _ _ _ _ _ hi, opTo_get _ _ _ _ _ hi, opTo_get _ _ _ _ _ hi, opTo_get _ _ _ _ _ hi]
    generalize ix row i = x
    generalize ix (a.off row.length) i = y
    generalize ix (b.off row.length) i = z
    grind
  · unfold Gr.code at h1
    by_cases h3 : a.err = 0
    · exact h3
    · rw [if_neg h3] at h1; exact h1
  · unfold Gr.code at h2
    by_cases h3 : b.err = 0
    · exact h3
    · rw [if_neg h3] at h2; exact h2
end Go.Proofs.YtombphphaoeeiaaGreatDoor
