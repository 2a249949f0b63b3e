/- The library's sort at rows of two cells: what it makes of a row of shares; the world behind it. No program in sight. -/
import Derived.Test.YteiifdpikcnbgaaDoorSm1
import Derived.Shelf.SlSortCmp.NoneTotal
namespace Go.Proofs.YteiifdpikcnbgaaDoor
open Go.RowKit
set_option linter.unusedSimpArgs false
set_option linter.unusedVariables false
/-! ### What comes of it -/
def cmpS (x y : Sh) : Int := if x.1 < y.1 then -1 else if y.1 < x.1 then 1 else 0
theorem ltS (x y : Sh) : ltOf cmpS x y = decide (x.1.toNat < y.1.toNat) := by
  unfold ltOf cmpS
  by_cases h : x.1 < y.1
  · simp [h, UInt64.lt_iff_toNat_lt.1 h]
  · have h2 : ¬ x.1.toNat < y.1.toNat := fun g => h (UInt64.lt_iff_toNat_lt.2 g)
    by_cases g : y.1 < x.1 <;> simp [h, g, h2]
theorem swoS : Go.Sort.SWO (ltOf cmpS) where
  irrefl x := by rw [ltS]; simp
  trans x y z h1 h2 := by rw [ltS] at *; simp at *; omega
  ntrans x y z h1 h2 := by rw [ltS] at *; simp at *; omega
def sortA (d : Array Sh) : Array Sh := Go.Sort.pdq (ltOf cmpS) d 0 d.size (Lib.bitLen d.size) true true
def sortP (L : List Sh) : List Sh := (sortA L.toArray).toList
theorem sortA_spec (d : Array Sh) : Go.Sort.PermIn 0 d.size d (sortA d) ∧ Go.Sort.SortedIn (ltOf cmpS) 0 d.size (sortA d) :=
  Go.Sort.pdq_sorts (ltOf cmpS) swoS d 0 d.size (Lib.bitLen d.size) true true (Nat.zero_le _) (Nat.le_refl _) (Or.inl rfl)
theorem sortA_size (d : Array Sh) : (sortA d).size = d.size := (sortA_spec d).1.1
theorem sortP_length (L : List Sh) : (sortP L).length = L.length := by
  unfold sortP
  rw [Array.length_toList, sortA_size]
  rfl
theorem sortP_perm (L : List Sh) : (sortP L).Perm L := by
  have h := (sortA_spec L.toArray).1.2.2
  have e : (sortA L.toArray).extract 0 L.toArray.size = sortA L.toArray := by
    have := sortA_size L.toArray
    rw [← this]
    exact Array.extract_size
  rw [e, Array.extract_size] at h
  exact h
theorem at_toA (d : Array Sh) (i : Nat) (h : i < d.size) : d[i]! = ix d.toList i := by
  rw [getElem!_pos d i h, ix_get (by simpa using h), Array.getElem_toList]
theorem sortP_ord (L : List Sh) (a b : Nat) (h1 : a < b) (h2 : b < L.length) : (ix (sortP L) a).1.toNat ≤ (ix (sortP L) b).1.toNat := by
  have hz := sortA_size L.toArray
  have e : L.toArray.size = L.length := by simp
  have h := (sortA_spec L.toArray).2 a b (Nat.zero_le _) h1 (by rw [e]; exact h2)
  rw [ltS, decide_eq_false_iff_not, at_toA _ b (by omega), at_toA _ a (by omega)] at h
  exact Nat.le_of_not_lt h
/-! ### The row's cells -/
theorem flat2 (d : Array Sh) : (Go.Sort.flatK shv 2 d).toList = shs d.toList := by
  apply List.ext_getElem?
  intro t
  by_cases ht : t < d.size * 2
  · have h1 : t / 2 < d.size := by omega
    have h2 : t % 2 < 2 := by omega
    have e := flat_get shv_len d.toList (t / 2) (t % 2) (by simpa using h1) h2
    rw [show t / 2 * 2 + t % 2 = t from by omega] at e
    show _ = (d.toList.flatMap shv)[t]?
    rw [e]
    have g := Go.Sort.get_flatK shv 2 d t ht
    rw [at_toA d _ h1] at g
    have s : t < (Go.Sort.flatK shv 2 d).size := by rw [Go.Sort.size_flatK]; exact ht
    rw [getElem!_pos _ t s, getElem!_pos _ (t % 2) (by rw [shv_len]; exact h2)] at g
    rw [Array.getElem?_toList, Array.getElem?_eq_getElem s, g, List.getElem?_eq_getElem (by rw [shv_len]; exact h2)]
  · rw [List.getElem?_eq_none (by rw [Array.length_toList, Go.Sort.size_flatK]; omega), List.getElem?_eq_none (by rw [shs_len, Array.length_toList]; omega)]
theorem holds2 {w : World} {g cap : Nat} {d : Array Sh} {e : TypeId} (h : w.ownsRow 0 e 2 (.slice (some ⟨g, 0, none⟩) d.size cap) d.size (shs d.toList)) : Go.Sort.HoldsK shv 2 w g 0 d := by
  intro j hj
  have s := hj
  rw [Go.Sort.size_flatK] at hj
  rw [Nat.zero_add]
  refine ⟨?_, World.ownsRow.frozenAt h j⟩
  have hc := fun u hu => World.ownsRow.cells h (g := g) rfl j u hu
  simp only [add_plain, Nat.zero_add] at hc
  refine hc _ ?_
  rw [← flat2, Array.getElem?_toList, getElem!_pos _ j s, Array.getElem?_eq_getElem s]
  rfl
theorem put2_cells (F cur : Array Value) (h : F.size ≤ cur.size) : (Go.Sort.putCells id 0 F cur).toList.take F.size = F.toList := by
  apply List.ext_getElem?
  intro t
  rw [List.getElem?_take]
  by_cases ht : t < F.size
  · rw [if_pos ht, Array.getElem?_toList, Array.getElem?_toList, Array.getElem?_eq_getElem ht]
    unfold Go.Sort.putCells
    rw [Array.getElem?_mapIdx, Array.getElem?_eq_getElem (show t < cur.size by omega), Option.map_some, if_pos ⟨Nat.zero_le _, by omega⟩, Nat.sub_zero, getElem!_pos F t ht]
    rfl
  · rw [if_neg ht, List.getElem?_eq_none (by rw [Array.length_toList]; omega)]
theorem heap_sortW (w : World) (g n : Nat) (d : Array Sh) (os : Array Obj) (k : Nat) (hk : k < w.heap.size) : (sortWorldK shv 2 w g 0 n d os).heap[k]? = if g = k then (w.heap[k]?).map (Go.Sort.onCells (Go.Sort.putCells id 0 (Go.Sort.flatK shv 2 d))) else w.heap[k]? := by
  unfold sortWorldK Go.Sort.grow Go.Sort.putRowK Go.Sort.putRow Go.Sort.mapBlock Go.Sort.ahead
  show (w.heap.modify g _ ++ os)[k]? = _
  rw [Array.getElem?_append_left (by simpa using hk), Array.getElem?_modify]
theorem owns2 {w : World} {g cap n : Nat} {d d' : Array Sh} {e : TypeId} (hs : d'.size = d.size) (os : Array Obj) (h : w.ownsRow 0 e 2 (.slice (some ⟨g, 0, none⟩) d.size cap) d.size (shs d.toList)) :
    (sortWorldK shv 2 w g 0 n d' os).ownsRow 0 e 2 (.slice (some ⟨g, 0, none⟩) d.size cap) d.size (shs d'.toList) := by
  obtain ⟨h0, ⟨h1, _⟩ | ⟨g', cap', cur, h1, _, hh, h3, h4, h5, h6⟩⟩ := h
  · cases h1
  · cases h1
    have hz : (Go.Sort.flatK shv 2 d').size = d.size * 2 := by rw [Go.Sort.size_flatK, hs]
    have hle := Nat.mul_le_mul_right 2 h3
    refine ⟨by rw [shs_len, Array.length_toList, hs], .inr ⟨g, cap, Go.Sort.putCells id 0 (Go.Sort.flatK shv 2 d') cur, rfl, Nat.zero_le _, ?_, h3, h4, ?_, ?_⟩⟩
    · rw [heap_sortW _ _ _ _ _ _ (Array.getElem?_eq_some_iff.1 hh).1, if_pos rfl, hh]
      rfl
    · unfold Go.Sort.putCells
      rw [Array.size_mapIdx, h5]
    · rw [← hz, put2_cells _ _ (by rw [hz, h5]; exact hle), flat2]
theorem keeps2 (w : World) (g n : Nat) (d : Array Sh) (os : Array Obj) : Keeps (· = g) w (sortWorldK shv 2 w g 0 n d os) := by
  refine ⟨rfl, rfl, rfl, ?_, fun k hk hn => ?_⟩
  · unfold sortWorldK Go.Sort.grow Go.Sort.putRowK Go.Sort.putRow Go.Sort.mapBlock Go.Sort.ahead
    show _ ≤ (w.heap.modify g _ ++ os).size
    rw [Array.size_append, Array.size_modify]
    omega
  · rw [heap_sortW _ _ _ _ _ _ hk, if_neg (fun e => hn e.symm)]
theorem shv_one (x : Sh) : ∀ v ∈ shv x, v.oneCell' = true := by
  intro v hv
  simp only [shv, List.mem_cons, List.not_mem_nil, or_false] at hv
  rcases hv with rfl | rfl <;> rfl
/-! ### A call of it, in the engine's words -/
theorem callOK_sort {P : Program} {w0 : World} {ow : Nat → Prop} {hp : List Res} {f : FuncId} {e : TypeId} {k : Nat} {L : List Sh} {sv : Sv} {fv : Value} (hk : hp[k]? = some (.onn e 2 (.c (shc L)))) (hv : ∀ γ, sv.val γ = fv)
    (h1 : ∀ (g cap : Nat) (w : World), Go.Sort.HoldsK shv 2 w g 0 L.toArray → g < w.heap.size → Calls P f #[.slice (some ⟨g, 0, none⟩) L.toArray.size cap, fv] w fun e w' => e = .returned (.tuple #[]) ∧ ∃ n os, w' = sortWorldK shv 2 w g 0 n (sortA L.toArray) os)
    (h2 : ∀ (w : World), L = [] → Calls P f #[.slice none 0 0, fv] w fun e w' => e = .returned (.tuple #[]) ∧ w' = w) :
    CallOK P w0 ow f [.x (.a (.o k)), sv] hp (.t []) (hp.set k (.onn e 2 (.c (shc (sortP L))))) := fun γ w hS => by
  obtain ⟨hg, hm, n, ho⟩ := hS.holds k _ hk
  have hl : (shc L).map (At.val γ) = shs L := shc_vals γ L
  have ho : w.ownsRow 0 e 2 (nmS γ k) n (shs L) := by rw [← hl]; exact ho
  have hn : n = L.length := by have := ho.1; rw [shs_len] at this; omega
  subst hn
  show Calls P f #[nmS γ k, sv.val γ] w _
  rw [hv]
  have hcase := ho
  obtain ⟨_, ⟨hv1, hv2⟩ | ⟨g, cap, cur, hv1, _, hh, _⟩⟩ := hcase
  · have hL : L = [] := List.eq_nil_of_length_eq_zero hv2
    rw [hv1]
    refine (h2 w hL).mono ?_
    rintro en w' ⟨rfl, rfl⟩
    refine ⟨[], by rw [List.append_nil]; rfl, ?_⟩
    rw [List.append_nil, show hp.set k (.onn e 2 (.c (shc (sortP L)))) = hp from ?_]
    · exact hS
    · have : sortP L = L := by
        have := sortP_length L
        rw [hL] at this ⊢
        exact List.eq_nil_of_length_eq_zero this
      rw [this]
      apply List.ext_getElem?
      intro i
      rw [List.getElem?_set]
      split
      · rename_i hi
        subst hi
        rw [hk, if_pos (lt_of_get hk)]
      · rfl
  · have hlt : g < w.heap.size := (Array.getElem?_eq_some_iff.1 hh).1
    rw [hv1] at ho ⊢
    have ho' : w.ownsRow 0 e 2 (.slice (some ⟨g, 0, none⟩) L.toArray.size cap) L.toArray.size (shs L.toArray.toList) := ho
    refine (h1 g cap w (holds2 ho') hlt).mono ?_
    rintro en w' ⟨rfl, q, os, rfl⟩
    refine ⟨[], by rw [List.append_nil]; rfl, ?_⟩
    rw [List.append_nil]
    have hob : (nmS γ k).ownBlock = some g := by rw [hv1]; rfl
    refine hS.update (b := g) (r' := .onn e 2 (.c (shc (sortP L)))) hk hob (keeps2 w g q _ os) ⟨hg, hm, L.length, ?_⟩ (.inl rfl)
    have e2 : (shc (sortP L)).map (At.val γ) = shs (sortA L.toArray).toList := shc_vals γ _
    show World.ownsRow _ 0 e 2 (nmS γ k) L.length ((shc (sortP L)).map (At.val γ))
    rw [hv1, e2]
    exact owns2 (d := L.toArray) (sortA_size _) os ho'
end Go.Proofs.YteiifdpikcnbgaaDoor
