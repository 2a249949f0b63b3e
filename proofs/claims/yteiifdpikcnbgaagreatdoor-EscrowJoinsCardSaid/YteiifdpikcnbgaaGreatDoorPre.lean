/- What opens the arguments of the claims: slices of bytes, arrays of bytes, the table that is laid. -/
import Derived.Test.YteiifdpikcnbgaaGreatDoorPre0
import Derived.Test.YteiifdpikcnbgaaGreatDoorSha0
namespace Go.Proofs.YteiifdpikcnbgaaGreatDoor
open Go.ChangeShapes Go.WideShapes Go.ChangeAt Go.WideMaps Go.WideElems Go.RowKit
section
variable {H : Type} {enc : TypeId × Value → H} {W : World}
set_option maxRecDepth 100000 in
/-- A slice of bytes that came in. -/
theorem open8 {v : Value} {d : DataW H} {ps : List MemPlace} {r : Reach} {b : Nat} (hv : Value.okWide Tryz.prog W r b 144 v) (h : DataW.Trod enc Tryz.prog W 0 (fun _ => true) true 144 v d ps) :
    ∃ (A : Option Addr) (c : Nat) (l : List UInt8), v = .slice A l.length c ∧ l.length ≤ c ∧ c ≤ maxLen ∧ RdV W W.heap.size A (l.map vU8) := by
  obtain ⟨a, len, cap, rfl⟩ := okWide_slice Tryz.underlying144 hv
  obtain ⟨fuel, hf⟩ := h
  rcases open_ints Tryz.underlying144 Tryz.underlying5 (by kernel_rfl) hf with ⟨hcs, _⟩ | ⟨x, l, c, zs, hcs, _, hl, hm, hz, _, hcell, hwz⟩
  · simp [Value.cells] at hcs
    obtain ⟨rfl, rfl, rfl⟩ := hcs
    exact ⟨none, 0, [], rfl, Nat.le_refl _, Nat.zero_le _, RdV.nil_⟩
  · simp [Value.cells] at hcs
    obtain ⟨rfl, rfl, rfl⟩ := hcs
    simp only [if_true] at hz
    obtain ⟨u, hu, hul⟩ := u8s (zs.take len) fun z hz => hwz z (List.mem_of_mem_take hz)
    have hlen : u.length = len := by rw [hul, List.length_take]; omega
    subst hlen
    refine ⟨some x, cap, u, rfl, hl, hm, fun hp => ?_⟩
    have hp : 0 < u.length := by simpa using hp
    have h0 := hcell 0 (by omega)
    have hs : x.spot = none := by
      unfold World.cell? at h0
      split at h0
      · split at h0
        · cases h0
        · rename_i hs
          simpa [Addr.add] using hs
      · cases h0
    obtain ⟨xb, xo, xs⟩ := x
    subst hs
    refine ⟨xb, xo, rfl, block_lt_of_cell h0, fun j y hy => ?_⟩
    rw [← hu] at hy
    have hj : j < u.length := by
      have := (List.getElem?_eq_some_iff.1 hy).1
      simp at this; omega
    have h1 := hcell j (by omega)
    rw [List.getElem?_map, List.getElem?_take_of_lt hj] at hy
    rw [List.getD_eq_getElem?_getD] at h1
    cases hz2 : zs[j]? with
    | none => rw [hz2] at hy; cases hy
    | some z =>
      rw [hz2] at hy h1
      rw [Addr.add_lit] at h1
      cases hy
      exact h1
set_option maxRecDepth 100000 in
/-- An array of bytes that came in. -/
theorem openA8 {t : TypeId} {n : Nat} (A : ArrKey Tryz.prog t 5 n) {v : Value} {d : DataW H} {ps : List MemPlace} {r : Reach} {b : Nat} (hv : Value.okWide Tryz.prog W r b t v) (h : DataW.Trod enc Tryz.prog W 0 (fun _ => true) true t v d ps) :
    ∃ l : List UInt8, v = .agg (arr8 l) ∧ l.length = n := by
  obtain ⟨xs, rfl, hx⟩ := okWide_arr A hv
  obtain ⟨fuel, hf⟩ := h
  obtain ⟨zs, h1, _, h3, h4⟩ := arr_ints A Tryz.underlying5 hf
  obtain ⟨l, h5, h6⟩ := u8s zs h4
  refine ⟨l, ?_, by omega⟩
  have h7 : xs.toList = l.map vU8 := h1.trans h5
  rw [arr8, ← h7]
end
set_option maxRecDepth 100000 in
theorem key32 : ArrKey Tryz.prog 142 5 32 := ⟨Tryz.underlying142, by kernel_rfl, by kernel_rfl, by kernel_rfl⟩
set_option maxRecDepth 100000 in
theorem key64u : ArrKey Tryz.prog 209 49 64 := ⟨Tryz.underlying209, by kernel_rfl, by kernel_rfl, by kernel_rfl⟩
theorem laid_kt : (Rows.laid_caucus_sha_rounds : DataW Unit) = .agg ((kt.map n32).map fun z => .lit (.int .u32 z)) := by kernel_rfl
theorem rounds_global : Tryz.prog.globalNamed "caucus/sha.rounds" = some 4 := by kernel_rfl
theorem rounds_type : (Tryz.prog.globals[4]?).map (·.type) = some 209 := by kernel_rfl
theorem laidK_of_met {W : World} (h : laidMet Tryz.prog [("caucus/sha.rounds", Rows.laid_caucus_sha_rounds)] W) : LaidK 4 W := by
  obtain ⟨ps, ⟨g, t, cs, fuel, p, q, hg, ht, hvar, hd, _, _⟩, _⟩ := h
  obtain rfl := Option.some.inj (rounds_global.symm.trans hg)
  obtain rfl := Option.some.inj (rounds_type.symm.trans ht)
  obtain ⟨zs, h1, h2, h3, h4⟩ := arr_ints key64u Tryz.underlying49 hd
  simp only [Prod.mk.injEq] at h2
  rw [laid_kt] at h2
  have h5 : kt.map n32 = zs := by
    have := h2.1
    simp only [DataW.agg.injEq] at this
    refine List.map_inj_right (f := fun z => (DataW.lit (.int .u32 z) : DataW Unit)) ?_ |>.1 this
    intro a b hab
    simpa using hab
  intro i hi
  have h6 := World.var?_cell hg hvar i
  rw [h6]
  have h7 : cs.toList = (kt.map n32).map (Value.int .u32) := by rw [h1, h5]
  have h8 : cs[i]? = ((kt.map n32).map (Value.int .u32))[i]? := by rw [← h7, Array.getElem?_toList]
  rw [h8]
  simp [ix, List.getD_eq_getElem?_getD, List.getElem?_eq_getElem (show i < kt.length from hi)]
theorem laidK_of_laid {W : World} (h : laidMetH Tryz.prog [("caucus/sha.rounds", Rows.laid_caucus_sha_rounds)] W) : LaidK 4 W := by
  rw [MakeChecks.laidMetH_plain _ _ _ (by kernel_rfl)] at h
  exact laidK_of_met h
set_option maxRecDepth 100000 in
theorem openStr {H : Type} {enc : TypeId × Value → H} {W : World} {v : Value} {d : DataW H} {ps : List MemPlace} {r : Reach} {b : Nat} (hv : Value.okWide Tryz.prog W r b 9 v) (h : DataW.Trod enc Tryz.prog W 0 (fun _ => true) true 9 v d ps) : ∃ s : ByteArray, v = .string s := by
  obtain ⟨s, rfl, _⟩ := Go.ChangeMaps.open_string Tryz.underlying9 hv h
  exact ⟨s, rfl⟩
abbrev laidR : List (String × DataW Unit) := [("caucus/sha.rounds", Rows.laid_caucus_sha_rounds)]
theorem laid_start (os : Os) (args : Array Value) : laidMetH Tryz.prog laidR ((World.laidAll Tryz.prog os laidR).forCall (fun _ _ => 0) ⟨#[], args, []⟩).memory := by
  rw [MakeChecks.laidMetH_plain _ _ _ (by kernel_rfl)]
  exact laidMet_laidAll args (by kernel_rfl) (by kernel_rfl)
end Go.Proofs.YteiifdpikcnbgaaGreatDoor
