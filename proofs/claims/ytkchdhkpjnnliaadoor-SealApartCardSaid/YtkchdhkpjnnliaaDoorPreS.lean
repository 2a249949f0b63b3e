/- What opens the arguments of law 8's claims: slices of slices of bytes, a struct of a sum and a list, two numbers, two lists. -/
import Derived.Test.YtkchdhkpjnnliaaDoorPre
import Derived.Test.YtkchdhkpjnnliaaDoorSe0
namespace Go.Proofs.YtkchdhkpjnnliaaDoor
open Go.ChangeShapes Go.WideShapes Go.ChangeAt Go.WideMaps Go.WideElems Go.RowKit
section
variable {H : Type} {enc : TypeId × Value → H} {W : World}
theorem spot_none {a : Addr} {v : Value} (h : W.cell? a = some v) : a.spot = none := by
  unfold World.cell? at h
  split at h
  · split at h
    · cases h
    · rename_i hs
      simpa using hs
  · cases h
theorem cells_two {a : Addr} {cs : List Value} (h : W.cells? 0 a 1 = some cs) : ∃ v, cs = [v] ∧ W.cell? (a.add 0) = some v := by
  unfold World.cells? at h
  split at h
  · simp only [List.range_one, List.mapM_cons, List.mapM_nil, bind, Option.bind_eq_some_iff, pure, Option.some.injEq] at h
    obtain ⟨v, hv, _, rfl, rfl⟩ := h
    exact ⟨v, rfl, hv⟩
  · cases h
set_option maxRecDepth 100000 in
theorem row8 {fuel : Nat} {cs : List Value} {x : DataW H × List MemPlace} (hf : DataW.trod enc Tryd.prog W 0 (fun _ => true) true fuel 27 cs = some x) :
    ∃ y : Sl, cs = [y.val] ∧ y.l.length ≤ y.c ∧ RdV W W.heap.size y.A (y.l.map vU8) := by
  rcases open_ints Tryd.underlying27 Tryd.underlying5 (by kernel_rfl) hf with ⟨rfl, _⟩ | ⟨x, len, cap, zs, rfl, _, hl, hm, hz, _, hcell, hwz⟩
  · exact ⟨⟨none, 0, []⟩, rfl, Nat.le_refl _, RdV.nil_⟩
  · simp only [if_true] at hz
    obtain ⟨u, hu, hul⟩ := u8s (zs.take len) fun z hz => hwz z (List.mem_of_mem_take hz)
    have hlen : u.length = len := by rw [hul, List.length_take]; omega
    subst hlen
    refine ⟨⟨some x, cap, u⟩, rfl, hl, fun hp => ?_⟩
    have hp : 0 < u.length := by simpa using hp
    have h0 := hcell 0 (by omega)
    have hs : x.spot = none := by simpa [Addr.add] using spot_none h0
    obtain ⟨xb, xo, xs⟩ := x
    subst hs
    refine ⟨xb, xo, rfl, block_lt_of_cell h0, fun j y hy => ?_⟩
    rw [← hu] at hy
    have hj : j < u.length := by
      have := (List.getElem?_eq_some_iff.1 hy).1
      simp at this; omega
    have h1 := hcell j (by omega)
    rw [List.getElem?_map, List.getElem?_take_of_lt hj] at hy
    rw [List.getD_eq_getElem?_getD] at h1
    cases hz2 : zs[j]? with
    | none => rw [hz2] at hy; cases hy
    | some z =>
      rw [hz2] at hy h1
      rw [Addr.add_lit] at h1
      cases hy
      exact h1
theorem ix_range (n : Nat) (f : Nat → Sl) (i : Nat) (h : i < n) : ix ((List.range n).map f) i = f i := by
  simp [ix, List.getD_eq_getElem?_getD, h]
set_option maxRecDepth 100000 in
theorem rowLL {fuel : Nat} {cs : List Value} {x : DataW H × List MemPlace} (hf : DataW.trod enc Tryd.prog W 0 (fun _ => true) true fuel 24 cs = some x) :
    ∃ (A : Option Addr) (c : Nat) (L : List Sl), cs = [.slice A L.length c] ∧ RdV W W.heap.size A (L.map Sl.val) ∧ ∀ y ∈ L, RdV W W.heap.size y.A (y.l.map vU8) := by
  have hc1 : Tryd.prog.cellsOf 27 = 1 := by kernel_rfl
  rcases DataW.trod_slice Tryd.underlying24 hf with ⟨rfl, _⟩ | ⟨a, len, cap, elems, rest, n, _, rfl, _, _, hl, hm, hlen, hel, _, _⟩
  · exact ⟨none, 0, [], rfl, RdV.nil_, fun y h => by cases h⟩
  · have each : ∀ i, i < len → ∃ y : Sl, W.cell? (a.add i) = some y.val ∧ RdV W W.heap.size y.A (y.l.map vU8) := by
      intro i hi
      have h1 := hel i hi
      rw [hc1, List.getElem?_eq_getElem (by omega), Nat.mul_one, Option.bind_eq_some_iff] at h1
      obtain ⟨ci, h2, h3⟩ := h1
      obtain ⟨v, rfl, h4⟩ := cells_two h2
      obtain ⟨y, h5, _, h6⟩ := row8 h3
      cases h5
      refine ⟨y, ?_, h6⟩
      have e : (a.add i).add 0 = a.add i := by cases a; simp [Addr.add]
      rw [← e]
      exact h4
    let g : Nat → Sl := fun i => if h : i < len then Classical.choose (each i h) else default
    have hg : ∀ i, i < len → W.cell? (a.add i) = some (g i).val ∧ RdV W W.heap.size (g i).A ((g i).l.map vU8) := by
      intro i hi
      simp only [g, dif_pos hi]
      exact Classical.choose_spec (each i hi)
    refine ⟨some a, cap, (List.range len).map g, by simp, fun hp => ?_, fun y hy => ?_⟩
    · have hp : 0 < len := by simpa using hp
      have h0 := (hg 0 hp).1
      have hs : a.spot = none := by simpa [Addr.add] using spot_none h0
      obtain ⟨xb, xo, xs⟩ := a
      subst hs
      refine ⟨xb, xo, rfl, block_lt_of_cell h0, fun j u hu => ?_⟩
      have hj : j < len := by
        have := (List.getElem?_eq_some_iff.1 hu).1
        simpa using this
      rw [List.getElem?_map, List.getElem?_map, List.getElem?_range hj] at hu
      cases hu
      have := (hg j hj).1
      rw [add_plain] at this
      exact this
    · obtain ⟨i, hi, rfl⟩ := List.mem_map.1 hy
      exact (hg i (List.mem_range.1 hi)).2
set_option maxRecDepth 100000 in
theorem openAsk {v : Value} {d : DataW H} {ps : List MemPlace} {r : Reach} {b : Nat} (hv : Value.okWide Tryd.prog W r b 26 v) (h : DataW.Trod enc Tryd.prog W 0 (fun _ => true) true 26 v d ps) :
    ∃ (s : List UInt8) (A : Option Addr) (c : Nat) (L : List Sl), v = (Sv.x (.g (s.map f8 ++ [.v (.slice A L.length c)]))).val [] ∧ s.length = 32 ∧ RdV W W.heap.size A (L.map Sl.val) ∧ ∀ y ∈ L, RdV W W.heap.size y.A (y.l.map vU8) := by
  obtain ⟨cs, rfl, hsz⟩ := okWide_struct Tryd.underlying26 hv
  obtain ⟨fuel, hf⟩ := h
  have hc33 : Tryd.prog.cellsOf 26 = 33 := by kernel_rfl
  have hc32 : Tryd.prog.cellsOf 23 = 32 := by kernel_rfl
  have hc1 : Tryd.prog.cellsOf 24 = 1 := by kernel_rfl
  have hcells : (Value.agg cs).cells.toList = cs.toList := rfl
  rw [hcells] at hf
  obtain ⟨xs, n, _, _, hlen, hxl, hel⟩ := DataW.trod_struct Tryd.underlying26 hf
  have hxl : xs.length = 2 := hxl
  have h0 : DataW.trod enc Tryd.prog W 0 (fun _ => true) true n 23 ((cs.toList.drop 0).take (Tryd.prog.cellsOf 23)) = xs[0]? := hel 0 _ rfl
  have h1 : DataW.trod enc Tryd.prog W 0 (fun _ => true) true n 24 ((cs.toList.drop 32).take (Tryd.prog.cellsOf 24)) = xs[1]? := hel 1 _ rfl
  rw [hc32, List.getElem?_eq_getElem (by omega)] at h0
  rw [hc1, List.getElem?_eq_getElem (by omega)] at h1
  rw [hc33] at hlen
  obtain ⟨zs, e1, _, e3, e4⟩ := arr_ints key32 Tryd.underlying5 h0
  obtain ⟨s, e5, e6⟩ := u8s zs e4
  obtain ⟨A, c, L, e7, e8, e9⟩ := rowLL h1
  refine ⟨s, A, c, L, ?_, by omega, e8, e9⟩
  have e10 : cs.toList = s.map vU8 ++ [.slice A L.length c] := by
    rw [← e5, ← e1, ← e7, List.drop_zero]
    rw [List.take_of_length_le (l := cs.toList.drop 32) (by rw [List.length_drop]; omega)]
    exact (List.take_append_drop 32 cs.toList).symm
  show Value.agg cs = .agg ((s.map f8 ++ [At.v (.slice A L.length c)]).map (At.val [])).toArray
  congr 1
  apply Array.ext'
  rw [e10]
  simp [f8, At.val]
theorem u64s : ∀ (zs : List Int), (∀ z ∈ zs, (Lit.int .u64 z).wf = true) → ∃ l : List UInt64, zs.map (Value.int .u64) = l.map vU64 ∧ l.length = zs.length
  | [], _ => ⟨[], rfl, rfl⟩
  | z :: zs, h => by
    obtain ⟨l, h1, h2⟩ := u64s zs fun y hy => h y (List.mem_cons_of_mem _ hy)
    obtain ⟨b, hb⟩ : ∃ b : UInt64, Value.int .u64 z = vU64 b := by
      have hw := h z (List.mem_cons_self ..)
      simp only [Lit.wf, Bool.and_eq_true, decide_eq_true_eq] at hw
      have hw : 0 ≤ z ∧ z ≤ 18446744073709551615 := hw
      exact ⟨UInt64.ofNat z.toNat, by unfold vU64 n64; rw [UInt64.toNat_ofNat']; congr 1; omega⟩
    exact ⟨b :: l, by rw [List.map_cons, List.map_cons, h1, hb], by simp [h2]⟩
set_option maxRecDepth 100000 in
theorem openU64 {v : Value} {d : DataW H} {ps : List MemPlace} {r : Reach} {b : Nat} (hv : Value.okWide Tryd.prog W r b 22 v) (h : DataW.Trod enc Tryd.prog W 0 (fun _ => true) true 22 v d ps) : ∃ x : UInt64, v = vU64 x := by
  obtain ⟨n, rfl, _, _, hw⟩ := open_int Tryd.underlying22 hv h
  obtain ⟨l, h1, h2⟩ := u64s [n] (fun z hz => by rw [List.mem_singleton.1 hz]; exact hw)
  match l, h2 with
  | [x], _ => exact ⟨x, by simpa using h1⟩
set_option maxRecDepth 100000 in
theorem key2u : ArrKey Tryd.prog 39 22 2 := ⟨Tryd.underlying39, by kernel_rfl, by kernel_rfl, by kernel_rfl⟩
set_option maxRecDepth 100000 in
theorem openU2 {v : Value} {d : DataW H} {ps : List MemPlace} {r : Reach} {b : Nat} (hv : Value.okWide Tryd.prog W r b 39 v) (h : DataW.Trod enc Tryd.prog W 0 (fun _ => true) true 39 v d ps) : ∃ x y : UInt64, v = .agg (arr64 [x, y]) := by
  obtain ⟨xs, rfl, hx⟩ := okWide_arr key2u hv
  obtain ⟨fuel, hf⟩ := h
  obtain ⟨zs, h1, _, h3, h4⟩ := arr_ints key2u Tryd.underlying22 hf
  obtain ⟨l, h5, h6⟩ := u64s zs h4
  have h7 : xs.toList = l.map vU64 := h1.trans h5
  match l, (show l.length = 2 by omega) with
  | [x, y], _ => exact ⟨x, y, by rw [arr64, ← h7]⟩
end
end Go.Proofs.YtkchdhkpjnnliaaDoor
