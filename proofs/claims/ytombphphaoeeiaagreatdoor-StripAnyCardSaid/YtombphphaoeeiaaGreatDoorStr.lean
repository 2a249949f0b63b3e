import Derived.Test.YtombphphaoeeiaaGreatDoorBase
import Derived.Lib.ConvBytes
/- A row that a string was turned into: it bears a mark behind its end, and is a slice like another. No program in sight. -/
namespace Go.Proofs.YtombphphaoeeiaaGreatDoor
open Go.RowKit
set_option linter.unusedSimpArgs false
/-- A slice whose row nothing holds frozen. -/
def OwnM (w : World) (e : TypeId) (v : Value) (vs : List Value) : Prop :=
  ∃ g cap cur mk, v = .slice (some ⟨g, 0, none⟩) vs.length cap ∧ w.heap[g]? = some (.cells cur e mk) ∧ (mk.2 ≤ mk.1 ∨ cur.size ≤ mk.1) ∧ vs.length ≤ cap ∧ cap ≤ maxLen ∧ cur.size = cap ∧ cur.toList.take vs.length = vs
section
variable {P : Program} {w w' : World} {e : TypeId} {v : Value} {vs : List Value}
theorem lt_heap {α : Type} {a : Array α} {g : Nat} {x : α} (h : a[g]? = some x) : g < a.size := by
  rcases Nat.lt_or_ge g a.size with hlt | hge
  · exact hlt
  · rw [Array.getElem?_eq_none hge] at h; cases h
theorem OwnM.lt (h : OwnM w e v vs) : ∀ k, v.ownBlock = some k → k < w.heap.size := by
  obtain ⟨g, cap, cur, mk, rfl, hg, _⟩ := h
  intro k hk
  simp only [Value.ownBlock, Option.some.injEq] at hk
  subst hk
  exact lt_heap hg
theorem OwnM.keep {Y : Nat → Prop} (h : OwnM w e v vs) (hk : Keeps Y w w') (hn : ∀ b, v.ownBlock = some b → ¬ Y b) : OwnM w' e v vs := by
  obtain ⟨g, cap, cur, mk, rfl, hg, r⟩ := h
  exact ⟨g, cap, cur, mk, rfl, (hk.block g (lt_heap hg) (hn g rfl)).trans hg, r⟩
theorem OwnM.rd (h : OwnM w e v vs) : ∃ A c, v = .slice A vs.length c ∧ vs.length ≤ c ∧ c ≤ maxLen ∧ RdV w w.heap.size A vs := by
  obtain ⟨g, cap, cur, mk, rfl, hg, hm, h1, h2, h3, h4⟩ := h
  refine ⟨_, _, rfl, h1, h2, fun _ => ⟨g, 0, rfl, lt_heap hg, fun j u hu => ?_⟩⟩
  have hj : j < vs.length := (List.getElem?_eq_some_iff.1 hu).1
  rw [← h4, List.getElem?_take_of_lt hj] at hu
  rw [Nat.zero_add]
  simpa [World.cell?, hg] using hu
theorem run_storeCells_M (P : Program) (g o : Nat) (t : TypeId) (fz : Nat × Nat) : ∀ (vs : List Value) (i : Nat) (cur : Array Value) (w : World), w.heap[g]? = some (.cells cur t fz) → (fz.2 ≤ fz.1 ∨ cur.size ≤ fz.1) → o + i + vs.length ≤ cur.size → (∀ v ∈ vs, v.oneCell' = true) →
    (storeCells ⟨g, o, none⟩ vs i).run P w = .ok () (w.setRow g (cur.toList.take (o + i) ++ vs ++ cur.toList.drop (o + i + vs.length)).toArray)
  | [], i, cur, w, hg, _, _, _ => by
    simp only [storeCells, List.append_nil, List.length_nil, Nat.add_zero, List.take_append_drop, Array.toArray_toList]
    rw [setRow_self w g cur t fz hg]
    rfl
  | v :: rest, i, cur, w, hg, hfz, hl, h1 => by
    have hi : o + i < cur.size := by simp at hl; omega
    have hadd : (⟨g, o, none⟩ : Addr).add i = ⟨g, o + i, none⟩ := by unfold Addr.add; split <;> simp_all
    have hcell : w.cell? ⟨g, o + i, none⟩ = some cur[o + i] := by simp [World.cell?, hg, hi]
    have hfro : w.frozen? ⟨g, o + i, none⟩ = false := by
      obtain ⟨lo, hi'⟩ := fz
      simp only [World.frozen?, hg, Bool.and_eq_false_iff, decide_eq_false_iff_not]
      simp only at hfz
      omega
    have hst : (store ((⟨g, o, none⟩ : Addr).add i) v).run P w = .ok () (w.setRow g (cur.setIfInBounds (o + i) v)) := by
      rw [hadd, run_store P w _ v _ (h1 v (by simp)), hcell]
      simp [hfro, setCell_eq_setRow w g (o + i) cur t fz v hg]
    have ih := run_storeCells_M P g o t fz rest (i + 1) (cur.setIfInBounds (o + i) v) (w.setRow g (cur.setIfInBounds (o + i) v)) (setRow_heap w g cur _ t _ hg) (by simpa using hfz) (by simp at hl ⊢; omega) (fun x hx => h1 x (by simp [hx]))
    simp only [storeCells, Sem.run_bind, hst, Result.andThen_ok, ih, setRow_setRow]
    congr 3
    have e := list_seg_step cur.toList (o + i) v rest (by simp at hl ⊢; omega)
    simpa [Array.toList_setIfInBounds, Nat.add_assoc] using e
theorem run_append_room_M (w : World) (t ty e : TypeId) (i : TypeInfo) (ht : P.underlying t = some (.slice e)) (hi : P.info? e = some i) (h0 : i.size = 1)
    (g sLen sCap : Nat) (cur : Array Value) (fz : Nat × Nat) (hg : w.heap[g]? = some (.cells cur e fz)) (hfz : fz.2 ≤ fz.1 ∨ cur.size ≤ fz.1)
    (a : Addr) (m c : Nat) (news : List Value) (hl : news.length = m) (hnews : ∀ j u, news[j]? = some u → w.cell? (a.add j) = some u) (h1 : ∀ u ∈ news, u.oneCell' = true)
    (hroom : sLen + m ≤ sCap) (hfit : sLen + news.length ≤ cur.size) :
    (Builtin.append_ #[t, t] ty #[.slice (some ⟨g, 0, none⟩) sLen sCap, .slice (some a) m c]).run P w =
      .ok (.slice (some ⟨g, 0, none⟩) (sLen + m) sCap) (w.setRow g (cur.toList.take sLen ++ news ++ cur.toList.drop (sLen + news.length)).toArray) := by
  have hf := run_firstCells_some (P := P) w 1 m a m c news (by omega) hnews
  have hst := run_storeCells_M P g sLen e fz news 0 cur w hg hfz (by simpa using hfit) h1
  simp only [Nat.add_zero] at hst
  simp [Builtin.append_, run_underlying ht, sizeOf, typeInfo, hi, h0, Builtin.lenOf, hroom, hf, Addr.add_lit, hst]
theorem run_append_M (w : World) (t e : TypeId) (bytes : Nat) (ht : P.underlying t = some (.slice e)) (z : Value) (hz : z.cells.size = 1)
    (hinfo : (P.info? e).map (fun i => (i.zero, i.size, i.bytes)) = some (some z, 1, bytes))
    (v : Value) (vs : List Value) (hown : OwnM w e v vs) (A : Option Addr) (m c B : Nat) (news : List Value) (hR : RdV w B A news) (hm : news.length = m) (h1 : ∀ u ∈ news, u.oneCell' = true)
    (h63 : vs.length + m ≤ maxLen) (hbytes : (vs.length + m) * bytes ≤ 140737488355328) :
    ∃ v' w', (∀ ty, (Builtin.append_ #[t, t] ty #[v, .slice A m c]).run P w = .ok v' w') ∧ OwnM w' e v' (vs ++ news) ∧ Keeps (fun k => v.ownBlock = some k) w w' ∧
      (v'.ownBlock = v.ownBlock ∨ v'.ownBlock = some w.heap.size) := by
  obtain ⟨i, hi, hz0, hz1, hz2⟩ := info_parts hinfo
  obtain ⟨g, cap, cur, mk, rfl, hg, hmk, hnc, hcm, hcs, htake⟩ := hown
  by_cases hm0 : m = 0
  · subst hm0
    obtain rfl : news = [] := List.eq_nil_of_length_eq_zero hm
    refine ⟨_, w, fun ty => ?_, ⟨g, cap, cur, mk, by simp, hg, hmk, by simpa using hnc, hcm, hcs, by simpa using htake⟩, Keeps.refl _ _, .inl rfl⟩
    have hl : ∀ (x : Addr), (loadCells x 0).run P w = .ok #[] w := fun x => by simpa using run_loadCells_list (P := P) w x [] (by simp)
    cases A <;> simp [Builtin.append_, run_underlying ht, sizeOf, typeInfo, hi, hz1, Builtin.lenOf, Builtin.firstCells, hl, hnc, storeCells]
  · obtain ⟨b, off, rfl, _, hc⟩ := hR (by omega)
    have hnews : ∀ j u, news[j]? = some u → w.cell? ((⟨b, off, none⟩ : Addr).add j) = some u := fun j u hu => by rw [add_plain]; exact hc j u hu
    have hsmall : vs.length + m ≤ 9223372036854775807 := by simp only [maxLen] at h63; omega
    by_cases hroom : vs.length + m ≤ cap
    · have hr := fun ty => run_append_room_M (P := P) w t ty e i ht hi hz1 g vs.length cap cur mk hg hmk ⟨b, off, none⟩ m c news hm hnews h1 hroom (by omega)
      refine ⟨_, _, hr, ⟨g, cap, _, mk, by rw [List.length_append, hm], setRow_heap w g cur _ e _ hg, ?_, by rw [List.length_append]; omega, hcm, ?_, ?_⟩, Keeps.setRow w rfl, .inl rfl⟩
      · rcases hmk with h | h
        · exact .inl h
        · refine .inr ?_
          simp only [List.size_toArray, List.length_append, List.length_take, List.length_drop, Array.length_toList]
          omega
      · simp only [List.size_toArray, List.length_append, List.length_take, List.length_drop, Array.length_toList]
        omega
      · rw [htake]
        exact List.take_left
    · have holds : ∀ j u, vs[j]? = some u → w.cell? ((⟨g, 0, none⟩ : Addr).add j) = some u := fun j u hu => by
        have hj : j < vs.length := (List.getElem?_eq_some_iff.1 hu).1
        rw [← htake, List.getElem?_take_of_lt hj] at hu
        rw [add_plain, Nat.zero_add]
        simpa [World.cell?, hg] using hu
      have hr := fun ty => run_append_grow (P := P) w t ty e i z ht hi hz0 ⟨g, 0, none⟩ vs.length cap vs (by rw [hz1]; omega) holds ⟨b, off, none⟩ m c news (by rw [hz1]; omega) hnews (by omega) (by omega) (growslice_fits (by omega) (by rw [hz2]; exact hbytes))
      have hge := grownCap_ge w (vs.length + m) cap e
      have hcm2 : grownCap w (vs.length + m) cap e ≤ maxLen := grownCap_le_maxLen w (vs.length + m) cap e h63
      refine ⟨_, _, hr, ⟨w.heap.size, _, _, (0, 0), by rw [List.length_append, hm], heap_alloc_new w.drew _, .inl (Nat.le_refl _), by rw [List.length_append, hm]; exact hge, hcm2, ?_, ?_⟩, ?_, .inr rfl⟩
      · simp only [Array.size_append, List.size_toArray, size_zeroCells, hz]
        omega
      · simp only [Array.toList_append, List.append_assoc]
        rw [← List.append_assoc]
        exact List.take_left
      · exact ⟨rfl, rfl, rfl, by simp, fun k hk _ => heap_alloc_old w.drew _ hk⟩
theorem run_bytes_M (w : World) (src dst e : TypeId) (s : ByteArray) {u : TypeDesc} (hs : P.underlying src = some u) (hd : P.underlying dst = some (.slice e)) (he : P.underlying e = some (.int .u8)) (hm : s.size ≤ maxLen) :
    ∃ v' w', (convert src dst (.string s)).run P w = .ok v' w' ∧ OwnM w' e v' (s.data.toList.map vU8) ∧ Keeps (fun _ => False) w w' ∧ v'.ownBlock = some w.heap.size := by
  have hge := grownCap_ge w s.size 0 e
  have hsz : (Lib.bytesCells w e s).size = grownCap w s.size 0 e := by
    unfold Lib.bytesCells
    have : s.data.size = s.size := rfl
    simp
    omega
  refine ⟨_, _, Lib.run_convert_string_bytes w src dst e s hs hd he, ⟨w.heap.size, _, _, _, ?_, Lib.bytesWorld_at_new w e s, .inr (Nat.le_refl _), ?_, grownCap_le_maxLen w s.size 0 e hm, hsz, ?_⟩, ?_, rfl⟩
  · rw [List.length_map, Array.length_toList]
    rfl
  · rw [List.length_map, Array.length_toList]
    exact hge
  · unfold Lib.bytesCells
    rw [Array.toList_append, Array.toList_map]
    have e1 : (s.data.toList.map fun b => Value.int .u8 (b.toNat : Int)) = s.data.toList.map vU8 := rfl
    rw [e1]
    exact List.take_left
  · exact ⟨rfl, rfl, rfl, by rw [Lib.bytesWorld_size]; omega, fun k hk _ => Lib.bytesWorld_at_old w e s k hk⟩
end
end Go.Proofs.YtombphphaoeeiaaGreatDoor
