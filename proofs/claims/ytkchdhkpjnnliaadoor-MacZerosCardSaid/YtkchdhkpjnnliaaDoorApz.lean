/- append(s, make([]T, n)...) onto a slice of the call's own: n zeros behind. No program in sight. -/
import Derived.Test.YtkchdhkpjnnliaaDoorOwn
namespace Go.Proofs.YtkchdhkpjnnliaaDoor
open Go.RowKit
theorem zeroCells_one (z : Value) (m : Nat) : Builtin.zeroCells #[z] m = (List.replicate m z).toArray := by
  apply Array.ext'
  simp only [Builtin.zeroCells, Array.toList_map, Array.toList_range]
  apply List.ext_getElem
  · simp
  · intro j h1 h2
    simp [Nat.mod_one]
theorem run_appendZ {P : Program} (w : World) (base : Nat) (t ti e : TypeId) (kk : IntKind) (z zc : Value) (hzc : z.cells = #[zc]) (h1c : zc.oneCell' = true) (bytes : Nat) (ht : P.underlying t = some (.slice e)) (hti : P.underlying ti = some (.int kk)) (hinfo : (P.info? e).map (fun i => (i.zero, i.size, i.bytes)) = some (some z, 1, bytes))
    (v : Value) (vs : List Value) (hown : Own w base e v vs) (m : Nat) (h63 : vs.length + m ≤ maxLen) (hbytes : (vs.length + m) * bytes ≤ 140737488355328) (hbase : base ≤ w.heap.size) :
    ∃ v' w', (∀ ty, (Builtin.append_ #[t, ti] ty #[v, .int .i64 (m : Int)]).run P w = .ok v' w') ∧ Own w' base e v' (vs ++ List.replicate m zc) ∧ Keeps (fun k => v.ownBlock = some k) w w' ∧ (v'.ownBlock = v.ownBlock ∨ v'.ownBlock = some w.heap.size) := by
  obtain ⟨i, hi, hz0, hz1, hz2⟩ := info_parts hinfo
  have hm63 : vs.length + m ≤ 9223372036854775807 := by simp only [maxLen] at h63; omega
  have wl : IntKind.i64.wrap (m : Int) = m := by rw [IntKind.wrap_i64]; omega
  have hmb : m * bytes ≤ 140737488355328 := Nat.le_trans (Nat.mul_le_mul_right _ (by omega)) hbytes
  have n1 : ¬ ((m : Int) < 0) := by omega
  have n2 : ¬ (281474976710656 < (m : Int) * (bytes : Int)) := by
    have : ((m * bytes : Nat) : Int) ≤ 140737488355328 := by omega
    rw [Int.natCast_mul] at this
    omega
  rcases hown with ⟨h0, ⟨rfl, h1⟩ | ⟨g, cap, cur, rfl, hb, hh, hnc, hcm, hcs, htk⟩⟩
  · have : vs = [] := List.eq_nil_of_length_eq_zero h1
    subst this
    by_cases hm : m = 0
    · subst hm
      refine ⟨.slice none 0 0, w, fun ty => ?_, by simpa using Own.nil_ _ _ _, Keeps.refl _ _, .inl rfl⟩
      have w0 : IntKind.i64.wrap 0 = 0 := by rw [IntKind.wrap_i64]; rfl
      simp [Builtin.append_, run_underlying ht, run_underlying hti, sizeOf, typeInfo, hi, asInt, asIntOf, w0]
    · have h63' : ¬ (9223372036854775807 < (m : Int)) := by simp at hm63; omega
      have h48' : ¬ (281474976710656 < Builtin.nextslicecap m 0 * bytes) := by rw [nextslicecap_zero (by omega)]; omega
      refine ⟨.slice (some ⟨w.heap.size, 0, none⟩) m (grownCap w m 0 e), w.drew.alloc (.cells ((List.replicate m zc).toArray ++ (List.replicate (grownCap w m 0 e - m) zc).toArray) e), fun ty => ?_, ?_, ?_, .inr rfl⟩
      rotate_left
      · refine ⟨?_, .inr ⟨w.heap.size, grownCap w m 0 e, ((List.replicate m zc).toArray ++ (List.replicate (grownCap w m 0 e - m) zc).toArray), by simp, hbase, heap_alloc_new w.drew _, ?_, ?_, ?_, ?_⟩⟩
        · simp
        · simpa using grownCap_ge w m 0 e
        · exact grownCap_le_maxLen w m 0 e (by simpa using h63)
        · have := grownCap_ge w m 0 e
          simp; omega
        · simp
      · exact Keeps.of_below ((Below.refl _ _).drew.alloc (by simp) _)
      · simp [Builtin.append_, run_underlying ht, run_underlying hti, sizeOf, typeInfo, zeroValue, hi, hz0, hz1, hz2, hzc, asInt, asIntOf, wl, n1, n2, hm, h63', h48', Question.forced, run_firstCells_none, newRow, grownCap, zeroCells_one]
  · have hcell : ∀ j u, vs[j]? = some u → w.cell? ((⟨g, 0, none⟩ : Addr).add j) = some u := World.ownsRow.cells ⟨h0, .inr ⟨g, cap, cur, rfl, hb, hh, hnc, hcm, hcs, htk⟩⟩ rfl
    by_cases hroom : vs.length + m ≤ cap
    · have hst := run_storeCells_at P g vs.length e (List.replicate m zc) 0 cur w hh (by simp; omega) (by simp [h1c])
      simp only [Nat.add_zero, List.length_replicate] at hst
      refine ⟨.slice (some ⟨g, 0, none⟩) (vs.length + m) cap, w.setRow g (cur.toList.take vs.length ++ List.replicate m zc ++ cur.toList.drop (vs.length + m)).toArray, fun ty => ?_, ?_, ?_, .inl rfl⟩
      rotate_left
      · refine ⟨?_, .inr ⟨g, cap, (cur.toList.take vs.length ++ List.replicate m zc ++ cur.toList.drop (vs.length + m)).toArray, by simp, hb, setRow_heap w g cur _ e _ hh, ?_, hcm, ?_, ?_⟩⟩
        · simp
        · simpa using hroom
        · simp; omega
        · have htk' : cur.toList.take vs.length = vs := by simpa using htk
          rw [htk', List.toList_toArray, List.append_assoc, ← List.append_assoc, List.length_append, List.length_replicate, Nat.mul_one]
          exact List.take_left' (by simp)
      · exact Keeps.setRow w rfl
      · by_cases hm : m = 0
        · subst hm
          have w0 : IntKind.i64.wrap 0 = 0 := by rw [IntKind.wrap_i64]; rfl
          have hst0 : (storeCells ⟨g, vs.length, none⟩ [] 0).run P w = _ := hst
          simp [Builtin.append_, run_underlying ht, run_underlying hti, sizeOf, typeInfo, hi, hz1, asInt, asIntOf, w0, hnc, Addr.add_lit] at hst0 ⊢
          rw [hst0]
          rfl
        · simp [Builtin.append_, run_underlying ht, run_underlying hti, sizeOf, typeInfo, zeroValue, hi, hz0, hz1, hz2, hzc, asInt, asIntOf, wl, n1, n2, hm, hroom, zeroCells_one, Addr.add_lit, hst]
    · have h63' : ¬ (9223372036854775807 < ((vs.length : Int) + (m : Int))) := by omega
      have h48' : ¬ (281474976710656 < Builtin.nextslicecap (vs.length + m) cap * bytes) := by have := growslice_fits (old := cap) (need := vs.length + m) (by omega) hbytes; omega
      have hm : m ≠ 0 := by omega
      have hfo := run_firstCells_some (P := P) w.drew 1 vs.length ⟨g, 0, none⟩ vs.length cap vs (by simp) (by simpa using hcell)
      refine ⟨.slice (some ⟨w.heap.size, 0, none⟩) (vs.length + m) (grownCap w (vs.length + m) cap e), w.drew.alloc (.cells (vs.toArray ++ (List.replicate m zc).toArray ++ (List.replicate (grownCap w (vs.length + m) cap e - (vs.length + m)) zc).toArray) e), fun ty => ?_, ?_, ?_, .inr rfl⟩
      rotate_left
      · refine ⟨?_, .inr ⟨w.heap.size, grownCap w (vs.length + m) cap e, (vs.toArray ++ (List.replicate m zc).toArray ++ (List.replicate (grownCap w (vs.length + m) cap e - (vs.length + m)) zc).toArray), by simp, hbase, heap_alloc_new w.drew _, ?_, ?_, ?_, ?_⟩⟩
        · simp
        · simpa using grownCap_ge w (vs.length + m) cap e
        · exact grownCap_le_maxLen w (vs.length + m) cap e h63
        · have := grownCap_ge w (vs.length + m) cap e
          simp; omega
        · simp only [Array.toList_append, List.length_append, List.length_replicate, Nat.mul_one]
          exact List.take_left' (by simp)
      · exact Keeps.of_below ((Below.refl _ _).drew.alloc (by simp) _)
      · simp [Builtin.append_, run_underlying ht, run_underlying hti, sizeOf, typeInfo, zeroValue, hi, hz0, hz1, hz2, hzc, asInt, asIntOf, wl, n1, n2, hm, hroom, h63', h48', Question.forced, hfo, newRow, grownCap, zeroCells_one]
end Go.Proofs.YtkchdhkpjnnliaaDoor
