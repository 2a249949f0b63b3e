/- The engine: each operation does what its term says. No program in sight. -/
import Derived.Test.YtkchdhkpjnnliaaDoorE4
import Derived.Test.YtkchdhkpjnnliaaDoorEq
namespace Go.Proofs.YtkchdhkpjnnliaaDoor
open Go.RowKit
set_option linter.unusedSimpArgs false

section
variable {P : Program} {w0 w : World} {ow : Nat → Prop} {γ : List Nm} {hp hp' : List Res} {c : Prop} {v : Sv}
theorem flat_isAgg {t : TypeId} (h : flat (P.underlying t) = true) (w : World) : (isAgg t).run P w = .ok false w := by
  cases hu : P.underlying t with
  | none => rw [hu] at h; simp [flat] at h
  | some d =>
    unfold isAgg
    rw [Sem.run_bind, run_underlying hu w]
    rw [hu] at h
    cases d <;> simp_all [flat]
theorem sz_info {t : TypeId} {n : Nat} (h : sz P t = n) (hn : n ≠ 0) : ∃ i, P.info? t = some i ∧ i.size = n := by
  unfold sz at h
  cases hi : P.info? t with
  | none => simp [hi] at h; omega
  | some i => exact ⟨i, rfl, by simpa [hi] using h⟩
theorem run_sizeOf {t : TypeId} {n : Nat} (h : sz P t = n) (hn : n ≠ 0) (w : World) : (sizeOf t).run P w = .ok n w := by
  obtain ⟨i, hi, hs⟩ := sz_info h hn
  simp [sizeOf, typeInfo, hi, hs]
theorem run_loadVar_flat {t : TypeId} (h : flat (P.underlying t) = true) {a : Addr} {x : Value} (hx : w.cell? a = some x) : (loadVar t a).run P w = .ok x w := by
  simp [loadVar, Sem.run_bind, flat_isAgg h w, hx]
theorem Cont.part_vals {c c' : Cont} {off n : Nat} (h : c.part off n = some c') : c'.vals γ = ((c.vals γ).drop off).take n := by
  cases c <;> simp only [Cont.part, Option.some.injEq] at h <;> subst h <;> simp [Cont.vals, List.map_take, List.map_drop]
theorem Cont.cut_vals {c c' : Cont} {off n : Nat} (h : c.cut off n = some c') : c'.vals γ = ((c.vals γ).drop off).take n := by
  unfold Cont.cut at h
  split at h
  · rename_i hq
    simp only [Option.some.injEq] at h
    subst h
    obtain ⟨rfl, rfl⟩ := hq
    rw [List.drop_zero, ← Cont.len_vals (γ := γ), List.take_length]
  · exact Cont.part_vals h
theorem Cont.whole_val {c : Cont} {s : Sc} (h : c.whole = some s) : s.val γ = .agg (c.vals γ).toArray := by
  cases c <;> simp only [Cont.whole, Option.some.injEq, reduceCtorEq] at h <;> subst h <;> rfl
theorem aggr_desc {t : TypeId} (h : aggr (P.underlying t) = true) : ∃ d, P.underlying t = some d ∧ (match d with | .struct _ | .array _ _ => true | _ => false) = true := by
  cases hd : P.underlying t with
  | none => rw [hd] at h; simp [aggr] at h
  | some d => refine ⟨d, rfl, ?_⟩; rw [hd] at h; cases d <;> simp_all [aggr]
theorem run_loadVar_agg {t : TypeId} (h : aggr (P.underlying t) = true) {g off : Nat} {xs : List Value} (hx : sz P t = xs.length) (hn : xs.length ≠ 0)
    (hc : ∀ j u, xs[j]? = some u → w.cell? ⟨g, off + j, none⟩ = some u) : (loadVar t ⟨g, off, none⟩).run P w = .ok (.agg xs.toArray) w := by
  obtain ⟨d, hd, hd2⟩ := aggr_desc h
  obtain ⟨i, hi, hsz⟩ := sz_info hx hn
  exact run_loadArr (P := P) (w := w) t ⟨g, off, none⟩ xs d hd (by cases d <;> simp_all) (by rw [hi]; simpa using hsz) (fun j u hu => by rw [add_plain]; exact hc j u hu)

/-! ### load -/
theorem run_loadAt {t : TypeId} {ad : Addr} {x : Value} (h : (loadVar t ad).run P w = .ok x w) : (Instr.loadAt t (.pointer (some ad))).run P w = .ok x w := by
  simp [Instr.loadAt, Instr.sureAddr, Sem.run_bind, h]
theorem loadS_sound {t : TypeId} {sv : Sv} (hS : Sat w0 ow γ hp w) (h : loadS P w0 ow t hp sv = some (c, v, hp')) (hc : c) : hp' = hp ∧ (Instr.loadAt t (sv.val γ)).run P w = .ok (v.val γ) w := by
  unfold loadS at h
  split at h
  · rename_i k off
    split at h
    · rename_i t' ct hr
      split at h
      · rename_i hf
        simp only [Option.some.injEq, Prod.mk.injEq] at h
        obtain ⟨rfl, rfl, rfl⟩ := h
        exact ⟨rfl, run_loadAt (run_loadVar_flat hf (hS.cell hr hc))⟩
      · split at h
        · rename_i hf
          split at h
          · rename_i c' hcut
            split at h
            · rename_i s hw
              simp only [Option.some.injEq, Prod.mk.injEq] at h
              obtain ⟨rfl, rfl, rfl⟩ := h
              refine ⟨rfl, run_loadAt ?_⟩
              have hv := Cont.cut_vals (γ := γ) hcut
              have hl : (c'.vals γ).length = sz P t := by rw [hv, List.length_take, List.length_drop, Cont.len_vals]; omega
              show (loadVar t ⟨nmB γ k, off, none⟩).run P w = .ok (s.val γ) w
              rw [Cont.whole_val hw]
              refine run_loadVar_agg hf hl.symm (by omega) fun j u hu => ?_
              rw [(hS.blk hr).2.cell (off + j), List.getElem?_toArray]
              rw [hv, List.getElem?_take] at hu
              split at hu
              · rw [List.getElem?_drop] at hu; exact hu
              · cases hu
            · simp at h
          · simp at h
        · simp at h
    · simp at h
  · rename_i k i
    split at h
    · rename_i e ct hr
      split at h
      · rename_i hf
        simp only [Option.some.injEq, Prod.mk.injEq] at h
        obtain ⟨rfl, rfl, rfl⟩ := h
        refine ⟨rfl, ?_⟩
        obtain ⟨_, ho⟩ := hS.own hr
        have hl : 0 < (ct.vals γ).length := by rw [Cont.len_vals]; exact Nat.lt_of_le_of_lt (Nat.zero_le _) hc
        obtain ⟨g, cap, hg⟩ := ho.shape hl
        have e1 : (Sv.x (.a (.q k i))).val γ = .pointer (some ⟨g, 0 + i, none⟩) := by simp [Sv.val, Sc.val, At.val, hg]
        rw [e1, Nat.zero_add]
        refine run_loadAt (run_loadVar_flat hf ?_)
        have hc' := World.ownsRow.cellAt (w := w) (g := g) (n := (ct.vals γ).length) (cap := cap) (xs := ct.vals γ) (base := 0) (e := e) (size := 1) (by rw [← hg]; exact ho) i (by rw [Cont.len_vals]; simpa using hc)
        rw [hc', Cont.get_val hc]
        rfl
      · simp at h
    · simp at h
  · rename_i A
    split at h
    · rename_i hf
      simp only [Option.some.injEq, Prod.mk.injEq] at h
      obtain ⟨rfl, rfl, rfl⟩ := h
      obtain ⟨a, rfl, hx⟩ := hS.raw hc
      exact ⟨rfl, run_loadAt (run_loadVar_flat hf hx)⟩
    · simp at h
  · simp at h

/-! ### store -/
theorem run_storeVar_flat {t : TypeId} (hs : sz P t = 1) {a : Addr} {x y : Value} (h1 : x.oneCell' = true) (hx : w.cell? a = some y) (hf : w.frozen? a = false) : (storeVar t a x).run P w = .ok () (w.setCell a x) := by
  have hcells : x.cells = #[x] := by cases x <;> first | rfl | simp [Value.oneCell'] at h1
  simp [storeVar, Sem.run_bind, run_sizeOf hs (by omega) w, hcells, storeCells, run_store P w a x .plain h1, hx, hf, Addr.add]
theorem own_of_isOwn {k : Nat} (h : isOwn hp k = true) : ∃ e c, hp[k]? = some (.own e c) := by
  unfold isOwn at h
  split at h
  · rename_i e c hr; exact ⟨e, c, hr⟩
  · cases h
theorem own_slice (hS : Sat w0 ow γ hp w) {k : Nat} (h : isOwn hp k = true) : ∃ A n m, nmS γ k = .slice A n m := by
  obtain ⟨e, ct, hr⟩ := own_of_isOwn h
  rcases (hS.own hr).2.2 with ⟨h1, _⟩ | ⟨g, cap, cur, h1, _⟩
  · exact ⟨_, _, _, h1⟩
  · exact ⟨_, _, _, h1⟩
theorem At.one_val {x : At} (hS : Sat w0 ow γ hp w) (h : x.one hp) : (x.val γ).oneCell' = true := by
  cases x with
  | v x => exact h
  | p k o => rfl
  | s k o l c => rfl
  | o k => obtain ⟨A, n, m, e⟩ := own_slice hS h; simp only [At.val, e]; rfl
  | q k i => exact h.elim
  | z k l m => obtain ⟨A, n, m', e⟩ := own_slice hS h; simp only [At.val, e]; rfl
theorem run_storeAt {t : TypeId} {ad : Addr} {x : Value} {w' : World} (h : (storeVar t ad x).run P w = .ok () w') : (Instr.storeAt t (.pointer (some ad)) x).run P w = .ok () w' := by
  simp [Instr.storeAt, Instr.sureAddr, Sem.run_bind, h]
theorem Cont.over_vals {ct c' : Cont} {s : Sc} {h : Prop} (hS : Sat w0 ow γ hp w) (ho : ct.over hp s = some (h, c')) (hh : h) : s.val γ = .agg (c'.vals γ).toArray ∧ c'.len = ct.len ∧ ∀ u ∈ c'.vals γ, u.oneCell' = true := by
  unfold Cont.over at ho
  split at ho <;> first | (simp at ho; done) | (simp only [Option.some.injEq, Prod.mk.injEq] at ho; obtain ⟨rfl, rfl⟩ := ho)
  · exact ⟨rfl, hh, by simp [Cont.vals, Value.oneCell']⟩
  · exact ⟨rfl, hh, by simp [Cont.vals, Value.oneCell']⟩
  · exact ⟨rfl, hh, by simp [Cont.vals, Value.oneCell']⟩
  · refine ⟨rfl, hh.1, fun u hu => ?_⟩
    simp only [Cont.vals, List.mem_map] at hu
    obtain ⟨x, hx, rfl⟩ := hu
    exact At.one_val hS (hh.2 x hx)
theorem storeS_sound {t : TypeId} {sv sx : Sv} (hS : Sat w0 ow γ hp w) (h : storeS P t hp sv sx = some (c, v, hp')) (hc : c) :
    v = nil1 ∧ ∃ w', (Instr.storeAt t (sv.val γ) (sx.val γ)).run P w = .ok () w' ∧ Sat w0 ow γ hp' w' := by
  unfold storeS at h
  split at h
  · rename_i k off s
    split at h
    · rename_i e ct hr
      obtain ⟨hn, hb⟩ := hS.blk hr
      split at h
      · rename_i hf
        split at h
        · rename_i x
          split at h
          · rename_i hx c' hset
            simp only [Option.some.injEq, Prod.mk.injEq] at h
            obtain ⟨rfl, rfl, rfl⟩ := h
            obtain ⟨⟨h1, h2⟩, h3, h4⟩ := hc
            have h5 := At.one_val hS h3
            obtain ⟨hv, hl⟩ := Cont.set_val (γ := γ) hset h1
            refine ⟨rfl, _, run_storeAt (run_storeVar_flat h4 h5 (hS.cell hr h2) (hb.frozen off)), ?_⟩
            refine hS.update hr rfl (Keeps.setCell _ _ _ rfl) ⟨hn, ?_⟩ (.inl rfl)
            have := hb.set_ off (x.val γ)
            rw [hv]
            rw [List.setIfInBounds_toArray] at this
            exact this
          · simp at h
        · simp at h
      · split at h
        · rename_i hx c' hov
          simp only [Option.some.injEq, Prod.mk.injEq] at h
          obtain ⟨rfl, rfl, rfl⟩ := h
          obtain ⟨h1, rfl, h3, h4⟩ := hc
          obtain ⟨e1, e2, e3⟩ := Cont.over_vals (γ := γ) hS hov h1
          obtain ⟨i, hi, hsz⟩ := sz_info h3 (by omega)
          have hrun := run_storeVar_row (P := P) w (nmB γ k) e t (ct.vals γ).toArray (c'.vals γ).toArray hb (by rw [hi]; simp [Cont.len_vals, e2, hsz]) (by simp [Cont.len_vals, e2]) (by simpa using e3)
          refine ⟨rfl, w.setRow (nmB γ k) (c'.vals γ).toArray, ?_, ?_⟩
          · show (Instr.storeAt t (.pointer (some ⟨nmB γ k, 0, none⟩)) (s.val γ)).run P w = _
            rw [e1]
            exact run_storeAt hrun
          · exact hS.update hr rfl (Keeps.setRow w rfl) ⟨hn, hb.setRow rfl⟩ (.inl rfl)
        · simp at h
    · simp at h
  · rename_i k i x
    split at h
    · rename_i e ct hr
      obtain ⟨hn, ho⟩ := hS.own hr
      split at h
      · rename_i hf
        split at h
        · rename_i hx c' hset
          simp only [Option.some.injEq, Prod.mk.injEq] at h
          obtain ⟨rfl, rfl, rfl⟩ := h
          obtain ⟨⟨h1, h2⟩, h3, h4⟩ := hc
          have h5 := At.one_val hS h3
          obtain ⟨hv, hl⟩ := Cont.set_val (γ := γ) hset h1
          have hlen : 0 < (ct.vals γ).length := by rw [Cont.len_vals]; omega
          obtain ⟨g, cap, hg⟩ := ho.shape hlen
          have ho' := ho
          rw [hg] at ho'
          have hcell := World.ownsRow.cellAt ho' i (by rw [Cont.len_vals]; simpa using h2)
          have hfr := World.ownsRow.frozenAt ho' i
          obtain ⟨hst, _⟩ := World.ownsRow.stored ho' i (x.val γ)
          have e1 : (Sv.x (.a (.q k i))).val γ = .pointer (some ⟨g, i, none⟩) := by simp [Sv.val, Sc.val, At.val, hg]
          refine ⟨rfl, w.setCell ⟨g, i, none⟩ (x.val γ), ?_, ?_⟩
          · rw [e1]
            exact run_storeAt (run_storeVar_flat h4 h5 (by rw [hcell, Cont.get_val h2]) hfr)
          · refine hS.update hr (b := g) (by simp [Res.block, hg, Value.ownBlock]) (Keeps.setCell _ _ _ rfl) ⟨hn, ?_⟩ (.inl (by simp [Res.block, hg, Value.ownBlock]))
            unfold Own
            rw [hv, hg, List.length_set]
            exact hst
        · simp at h
      · simp at h
    · simp at h
  · simp at h
end
end Go.Proofs.YtkchdhkpjnnliaaDoor
