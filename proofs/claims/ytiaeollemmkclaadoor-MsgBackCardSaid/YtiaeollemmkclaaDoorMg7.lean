import Derived.Test.YtiaeollemmkclaaDoorMg6
/- Layer 16: msg.Encode. -/
namespace Go.Proofs.YtiaeollemmkclaaDoor
open Go.RowKit
set_option linter.unusedSimpArgs false
set_option linter.unusedVariables false
/-- The blocks of a message's first fields. -/
def encTo (m : MgS) (i : Nat) : List (List UInt8) := putV m.k.toUInt64 :: ((formL m.k).take i).flatMap (blkF m)
theorem encTo_zero (m : MgS) : encTo m 0 = [putV m.k.toUInt64] := rfl
theorem encTo_next (m : MgS) {i : Nat} (h : i < (formL m.k).length) : encTo m (i + 1) = encTo m i ++ blkF m (ix (formL m.k) i) := by
  unfold encTo
  rw [take_ix h, List.flatMap_append, List.cons_append]
  simp
theorem flat_flat (m : MgS) (l : List UInt8) : (l.flatMap (blkF m)).flatten = l.flatMap (fbM m) := by
  induction l with
  | nil => rfl
  | cons c l ih => rw [List.flatMap_cons, List.flatten_append, List.flatMap_cons, ih]; rfl
theorem encTo_all (m : MgS) : (encTo m (formL m.k).length).flatten = encM m := by
  unfold encTo encM
  rw [List.take_length, List.flatten_cons, flat_flat]
def lettersAll : List UInt8 := [97, 111, 99, 103, 110, 115, 105, 118, 112, 120, 114]
theorem form_letter {k c : UInt8} (h : c ∈ formL k) : c ∈ lettersAll := by
  have h1 : ∀ l ∈ formsAll, ∀ c ∈ l, c ∈ lettersAll := by decide
  exact h1 _ (form_mem k) c h
theorem blkF_yes (m : MgS) {c : UInt8} (h : c ∈ lettersAll) : blkF m c ≠ [] := by
  simp only [lettersAll, List.mem_cons, List.not_mem_nil, or_false] at h
  rcases h with rfl | rfl | rfl | rfl | rfl | rfl | rfl | rfl | rfl | rfl | rfl <;> exact fun e => by cases e
structure MgS.Few (m : MgS) : Prop where
  sm : m.sm.length = 32
  ids : m.ids.length ≤ 1000
  ns : m.ns.length ≤ 1000
  ps : m.ps.length ≤ 1000
  xs : m.xs.length ≤ 1000
theorem MgR.Ok.few {m : MgR} {w : World} (h : m.Ok w) : m.mg.Few := ⟨h.s, h.ids.few, h.ns.few, h.ps.few, h.xs.few⟩
theorem putV_le (v : UInt64) : (putV v).length ≤ 9 := (putV_length v).2
theorem lenV_le {α : Type} (l : List α) : (lenV l).length ≤ 9 := putV_le _
theorem blk_len {m : MgS} (hf : m.Few) {c : UInt8} (h : c ∈ lettersAll) : (blkF m c).flatten.length ≤ 20000 := by
  simp only [lettersAll, List.mem_cons, List.not_mem_nil, or_false] at h
  have p := fun v => putV_le v
  have l1 := lenV_le (numsI m.ids)
  have l2 := lenV_le m.ns
  have l3 := lenV_le (numsI (idsP m.ps))
  have l4 := lenV_le (pubP m.ps)
  have l5 := lenV_le m.xs
  have n1 := numsB_len (numsI m.ids)
  have n2 := numsB_len m.ns
  have n3 := numsB_len (numsI (idsP m.ps))
  have n4 := numsB_len (pubP m.ps)
  have n5 := rowB_length m.xs
  rw [numsI_len] at n1
  rw [numsI_len, idsP_len] at n3
  rw [pubP_len] at n4
  have := hf.ids
  have := hf.ns
  have := hf.ps
  have := hf.xs
  have := hf.sm
  have one : ∀ b : List UInt8, b.length ≤ 10000 → [b].flatten.length ≤ 20000 := fun b hb => by simp; omega
  rcases h with rfl | rfl | rfl | rfl | rfl | rfl | rfl | rfl | rfl | rfl | rfl
  · exact one _ (Nat.le_trans (p _) (by decide))
  · exact one _ (Nat.le_trans (p _) (by decide))
  · exact one _ (Nat.le_trans (p _) (by decide))
  · exact one _ (Nat.le_trans (p _) (by decide))
  · exact one _ (Nat.le_trans (p _) (by decide))
  · exact one m.sm (by omega)
  · exact one (lenV (numsI m.ids) ++ numsB (numsI m.ids)) (by rw [List.length_append]; omega)
  · exact one (lenV m.ns ++ numsB m.ns) (by rw [List.length_append]; omega)
  · show ([lenV (numsI (idsP m.ps)) ++ numsB (numsI (idsP m.ps)), lenV (pubP m.ps) ++ numsB (pubP m.ps)] : List (List UInt8)).flatten.length ≤ 20000
    simp only [List.flatten_cons, List.flatten_nil, List.append_nil, List.length_append]
    omega
  · exact one (lenV m.xs ++ rowB m.xs) (by rw [List.length_append]; omega)
  · exact one _ (Nat.le_trans (p _) (by decide))
theorem encTo_len {m : MgS} (hf : m.Few) : ∀ i, i ≤ (formL m.k).length → (encTo m i).flatten.length ≤ 9 + i * 20000
  | 0, _ => by
    have := putV_le m.k.toUInt64
    rw [encTo_zero]
    simp only [List.flatten_cons, List.flatten_nil, List.append_nil]
    omega
  | i + 1, h => by
    have h1 := encTo_len hf i (by omega)
    have hl : i < (formL m.k).length := by omega
    have hm : ix (formL m.k) i ∈ formL m.k := by
      rw [ix, List.getD_eq_getElem?_getD, List.getElem?_eq_getElem hl]
      exact List.getElem_mem hl
    have h2 := blk_len hf (form_letter hm)
    rw [encTo_next m hl, List.flatten_append, List.length_append]
    omega
theorem form_len (k : UInt8) : (formL k).length ≤ 6 := by
  have h1 : ∀ l ∈ formsAll, l.length ≤ 6 := by decide
  exact h1 _ (form_mem k)
theorem totB_rev (l : List (List UInt8)) : totB l.reverse = l.flatten.length := by
  unfold totB
  simp [List.length_flatten]
theorem allB_rev (l : List (List UInt8)) : allB l.reverse = l.flatten := by
  unfold allB
  rw [List.reverse_reverse]
attribute [local irreducible] Callable CallOK CallG CallM DrawG LoopG symR symM
attribute [local irreducible] mgA wiM chkS may chI okV mayErr putV numsB rowB lenV numsI intsU idsP pubP blkF encTo formS allB totB
section
set_option maxRecDepth 100000 in
theorem encode_no (m : MgR) (w : World) (hm : m.Ok w) (hc : chkM m.mg = false) : Calls Tryd.prog 38 (List.map (Sv.val []) [.x (.g (mgA m))]).toArray w fun e w' => e = .returned (.tuple #[.slice none 0 0, okV false 1]) ∧ Below w.heap.size w w' := by
  have f0 := (mgA_get hm.s).1
  have fl := mgA_len hm.s
  have fb := fun n => mgA_bnd m n
  simp only [At.bnd] at fb
  have hF := okV_false 1
  refine calls_v (n := 28) Tryd.func38 rfl Tryd.ntmps38 [.x (.g (mgA m))] (by simp) (.t [.a (.v (.slice none 0 0)), .a (.v (okV false 1))]) (fun _ => rfl) ?_
  simp (config := { maxSteps := 1000000 }) only [fb, fl, ↓mgA_cont, push_cast, ↓reduceIte, Nat.reduceEqDiff, Nat.reduceLT]
  (repeat (refine And.intro (by first | omega | decide) ?_))
  refine callG_v rfl cb43 rfl (checkMK (showsMg_raw hm)) (dOk_lt rfl) ?_
  simp (config := { maxSteps := 1000000 }) only [hc, hF, push_cast, ↓reduceIte, Nat.reduceEqDiff, Nat.reduceLT]
  done
set_option maxRecDepth 100000 in
set_option maxHeartbeats 2000000 in
theorem encode_yes (m : MgR) (w : World) (hm : m.Ok w) (hc : chkM m.mg = true) : Calls Tryd.prog 38 (List.map (Sv.val []) [.x (.g (mgA m))]).toArray w fun en w' => ∃ v', en = .returned (.tuple #[v', .nilIface]) ∧ Own w' w.heap.size 5 v' ((encM m.mg).map vU8) ∧ Below w.heap.size w w' := by
  have f0 := (mgA_get hm.s).1
  have fl := mgA_len hm.s
  have fb := fun n => mgA_bnd m n
  simp only [At.bnd] at fb
  have hT := okV_true 1
  have few := hm.few
  have hp1 := putV_le m.k.toUInt64
  have fle := form_len m.k
  have e0 : putV m.k.toUInt64 = putV m.k.toUInt64 ++ [] := (List.append_nil _).symm
  refine calls_own2 (n := 28) Tryd.func38 rfl Tryd.ntmps38 [.x (.g (mgA m))] (by simp) 5 (.u8 (encM m.mg)) .nilIface (fun _ => rfl) ?_
  simp (config := { maxSteps := 1000000 }) only [fb, fl, ↓mgA_cont, push_cast, ↓reduceIte, Nat.reduceEqDiff, Nat.reduceLT]
  (repeat (refine And.intro (by first | omega | decide) ?_))
  refine callG_v rfl cb43 rfl (checkMK (showsMg_raw hm)) (dOk_lt rfl) ?_
  simp (config := { maxSteps := 1000000 }) only [fb, fl, f0, hc, hT, undef, push_cast, ↓reduceIte, reduceCtorEq, Nat.reduceEqDiff, Nat.reduceLT, Nat.reduceAdd]
  (repeat (refine And.intro (by first | omega | decide) ?_))
  refine callG_leads (leads_abs 1 0 47 _ (.pointer none) (ChR 125 []) rfl rfl (fun w => rfl) (by simp only [fb, push_cast, Nat.reduceLT, Nat.reduceAdd])) ?_
  simp (config := { maxSteps := 1000000 }) only [push_cast, Nat.reduceAdd]
  refine callG_rule rfl cb60 rfl (methK (k0 := 1) (k1 := 2) (n := 0) (r := []) (b := putV m.k.toUInt64) (args := [.x (.a (.v (vU64 m.k.toUInt64)))]) (by omega) (by decide) (by simp (config := { maxSteps := 1000000 }) only [fb, push_cast, Nat.reduceLT, Nat.reduceAdd]) rfl rfl (fun _ _ => rfl) fun γ w hS X hX => num_any m.k.toUInt64) (dOk_lt rfl) (fun _ => by simp (config := { maxSteps := 1000000 }) only [fb, push_cast, Nat.reduceLT, Nat.reduceAdd]) ?_
  simp (config := { maxSteps := 1000000 }) only [fl, f0, ↓mgA_cren, undef, push_cast, ↓reduceIte, reduceCtorEq, Nat.reduceEqDiff, Nat.reduceLT, Nat.reduceAdd]
  (repeat (refine And.intro (by first | omega | decide) ?_))
  refine callG_v rfl cb48 rfl (formK16 m.k) (dOk_lt rfl) ?_
  simp (config := { maxSteps := 1000000 }) only [fb, push_cast, ↓reduceIte, Nat.reduceLT, Nat.reduceAdd]
  (repeat (refine And.intro (by first | omega | decide) ?_))
  have z1 : (encTo m.mg 0).reverse = [putV m.k.toUInt64] := by rw [encTo_zero]; rfl
  have z2 : (encTo m.mg 0).flatten.length = (putV m.k.toUInt64).length := by rw [encTo_zero]; simp only [List.flatten_cons, List.flatten_nil, List.append_nil]; rfl
  refine loop_rule (ι := Nat) (fun i => ⟨[(1, .x (.a (.p 0 0))), (5, .x (.a (.p 1 0))), (20, .x (.a (.p 3 0)))], [.blk 89 (.c (mgA m)), .blk 47 (.c [.o 2, .v (.int .i64 ((encTo m.mg i).flatten.length : Nat))]), .abs (ChR 125 (encTo m.mg i).reverse), .it (formS m.k) i]⟩)
    (fun i => i ≤ (formS m.k).size) (fun i => (formS m.k).size - i) 0 [0, 1, 4, 5] (Nat.zero_le _) ?_ ?_
  · simp (config := { maxSteps := 1000000 }) only [fb, ↓mgA_cren, z1, z2, push_cast, ↓reduceIte, reduceCtorEq, Nat.reduceEqDiff, Nat.reduceLT, Nat.reduceAdd]
  intro i hi
  have hfl : (formS m.k).size = (formL m.k).length := by rw [form_size]
  have hn := encTo_len few i (by show i ≤ (formL m.k).length; omega)
  by_cases hlt : i < (formS m.k).size
  · have hd := form_dec hlt
    have hil : i < (formL m.k).length := by omega
    have hmem : ix (formL m.k) i ∈ lettersAll := form_letter (k := m.k) (by
      rw [ix, List.getD_eq_getElem?_getD, List.getElem?_eq_getElem hil]
      exact List.getElem_mem hil)
    have hs := encTo_next m.mg (i := i) hil
    rw [show m.mg.k = m.k from rfl] at hs
    have hbl := blk_len few hmem
    generalize ix (formL m.k) i = c at *
    have hs1 : (encTo m.mg (i + 1)).reverse = (blkF m.mg c).reverse ++ (encTo m.mg i).reverse := by rw [hs, List.reverse_append]
    have hs2 : (encTo m.mg (i + 1)).flatten.length = (encTo m.mg i).flatten.length + (blkF m.mg c).flatten.length := by rw [hs, List.flatten_append, List.length_append]
    have hcc : ((c.toNat : Nat) : Int) = chI c := by unfold chI; rfl
    simp (config := { maxSteps := 1000000 }) only [fl, hlt, hd, hcc, push_cast, ↓reduceIte, Nat.reduceEqDiff, Nat.reduceLT, Nat.reduceAdd]
    (repeat (refine And.intro (by first | omega | decide) ?_))
    refine callG_rule rfl cb89 rfl (methSS (k0 := 1) (k1 := 2) (n := (encTo m.mg i).flatten.length) (r := (encTo m.mg i).reverse) (bs := blkF m.mg c) (args := [.x (.g (mgA m)), .x (.a (.v (.int .i32 (chI c))))]) (by omega) (by decide) (by simp (config := { maxSteps := 1000000 }) only [fb, push_cast, Nat.reduceLT, Nat.reduceAdd]) rfl rfl (fun γ γ' => by rw [List.map_cons, mgA_same m γ γ']; rfl) fun γ w hS X hX => write16_any m c (hm.x hS fun b hb => by
      obtain ⟨k, r, _, h⟩ := hX b hb
      exact ⟨k, r, h⟩) (blkF_yes _ hmem)) (dOk_lt rfl) (fun _ => by simp (config := { maxSteps := 1000000 }) only [fb, push_cast, Nat.reduceLT, Nat.reduceAdd]) ?_
    simp (config := { maxSteps := 1000000 }) only [↓mgA_cren, push_cast, ↓reduceIte, Nat.reduceEqDiff, Nat.reduceLT, Nat.reduceAdd]
    (repeat (refine And.intro (by first | omega | decide) ?_))
    refine loopK_normal (i + 1) [0, 1, 5, 3] (by omega) (by omega) ?_
    simp (config := { maxSteps := 1000000 }) only [fb, ↓mgA_cren, hs1, hs2, push_cast, ↓reduceIte, reduceCtorEq, Nat.reduceEqDiff, Nat.reduceLT, Nat.reduceAdd]
    done
  · obtain rfl : i = (formS m.k).size := by omega
    rw [hfl] at hn
    have hea := encTo_all m.mg
    rw [show m.mg.k = m.k from rfl, ← hfl] at hea
    have ht : totB (encTo m.mg (formS m.k).size).reverse = (encTo m.mg (formS m.k).size).flatten.length := totB_rev _
    have hal : allB (encTo m.mg (formS m.k).size).reverse = encM m.mg := by rw [allB_rev, hea]
    simp (config := { maxSteps := 1000000 }) only [hlt, push_cast, ↓reduceIte, Nat.reduceEqDiff, Nat.reduceLT, Nat.reduceAdd]
    (repeat (refine And.intro (by first | omega | decide) ?_))
    refine callG_x rfl cb10 rfl (allK (k0 := 1) (k1 := 2) (r := (encTo m.mg (formS m.k).size).reverse) (by rw [ht, hfl]; omega) (by simp (config := { maxSteps := 1000000 }) only [fb, push_cast, Nat.reduceLT, Nat.reduceAdd]) (by rw [ht]; rfl) rfl) (dOk_lt rfl) (by simp (config := { maxSteps := 1000000 }) only [fb, push_cast, Nat.reduceLT, Nat.reduceAdd]) ?_
    simp (config := { maxSteps := 1000000 }) only [hal, push_cast, ↓reduceIte, Nat.reduceEqDiff, Nat.reduceLT, Nat.reduceAdd]
    done
theorem encodeK_no {w0 : World} {hp : List Res} {s : Sv} {m : MgS} (h : ShowsMg w0 hp s m) (hc : chkM m = false) : CallOK Tryd.prog w0 No 38 [s] hp (.t [.a (.v (.slice none 0 0)), .a (.v (okV false 1))]) hp := callOK_v fun γ w hS => by
  obtain ⟨a, e, h1, rfl⟩ := h γ w hS
  have e : List.map (Sv.val γ) [s] = List.map (Sv.val []) [.x (.g (mgA a))] := by
    simp only [List.map_cons, List.map_nil, e, mgA_sv]
  rw [e]
  exact encode_no a w h1 hc
theorem encodeK_yes {w0 : World} {hp : List Res} {s : Sv} {m : MgS} (h : ShowsMg w0 hp s m) (hc : chkM m = true) (hbr : ∀ r ∈ hp, Res.bnd hp.length r) : CallOK Tryd.prog w0 No 38 [s] hp (.t [.a (.o hp.length), .a (.v .nilIface)]) (hp ++ [.own 5 (.u8 (encM m))]) := callOK_own2 hbr trivial fun γ w hS => by
  obtain ⟨a, e, h1, rfl⟩ := h γ w hS
  have e : List.map (Sv.val γ) [s] = List.map (Sv.val []) [.x (.g (mgA a))] := by
    simp only [List.map_cons, List.map_nil, e, mgA_sv]
  rw [e]
  exact encode_yes a w h1 hc
theorem encM_len {m : MgS} (hf : m.Few) : (encM m).length ≤ 200000 := by
  have h1 := encTo_len hf (formL m.k).length (Nat.le_refl _)
  have h2 := form_len m.k
  rw [encTo_all] at h1
  omega
end
end Go.Proofs.YtiaeollemmkclaaDoor
