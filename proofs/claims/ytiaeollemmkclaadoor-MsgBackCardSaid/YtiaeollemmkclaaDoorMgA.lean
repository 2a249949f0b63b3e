import Derived.Test.YtiaeollemmkclaaDoorMg9
/- Layer 16: msg.read of peers. -/
namespace Go.Proofs.YtiaeollemmkclaaDoor
open Go.RowKit
set_option linter.unusedSimpArgs false
set_option linter.unusedVariables false
attribute [local irreducible] Callable CallOK CallG CallM DrawG LoopG symR symM
attribute [local irreducible] mgO wiM chkS may chI okV mayErr intsU numS numsOfS rowOfS sumOfS idsQ pubQ zipQ
section
variable {X : Nat → Prop} {w : World} {s : RS} {m : MgS} {p : Nat}
theorem zipQ_def (s : RS) : zipQ s = (intsU (idsQ s).1).zip (pubQ s).1 := by unfold zipQ; rfl
theorem zipQ_all (h : (idsQ s).1.length = (pubQ s).1.length) : ((intsU (idsQ s).1).zip (pubQ s).1).take (idsQ s).1.length = zipQ s := by
  rw [zipQ_def, List.take_of_length_le (by rw [List.length_zip, intsU_len]; omega)]
set_option maxRecDepth 100000 in
set_option maxHeartbeats 4000000 in
theorem read16_ps (hs : s.Ok X w) (hm : m.In p) (hp : p ≤ 1000) : RdM 112 s (pubQ s).2 m (if (idsQ s).1.length = (pubQ s).1.length then { m with ps := m.ps ++ zipQ s } else m) (decide ((idsQ s).1.length = (pubQ s).1.length)) X w := fun g g2 γ hS => by
  obtain ⟨f0, f1, f2, f3, f4, f5, f38, f39, f40, f41, f42⟩ := mgO_get hm.sm 2 3 4 5
  obtain ⟨s0, s1, s2, s3, s4, s5, s38, s39, s40, s41, s42⟩ := mgO_set hm.sm 2 3 4 5
  have fl : ∀ a b c d, (mgO m a b c d).length = 43 := fun a b c d => mgO_len hm.sm
  have hXg := pin_own hS rfl
  have ob := fun (m : MgS) a b c d n => mgO_bnd m a b c d n
  simp only [At.bnd] at ob
  have g97 := chI_no (c := 112) (n := 97) (by decide) chI_97
  have g111 := chI_no (c := 112) (n := 111) (by decide) chI_111
  have g99 := chI_no (c := 112) (n := 99) (by decide) chI_99
  have g103 := chI_no (c := 112) (n := 103) (by decide) chI_103
  have g110 := chI_no (c := 112) (n := 110) (by decide) chI_110
  have g115 := chI_no (c := 112) (n := 115) (by decide) chI_115
  have g105 := chI_no (c := 112) (n := 105) (by decide) chI_105
  have g118 := chI_no (c := 112) (n := 118) (by decide) chI_118
  have g112 := chI_yes (c := 112) (n := 112) rfl chI_112
  obtain ⟨hq1, hq2⟩ := idsQ_facts s
  have hq3 := pubQ_facts s
  have hz := zipQ_len s
  have hmp := hm.ps
  obtain ⟨t1, ht1⟩ : ∃ t1, t1 = (idsQ s).2 := ⟨_, rfl⟩
  obtain ⟨t, ht⟩ : ∃ t, t = (pubQ s).2 := ⟨_, rfl⟩
  have hR1 : ∀ X w, s.Ok X w → RdG 12 [.x (.a (.v (.int .i64 64))), .x (.a (.v (.int .u64 63)))] (.x (.a (.o 1))) s t1 [.own 27 (.u64 (idsQ s).1)] X w := fun X w h => by rw [ht1]; unfold idsQ; exact rnums_any 64 63 (by decide) h
  have hR2 : ∀ X w, t1.Ok X w → RdG 12 [.x (.a (.v (.int .i64 64))), .x (.a (.v (.int .u64 2305843009213693950)))] (.x (.a (.o 1))) t1 t [.own 27 (.u64 (pubQ s).1)] X w := fun X w h => by rw [ht, ht1]; unfold pubQ; rw [← ht1]; exact rnums_any 64 pm1 (by decide) h
  have hs1 : t1.Ok X w := by rw [ht1]; unfold idsQ; exact numsOfS_ok hs
  rw [← ht]
  refine calls_fun (n := 123) Tryd.func93 rfl Tryd.ntmps93 _ hS (by simp) (.x (.a (.v (.bool (decide ((idsQ s).1.length = (pubQ s).1.length)))))) _ ?_
  simp (config := { maxSteps := 1000000 }) only [g97, g111, g99, g103, g110, g115, g105, g118, g112, push_cast, ↓reduceIte, reduceCtorEq, Nat.reduceEqDiff, Nat.reduceLT, Nat.reduceAdd]
  (repeat (refine And.intro (by first | omega | decide) ?_))
  refine callG_rule rfl cb12 rfl (rmethK (k0 := 0) (s := s) (args := [.x (.a (.v (.int .i64 64))), .x (.a (.v (.int .u64 63)))]) (by simp (config := { maxSteps := 1000000 }) only [ob, pcs_forall, push_cast, Nat.reduceLT, Nat.reduceAdd]) rfl (by simp only [push_cast, Nat.reduceAdd]) (by simp only [push_cast, Nat.reduceLT, Nat.reduceAdd]) (fun _ _ => rfl) (far_here hs rfl hXg) hR1) (dOk_lt rfl) (fun _ => by simp (config := { maxSteps := 1000000 }) only [ob, pcs_forall, push_cast, Nat.reduceLT, Nat.reduceAdd]) ?_
  simp (config := { maxSteps := 1000000 }) only [pcs_ren, ↓mgO_cren, push_cast, ↓reduceIte, reduceCtorEq, Nat.reduceEqDiff, Nat.reduceLT, Nat.reduceAdd]
  (repeat (refine And.intro (by first | omega | decide) ?_))
  refine callG_rule rfl cb12 rfl (rmethK (k0 := 0) (s := t1) (args := [.x (.a (.v (.int .i64 64))), .x (.a (.v (.int .u64 2305843009213693950)))]) (by simp (config := { maxSteps := 1000000 }) only [ob, pcs_forall, push_cast, Nat.reduceLT, Nat.reduceAdd]) rfl (by simp only [push_cast, Nat.reduceAdd]) (by simp only [push_cast, Nat.reduceLT, Nat.reduceAdd]) (fun _ _ => rfl) (far_here hs1 rfl hXg) hR2) (dOk_lt rfl) (fun _ => by simp (config := { maxSteps := 1000000 }) only [ob, pcs_forall, push_cast, Nat.reduceLT, Nat.reduceAdd]) ?_
  by_cases hl : (idsQ s).1.length = (pubQ s).1.length
  case neg =>
    have hl2 : ¬ ((idsQ s).1.length : Int) = (pubQ s).1.length := by omega
    rw [if_neg hl, decide_eq_false hl]
    simp (config := { maxSteps := 1000000 }) only [pcs_ren, ↓mgO_cren, hl2, push_cast, ↓reduceIte, Nat.reduceEqDiff, Nat.reduceLT, Nat.reduceAdd]
    refine endsAs [0, 1, 2, 3, 4, 5] ?_
    simp (config := { maxSteps := 1000000 }) only [ob, pcs_ren, pcs_forall, ↓mgO_cren, push_cast, ↓reduceIte, reduceCtorEq, Nat.reduceEqDiff, Nat.reduceLT, Nat.reduceAdd]
    done
  have hl2 : ((idsQ s).1.length : Int) = (pubQ s).1.length := by omega
  rw [if_pos hl, decide_eq_true hl]
  simp (config := { maxSteps := 1000000 }) only [pcs_ren, ↓mgO_cren, hl2, push_cast, ↓reduceIte, Nat.reduceEqDiff, Nat.reduceLT, Nat.reduceAdd]
  (repeat (refine And.intro (by first | omega | decide) ?_))
  obtain ⟨Z, hZ⟩ : ∃ Z, Z = (intsU (idsQ s).1).zip (pubQ s).1 := ⟨_, rfl⟩
  have hza : Z.take (pubQ s).1.length = zipQ s := by rw [hZ, ← hl, zipQ_all hl]
  have hz0 : m.ps ++ Z.take 0 = m.ps := by rw [List.take_zero, List.append_nil]
  refine loop_rule (ι := Nat) (fun i => ⟨[(1, .x (.a (.p 1 0))), (8, .x (.a (.o 7))), (84, .x (.a (.o 6))), (85, .x (.a (.v (.int .i64 (pubQ s).1.length)))), (86, .x (.a (.v (.int .i64 i))))], [.pin g 132 (.c [.v (.slice t.A t.l.length t.c), .v (.bool t.bad)]), .pin g2 89 (.c (mgO m 2 3 4 5)), .own 3 (.i64 m.ids), .own 27 (.u64 m.ns), .onn 160 2 (.c (pcs (m.ps ++ Z.take i))), .own 136 (.u32 m.xs), .own 27 (.u64 (idsQ s).1), .own 27 (.u64 (pubQ s).1)]⟩) (fun i => i ≤ (pubQ s).1.length) (fun i => (pubQ s).1.length - i) 0 [0, 1, 2, 3, 4, 5, 7, 9] (Nat.zero_le _) ?_ ?_
  · simp (config := { maxSteps := 1000000 }) only [ob, pcs_ren, pcs_forall, ↓mgO_cren, push_cast, ↓Int.cast_ofNat_Int, Int.cast_ofNat_Int, ↓reduceIte, reduceCtorEq, Nat.reduceEqDiff, Nat.reduceLT, Nat.reduceAdd]
  intro i hi
  by_cases hlt : (i : Int) < (pubQ s).1.length
  · have hil : i < (pubQ s).1.length := by omega
    have hil2 : i < (idsQ s).1.length := by omega
    have hlt2 : (i : Int) < (idsQ s).1.length := by omega
    have i0 : (0 : Int) ≤ i := by omega
    have hzn : Z.take (i + 1) = Z.take i ++ [(n64 (ix (idsQ s).1 i), ix (pubQ s).1 i)] := by rw [hZ]; exact zip_next _ _ i hil2 hil
    have hmem : ix (idsQ s).1 i ∈ (idsQ s).1 := by
      rw [ix, List.getD_eq_getElem?_getD, List.getElem?_eq_getElem hil2]
      exact List.getElem_mem hil2
    have hv := hq2 _ hmem
    have hn : n64 (ix (idsQ s).1 i) = (((ix (idsQ s).1 i).toNat : Nat) : Int) := rfl
    have hx : -9223372036854775808 ≤ n64 (ix (idsQ s).1 i) := by omega
    have hx2 : n64 (ix (idsQ s).1 i) ≤ 9223372036854775807 := by omega
    have hpl : (m.ps ++ Z.take i).length = m.ps.length + i := by
      rw [List.length_append, List.length_take, hZ, List.length_zip, intsU_len]
      omega
    have e3 : (m.ps.length + i) * 2 / 2 = m.ps.length + i := Nat.mul_div_cancel _ (by omega)
    have b1 : (m.ps.length + i + 1) * 16 ≤ 140737488355328 := by omega
    have b2 : m.ps.length + i + 1 ≤ 2 ^ 63 - 1 := by omega
    have nx : (i : Int) + 1 ≤ 9223372036854775807 := by omega
    have nx0 : -9223372036854775808 ≤ (i : Int) + 1 := by omega
    have hap : pcs (m.ps ++ Z.take i) ++ [.v (.int .i64 (n64 (ix (idsQ s).1 i))), .v (vU64 (ix (pubQ s).1 i))] = pcs (m.ps ++ Z.take (i + 1)) := by
      rw [hzn, ← List.append_assoc, pcs_app (m.ps ++ Z.take i), pcs_cons, pcs_nil]
    simp (config := { maxSteps := 1000000 }) only [hlt, hlt2, i0, push_cast, ↓Int.toNat_natCast, ↓reduceIte, Nat.reduceEqDiff, Nat.reduceLT, Nat.reduceAdd]
    (repeat (refine And.intro (by first | omega | decide) ?_))
    refine drawVT_rule 8 [4] 16 (.rd 0 (.rd 1 (.rd 2 (.rd 3 (.rd 4 (.rd 5 (.rd 6 (.rd 7 (.rd 8 (.rd 9 (.rd 10 (.wr 11 (.wr 12 (.wr 13 (.rd 14 (.rd 15 .nil)))))))))))))))) ⟨[(1, .x (.a (.p 1 0))), (8, .x (.a (.o 7))), (84, .x (.a (.o 6))), (85, .x (.a (.v (.int .i64 (pubQ s).1.length)))), (86, .x (.a (.v (.int .i64 i)))), (104, .x (.a (.o 8))), (106, .x (.a (.p 1 40)))], [.pin g 132 (.c [.v (.slice t.A t.l.length t.c), .v (.bool t.bad)]), .pin g2 89 (.c (mgO m 2 3 4 5)), .own 3 (.i64 m.ids), .own 27 (.u64 m.ns), .gone, .own 136 (.u32 m.xs), .own 27 (.u64 (idsQ s).1), .own 27 (.u64 (pubQ s).1), .onn 160 2 (.c (pcs (m.ps ++ Z.take (i + 1))))]⟩ (by kernel_rfl) (by kernel_rfl) (Nat.le_refl 8) ?_ ?_
    · simp (config := { maxSteps := 1000000 }) only [ob, fl, f40, pcs_forall, pcs_len, hlt, i0, hx, hx2, hpl, e3, b1, b2, hap, undef, push_cast, ↓Int.toNat_natCast, ↓reduceIte, reduceCtorEq, Nat.reduceEqDiff, Nat.reduceLT, Nat.reduceLeDiff, Nat.reduceAdd, Nat.reduceSub, Nat.reduceMul, Int.reduceNeg]
      (repeat (refine And.intro (by first | omega | decide) ?_))
      refine leads_le [0, 1, 2, 3, 4, 5, 6, 7, 9] ?_
      simp (config := { maxSteps := 1000000 }) only [ob, pcs_ren, pcs_forall, ↓mgO_cren, push_cast, ↓reduceIte, reduceCtorEq, Nat.reduceEqDiff, Nat.reduceLT, Nat.reduceAdd]
      done
    · simp (config := { maxSteps := 1000000 }) only [fl, s40, nx, nx0, undef, push_cast, ↓reduceIte, Nat.reduceEqDiff, Nat.reduceLT, Nat.reduceAdd, Int.reduceNeg]
      (repeat (refine And.intro (by first | omega | decide) ?_))
      refine loopK_normal (i + 1) [0, 1, 2, 3, 8, 5, 6, 7] (by omega) (by omega) ?_
      simp (config := { maxSteps := 1000000 }) only [ob, pcs_ren, pcs_forall, ↓mgO_cren, push_cast, ↓reduceIte, reduceCtorEq, Nat.reduceEqDiff, Nat.reduceLT, Nat.reduceAdd]
      done
  · obtain rfl : i = (pubQ s).1.length := by omega
    simp (config := { maxSteps := 1000000 }) only [hlt, hza, push_cast, ↓reduceIte, Nat.reduceEqDiff, Nat.reduceLT, Nat.reduceAdd]
    refine endsAs [0, 1, 2, 3, 4, 5] ?_
    rw [mgO_ps m 2 3 4 5 (m.ps ++ zipQ s)]
    simp (config := { maxSteps := 1000000 }) only [ob, pcs_ren, pcs_forall, ↓mgO_cren, push_cast, ↓reduceIte, reduceCtorEq, Nat.reduceEqDiff, Nat.reduceLT, Nat.reduceAdd]
    done
end
end Go.Proofs.YtiaeollemmkclaaDoor
