import Derived.Test.YtiaeollemmkclaaDoorPkK
import Derived.Test.YtiaeollemmkclaaDoorDrA
/- law 13's PackBack. -/
namespace Go.Proofs.YtiaeollemmkclaaDoor
open Go.RowKit
set_option linter.unusedSimpArgs false
set_option linter.unusedVariables false
/-- The fields written so far, the last first. -/
def wrL (l : List FdR) (i : Nat) : List (List UInt8) := ((l.take i).map fun f => putF f.fd).reverse
theorem wrL_succ {l : List FdR} {i : Nat} (h : i < l.length) : wrL l (i + 1) = putF (ix l i).fd :: wrL l i := by
  unfold wrL
  rw [List.take_add_one, List.getElem?_eq_getElem h, Option.toList_some, List.map_append, List.map_cons, List.map_nil, List.reverse_append, List.reverse_singleton, ix, List.getD_eq_getElem?_getD, List.getElem?_eq_getElem h]
  rfl
theorem wrL_tot {l : List FdR} (h : ∀ f ∈ l, (putF f.fd).length ≤ 700) : ∀ i, i ≤ l.length → totB (wrL l i) ≤ 700 * i
  | 0, _ => by simp [wrL, totB]
  | i + 1, hi => by
    rw [wrL_succ (by omega), totB_cons]
    have := wrL_tot h i (by omega)
    have := h (ix l i) (ix_mem (by omega))
    omega
theorem wrL_all (l : List FdR) : allB (wrL l l.length) = putFs (l.map FdR.fd) := by
  unfold allB wrL putFs
  rw [List.reverse_reverse, List.take_length, List.flatMap_def, List.map_map]
  rfl
def askR (f : FdR) : FdR := { f with many := 300, most := 18446744073709551615 }
theorem askR_fd (f : FdR) : (askR f).fd = askF f.fd := rfl
theorem askR_ok {f : FdR} {w : World} (h : f.Ok w) : (askR f).Ok w := ⟨h.l, h.b, h.s, h.x, by show (-9223372036854775808 : Int) ≤ 300; decide, by show (300 : Int) ≤ 9223372036854775807; decide⟩
theorem fdA_set {f : FdR} (h : f.s.length = 32) : ((fdA f).set 37 (.v (.int .i64 300))).set 38 (.v (.int .u64 18446744073709551615)) = fdA (askR f) := by
  unfold fdA askR
  have e : (f.s.map f8).length = 32 := by rw [List.length_map, h]
  rw [List.set_append_right _ _ (by show 4 ≤ 37; decide), List.set_append_right _ _ (by show 4 ≤ 38; decide), List.set_append_right _ _ (by rw [e]; show 32 ≤ 33; decide), List.set_append_right _ _ (by rw [e]; show 32 ≤ 34; decide), e]
  rfl
theorem putFs_drop {l : List FdR} {i : Nat} (h : i < l.length) : putFs ((l.drop i).map FdR.fd) = putF (ix l i).fd ++ putFs ((l.drop (i + 1)).map FdR.fd) := by
  rw [List.drop_eq_getElem_cons h, List.map_cons, ix, List.getD_eq_getElem?_getD, List.getElem?_eq_getElem h]
  rfl
theorem kindF_le (f : Fd) : (kindF f).l.length ≤ f.l.length ∧ (kindF f).x.length ≤ f.x.length := by
  unfold kindF zeroF
  split
  · exact ⟨Nat.zero_le _, Nat.zero_le _⟩
  · split
    · exact ⟨Nat.le_refl _, Nat.zero_le _⟩
    · split
      · exact ⟨Nat.zero_le _, Nat.zero_le _⟩
      · split
        · exact ⟨Nat.zero_le _, Nat.zero_le _⟩
        · exact ⟨Nat.zero_le _, Nat.le_refl _⟩
theorem fdA_v {f : FdR} {x : At} (h : x ∈ fdA f) : ∃ v, x = .v v ∧ v.oneCell' = true := by
  have h1 := of_eq_true (fdA_one f []) x h
  rw [fdA_eq] at h
  obtain ⟨v, _, rfl⟩ := List.mem_map.1 h
  exact ⟨v, rfl, h1⟩
attribute [local irreducible] Callable CallOK CallG CallM DrawG LoopG symR symM
attribute [local irreducible] fdA putF wrL totB rdA rdC rdT rdN
set_option maxRecDepth 100000 in
set_option maxHeartbeats 4000000 in
theorem packBack_any (l : List FdR) (A : Option Addr) (c : Nat) (cut : Nat) (w : World) (hcut : cut < 65536) (hR : RdV w w.heap.size A (l.flatMap fdW)) (hs : ∀ f ∈ l, f.s.length = 32) (hok : ∀ f ∈ l, f.Ok w) (hg : Handle w) :
    Calls Tryd.prog 4 #[.slice A l.length c, .int .u16 cut] w fun e w' => e = .returned (.bool true) ∧ Below w.heap.size w w' := by
  have F := FL.of hR hs
  refine calls_v (n := 91) Tryd.func4 rfl Tryd.ntmps4 [.x (.a (.v (.slice A l.length c))), .x (.a (.v (.int .u16 cut)))] (by simp) (.x (.a (.v (.bool true)))) (fun _ => rfl) ?_
  simp (config := { maxSteps := 1000000 }) only [undef, push_cast, ↓Int.toNat_natCast, ↓Int.cast_ofNat_Int, Int.cast_ofNat_Int, ↓reduceIte, reduceCtorEq, Nat.reduceEqDiff, Nat.reduceLT, Nat.reduceLeDiff, Nat.reduceAdd, Nat.reduceSub, Nat.reduceMul, Int.reduceNeg, Int.reduceLE, Int.reduceLT, Int.reduceToNat, Int.reduceAdd, Int.reduceSub, Int.reduceMul, Int.reduceEq]
  (repeat (refine And.intro (by first | omega | decide) ?_))
  refine callG_v rfl cb18 rfl (great13K hR hs) (dOk_lt rfl) ?_
  cases hgr : greatF (l.map FdR.fd) with
  | true =>
    simp (config := { maxSteps := 1000000 }) only [hgr, undef, push_cast, ↓Int.toNat_natCast, ↓Int.cast_ofNat_Int, Int.cast_ofNat_Int, ↓reduceIte, reduceCtorEq, Nat.reduceEqDiff, Nat.reduceLT, Nat.reduceLeDiff, Nat.reduceAdd, Nat.reduceSub, Nat.reduceMul, Int.reduceNeg, Int.reduceLE, Int.reduceLT, Int.reduceToNat, Int.reduceAdd, Int.reduceSub, Int.reduceMul, Int.reduceEq]
    (repeat (refine And.intro (by first | omega | decide) ?_))
    refine callG_v rfl cb19 rfl (sure13K hg) (dOk_lt rfl) ?_
    simp (config := { maxSteps := 1000000 }) only [undef, push_cast, ↓Int.toNat_natCast, ↓Int.cast_ofNat_Int, Int.cast_ofNat_Int, ↓reduceIte, reduceCtorEq, Nat.reduceEqDiff, Nat.reduceLT, Nat.reduceLeDiff, Nat.reduceAdd, Nat.reduceSub, Nat.reduceMul, Int.reduceNeg, Int.reduceLE, Int.reduceLT, Int.reduceToNat, Int.reduceAdd, Int.reduceSub, Int.reduceMul, Int.reduceEq]
    done
  | false =>
    obtain ⟨h20, hsm⟩ := greatF_no hgr
    rw [List.length_map] at h20
    have hsm2 : ∀ f ∈ l, f.l.l.length ≤ 60 ∧ f.b.l.length ≤ 300 ∧ f.x.l.length ≤ 60 := fun f hf => bigF_no (hsm _ (List.mem_map_of_mem hf))
    have hpm : ∀ f ∈ l, (putF f.fd).length ≤ 700 := fun f hf => putF_max (hsm2 f hf) (hs f hf)
    simp (config := { maxSteps := 1000000 }) only [hgr, undef, push_cast, ↓Int.toNat_natCast, ↓Int.cast_ofNat_Int, Int.cast_ofNat_Int, ↓reduceIte, reduceCtorEq, Nat.reduceEqDiff, Nat.reduceLT, Nat.reduceLeDiff, Nat.reduceAdd, Nat.reduceSub, Nat.reduceMul, Int.reduceNeg, Int.reduceLE, Int.reduceLT, Int.reduceToNat, Int.reduceAdd, Int.reduceSub, Int.reduceMul, Int.reduceEq]
    (repeat (refine And.intro (by first | omega | decide) ?_))
    refine loopG_leads (leads_abs 0 0 47 _ (.pointer none) (ChR 125 []) rfl rfl (fun w => rfl) (by simp only [push_cast, ↓Int.toNat_natCast, ↓Int.cast_ofNat_Int, Int.cast_ofNat_Int, ↓reduceIte, reduceCtorEq, Nat.reduceEqDiff, Nat.reduceLT, Nat.reduceLeDiff, Nat.reduceAdd, Nat.reduceSub, Nat.reduceMul, Int.reduceNeg, Int.reduceLE, Int.reduceLT, Int.reduceToNat, Int.reduceAdd, Int.reduceSub, Int.reduceMul, Int.reduceEq])) ?_
    refine loop_rule (ι := Nat) (fun i => ⟨[(0, .x (.a (.v (.slice A l.length c)))), (1, .x (.a (.v (.int .u16 cut)))), (5, .x (.a (.p 0 0))), (6, .x (.a (.v (.int .i64 i))))], [.blk 47 (.c [.o 1, .v (.int .i64 ((totB (wrL l i) : Nat) : Int))]), .abs (ChR 125 (wrL l i))]⟩) (fun i => i ≤ l.length) (fun i => l.length - i) 0 [0, 1] (by omega) ?_ ?_
    · have e0 : wrL l 0 = [] := by unfold wrL; rfl
      have e1 : totB [] = 0 := by unfold totB; rfl
      simp (config := { maxSteps := 1000000 }) only [e0, e1, push_cast, ↓Int.toNat_natCast, ↓Int.cast_ofNat_Int, Int.cast_ofNat_Int, ↓reduceIte, reduceCtorEq, Nat.reduceEqDiff, Nat.reduceLT, Nat.reduceLeDiff, Nat.reduceAdd, Nat.reduceSub, Nat.reduceMul, Int.reduceNeg, Int.reduceLE, Int.reduceLT, Int.reduceToNat, Int.reduceAdd, Int.reduceSub, Int.reduceMul, Int.reduceEq]
      done
    intro i hi
    by_cases hlt : (i : Int) < l.length
    · have hil : i < l.length := by omega
      have i0 : (0 : Int) ≤ i := by omega
      obtain ⟨w1, w2⟩ := F.whole i hil
      have hA := F.some_ (by omega)
      have fm := ix_mem hil
      have e1 := wrL_succ hil
      have e2 := totB_cons (putF (ix l i).fd) (wrL l i)
      have ht := wrL_tot hpm i (by omega)
      have hp7 := hpm _ fm
      obtain ⟨s1, s2, s3⟩ := hsm2 _ fm
      have fok := hok _ fm
      have fl := fdA_len fok.s
      have fb := fun n => fdA_bnd (ix l i) n
      simp only [At.bnd] at fb
      generalize ix l i = f at *
      simp (config := { maxSteps := 1000000 }) only [pAdd_add, pAdd_isSome, hlt, i0, w1, w2, fb, fl, hA, ↓fdA_cbnd, ↓fdA_sbnd, ↓fdA_vbnd, ↓fdA_cont, ↓fdA_cren, ↓fdA_sren, ↓fdA_vren, undef, push_cast, ↓Int.toNat_natCast, ↓Int.cast_ofNat_Int, Int.cast_ofNat_Int, ↓reduceIte, reduceCtorEq, Nat.reduceEqDiff, Nat.reduceLT, Nat.reduceLeDiff, Nat.reduceAdd, Nat.reduceSub, Nat.reduceMul, Int.reduceNeg, Int.reduceLE, Int.reduceLT, Int.reduceToNat, Int.reduceAdd, Int.reduceSub, Int.reduceMul, Int.reduceEq]
      (repeat (refine And.intro (by first | omega | decide) ?_))
      refine callG_rule rfl cb9 rfl (write13K (k0 := 0) (k1 := 1) (n := totB (wrL l i)) (r := wrL l i) (f := f) (by omega) (by decide) (by simp only [push_cast, ↓Int.toNat_natCast, ↓Int.cast_ofNat_Int, Int.cast_ofNat_Int, ↓reduceIte, reduceCtorEq, Nat.reduceEqDiff, Nat.reduceLT, Nat.reduceLeDiff, Nat.reduceAdd, Nat.reduceSub, Nat.reduceMul, Int.reduceNeg, Int.reduceLE, Int.reduceLT, Int.reduceToNat, Int.reduceAdd, Int.reduceSub, Int.reduceMul, Int.reduceEq]) rfl rfl fok (by omega) (by omega) (by omega)) (dOk_lt rfl) (fun _ => by simp only [fb, ↓fdA_cbnd, ↓fdA_sbnd, ↓fdA_vbnd, ↓fdA_cont, ↓fdA_cren, ↓fdA_sren, ↓fdA_vren, push_cast, ↓Int.toNat_natCast, ↓Int.cast_ofNat_Int, Int.cast_ofNat_Int, ↓reduceIte, reduceCtorEq, Nat.reduceEqDiff, Nat.reduceLT, Nat.reduceLeDiff, Nat.reduceAdd, Nat.reduceSub, Nat.reduceMul, Int.reduceNeg, Int.reduceLE, Int.reduceLT, Int.reduceToNat, Int.reduceAdd, Int.reduceSub, Int.reduceMul, Int.reduceEq]) ?_
      simp (config := { maxSteps := 1000000 }) only [fb, fl, ↓fdA_cbnd, ↓fdA_sbnd, ↓fdA_vbnd, ↓fdA_cont, ↓fdA_cren, ↓fdA_sren, ↓fdA_vren, undef, push_cast, ↓Int.toNat_natCast, ↓Int.cast_ofNat_Int, Int.cast_ofNat_Int, ↓reduceIte, reduceCtorEq, Nat.reduceEqDiff, Nat.reduceLT, Nat.reduceLeDiff, Nat.reduceAdd, Nat.reduceSub, Nat.reduceMul, Int.reduceNeg, Int.reduceLE, Int.reduceLT, Int.reduceToNat, Int.reduceAdd, Int.reduceSub, Int.reduceMul, Int.reduceEq]
      (repeat (refine And.intro (by first | omega | decide) ?_))
      refine loopK_normal (i + 1) [0, 3] (by omega) (by omega) ?_
      simp (config := { maxSteps := 1000000 }) only [e1, e2, Nat.add_comm, push_cast, ↓Int.toNat_natCast, ↓Int.cast_ofNat_Int, Int.cast_ofNat_Int, ↓reduceIte, reduceCtorEq, Nat.reduceEqDiff, Nat.reduceLT, Nat.reduceLeDiff, Nat.reduceAdd, Nat.reduceSub, Nat.reduceMul, Int.reduceNeg, Int.reduceLE, Int.reduceLT, Int.reduceToNat, Int.reduceAdd, Int.reduceSub, Int.reduceMul, Int.reduceEq]
      done
    · obtain rfl : i = l.length := by omega
      have htot := wrL_tot hpm l.length (Nat.le_refl _)
      simp (config := { maxSteps := 1000000 }) only [hlt, undef, push_cast, ↓Int.toNat_natCast, ↓Int.cast_ofNat_Int, Int.cast_ofNat_Int, ↓reduceIte, reduceCtorEq, Nat.reduceEqDiff, Nat.reduceLT, Nat.reduceLeDiff, Nat.reduceAdd, Nat.reduceSub, Nat.reduceMul, Int.reduceNeg, Int.reduceLE, Int.reduceLT, Int.reduceToNat, Int.reduceAdd, Int.reduceSub, Int.reduceMul, Int.reduceEq]
      (repeat (refine And.intro (by first | omega | decide) ?_))
      refine callG_x rfl cb10 rfl (allK (k0 := 0) (k1 := 1) (r := wrL l l.length) (by omega) (by simp only [push_cast, ↓Int.toNat_natCast, ↓Int.cast_ofNat_Int, Int.cast_ofNat_Int, ↓reduceIte, reduceCtorEq, Nat.reduceEqDiff, Nat.reduceLT, Nat.reduceLeDiff, Nat.reduceAdd, Nat.reduceSub, Nat.reduceMul, Int.reduceNeg, Int.reduceLE, Int.reduceLT, Int.reduceToNat, Int.reduceAdd, Int.reduceSub, Int.reduceMul, Int.reduceEq]) rfl rfl) (dOk_lt rfl) (by simp only [push_cast, ↓Int.toNat_natCast, ↓Int.cast_ofNat_Int, Int.cast_ofNat_Int, ↓reduceIte, reduceCtorEq, Nat.reduceEqDiff, Nat.reduceLT, Nat.reduceLeDiff, Nat.reduceAdd, Nat.reduceSub, Nat.reduceMul, Int.reduceNeg, Int.reduceLE, Int.reduceLT, Int.reduceToNat, Int.reduceAdd, Int.reduceSub, Int.reduceMul, Int.reduceEq]) ?_
      have hbl : (putFs (l.map FdR.fd)).length ≤ 14000 := by
        rw [← wrL_all, allB_length]; omega
      rw [wrL_all]
      obtain ⟨b, hb⟩ : ∃ b, b = putFs (l.map FdR.fd) := ⟨_, rfl⟩
      rw [← hb] at hbl ⊢
      simp (config := { maxSteps := 1000000 }) only [undef, push_cast, ↓Int.toNat_natCast, ↓Int.cast_ofNat_Int, Int.cast_ofNat_Int, ↓reduceIte, reduceCtorEq, Nat.reduceEqDiff, Nat.reduceLT, Nat.reduceLeDiff, Nat.reduceAdd, Nat.reduceSub, Nat.reduceMul, Int.reduceNeg, Int.reduceLE, Int.reduceLT, Int.reduceToNat, Int.reduceAdd, Int.reduceSub, Int.reduceMul, Int.reduceEq]
      (repeat (refine And.intro (by first | omega | decide) ?_))
      refine drawG_leads (s' := ⟨[(7, .x (.a (.o 0))), (0, .x (.a (.v (.slice A l.length c)))), (1, .x (.a (.v (.int .u16 cut))))], [.own 5 (.u8 b)]⟩) (leads_le [2] (by simp (config := { maxSteps := 1000000 }) only [push_cast, ↓Int.toNat_natCast, ↓Int.cast_ofNat_Int, Int.cast_ofNat_Int, ↓reduceIte, reduceCtorEq, Nat.reduceEqDiff, Nat.reduceLT, Nat.reduceLeDiff, Nat.reduceAdd, Nat.reduceSub, Nat.reduceMul, Int.reduceNeg, Int.reduceLE, Int.reduceLT, Int.reduceToNat, Int.reduceAdd, Int.reduceSub, Int.reduceMul, Int.reduceEq])) ?_
      obtain ⟨K, ⟨hK1, hK3⟩, hK2⟩ : ∃ K : Nat, (K ≤ b.length ∧ (0 < b.length → K < b.length)) ∧ Int.tmod (cut : Int) ((if (1 : Int) < (b.length : Int) then (b.length : Int) else 1)) = K := by
        refine ⟨(Int.tmod (cut : Int) ((if (1 : Int) < (b.length : Int) then (b.length : Int) else 1))).toNat, ?_, ?_⟩
        · have h1 := Int.tmod_lt_of_pos (cut : Int) (show 0 < (if (1 : Int) < (b.length : Int) then (b.length : Int) else 1) by split <;> omega)
          have h2 := Int.tmod_nonneg ((if (1 : Int) < (b.length : Int) then (b.length : Int) else 1)) (show 0 ≤ (cut : Int) by omega)
          omega
        · have h2 := Int.tmod_nonneg ((if (1 : Int) < (b.length : Int) then (b.length : Int) else 1)) (show 0 ≤ (cut : Int) by omega)
          omega
      have kc : (0 : Int) ≤ cut ∧ (cut : Int) < 65536 := by omega
      refine drawV_rule 1 [] (.rd 0 (.rd 2 (.rd 3 (.rd 4 (.rd 5 (.rd 6 (.rd 7 (.rd 8 (.rd 9 (.wr 1 (.wr 10 (.rd 11 (.rd 12 .nil))))))))))))) ⟨[(8, .x (.a (.p 1 0))), (9, .x (.a (.p 3 0))), (7, .x (.a (.o 0))), (0, .x (.a (.v (.slice A l.length c))))], [.own 5 (.u8 b), .blk 132 (.c [.o 2, .v (.bool false)]), .own 5 (.u8 b), .blk 132 (.c [.o 4, .v (.bool false)]), .own 5 (.u8 (b.take K))]⟩ (by kernel_rfl) (by kernel_rfl) (by kernel_rfl) (Nat.le_refl 1) ?_ ?_
      · have k0 : (0 : Int) ≤ K := by omega
        have k1 : (K : Int) ≤ b.length := by omega
        have k2 : ((K : Nat) : Int).toNat = K := Int.toNat_natCast K
        simp (config := { maxSteps := 1000000 }) only [kc, hK2, k0, k1, k2, Nat.sub_zero, undef, push_cast, ↓Int.toNat_natCast, ↓Int.cast_ofNat_Int, Int.cast_ofNat_Int, ↓reduceIte, reduceCtorEq, Nat.reduceEqDiff, Nat.reduceLT, Nat.reduceLeDiff, Nat.reduceAdd, Nat.reduceSub, Nat.reduceMul, Int.reduceNeg, Int.reduceLE, Int.reduceLT, Int.reduceToNat, Int.reduceAdd, Int.reduceSub, Int.reduceMul, Int.reduceEq]
        (repeat (refine And.intro (by first | omega | decide) ?_))
        refine callQ_rule rfl cb20 rfl (readNewK b (by omega) (by simp only [push_cast, ↓Int.toNat_natCast, ↓Int.cast_ofNat_Int, Int.cast_ofNat_Int, ↓reduceIte, reduceCtorEq, Nat.reduceEqDiff, Nat.reduceLT, Nat.reduceLeDiff, Nat.reduceAdd, Nat.reduceSub, Nat.reduceMul, Int.reduceNeg, Int.reduceLE, Int.reduceLT, Int.reduceToNat, Int.reduceAdd, Int.reduceSub, Int.reduceMul, Int.reduceEq]) (shows_own rfl (fun _ => rfl))) (dOk_lt rfl) (fun _ => by simp only [push_cast, ↓Int.toNat_natCast, ↓Int.cast_ofNat_Int, Int.cast_ofNat_Int, ↓reduceIte, reduceCtorEq, Nat.reduceEqDiff, Nat.reduceLT, Nat.reduceLeDiff, Nat.reduceAdd, Nat.reduceSub, Nat.reduceMul, Int.reduceNeg, Int.reduceLE, Int.reduceLT, Int.reduceToNat, Int.reduceAdd, Int.reduceSub, Int.reduceMul, Int.reduceEq]) rfl ?_
        simp (config := { maxSteps := 1000000 }) only [undef, push_cast, ↓Int.toNat_natCast, ↓Int.cast_ofNat_Int, Int.cast_ofNat_Int, ↓reduceIte, reduceCtorEq, Nat.reduceEqDiff, Nat.reduceLT, Nat.reduceLeDiff, Nat.reduceAdd, Nat.reduceSub, Nat.reduceMul, Int.reduceNeg, Int.reduceLE, Int.reduceLT, Int.reduceToNat, Int.reduceAdd, Int.reduceSub, Int.reduceMul, Int.reduceEq]
        (repeat (refine And.intro (by first | omega | decide) ?_))
        have sk : ∀ (hp : List Res), hp[0]? = some (.own 5 (.u8 b)) → Shows w No hp (.x (.a (.z 0 0 K))) ((b.take K).map vU8) := fun hp h => by
          have := shows_z (w0 := w) (ow := No) (k := 0) h (fun _ => rfl) 0 K (by simp; omega)
          rw [List.drop_zero, ← List.map_take] at this
          exact this
        refine callQ_rule rfl cb20 rfl (readNewK (b.take K) (by simp; omega) (by simp only [push_cast, ↓Int.toNat_natCast, ↓Int.cast_ofNat_Int, Int.cast_ofNat_Int, ↓reduceIte, reduceCtorEq, Nat.reduceEqDiff, Nat.reduceLT, Nat.reduceLeDiff, Nat.reduceAdd, Nat.reduceSub, Nat.reduceMul, Int.reduceNeg, Int.reduceLE, Int.reduceLT, Int.reduceToNat, Int.reduceAdd, Int.reduceSub, Int.reduceMul, Int.reduceEq]) (sk _ rfl)) (dOk_lt rfl) (fun _ => by simp only [push_cast, ↓Int.toNat_natCast, ↓Int.cast_ofNat_Int, Int.cast_ofNat_Int, ↓reduceIte, reduceCtorEq, Nat.reduceEqDiff, Nat.reduceLT, Nat.reduceLeDiff, Nat.reduceAdd, Nat.reduceSub, Nat.reduceMul, Int.reduceNeg, Int.reduceLE, Int.reduceLT, Int.reduceToNat, Int.reduceAdd, Int.reduceSub, Int.reduceMul, Int.reduceEq]) rfl ?_
        simp (config := { maxSteps := 1000000 }) only [undef, push_cast, ↓Int.toNat_natCast, ↓Int.cast_ofNat_Int, Int.cast_ofNat_Int, ↓reduceIte, reduceCtorEq, Nat.reduceEqDiff, Nat.reduceLT, Nat.reduceLeDiff, Nat.reduceAdd, Nat.reduceSub, Nat.reduceMul, Int.reduceNeg, Int.reduceLE, Int.reduceLT, Int.reduceToNat, Int.reduceAdd, Int.reduceSub, Int.reduceMul, Int.reduceEq]
        (repeat (refine And.intro (by first | omega | decide) ?_))
        refine leads_le [0, 1, 2, 3, 4] ?_
        simp (config := { maxSteps := 1000000 }) only [push_cast, ↓Int.toNat_natCast, ↓Int.cast_ofNat_Int, Int.cast_ofNat_Int, ↓reduceIte, reduceCtorEq, Nat.reduceEqDiff, Nat.reduceLT, Nat.reduceLeDiff, Nat.reduceAdd, Nat.reduceSub, Nat.reduceMul, Int.reduceNeg, Int.reduceLE, Int.reduceLT, Int.reduceToNat, Int.reduceAdd, Int.reduceSub, Int.reduceMul, Int.reduceEq]
        done
      · simp (config := { maxSteps := 1000000 }) only [undef, push_cast, ↓Int.toNat_natCast, ↓Int.cast_ofNat_Int, Int.cast_ofNat_Int, ↓reduceIte, reduceCtorEq, Nat.reduceEqDiff, Nat.reduceLT, Nat.reduceLeDiff, Nat.reduceAdd, Nat.reduceSub, Nat.reduceMul, Int.reduceNeg, Int.reduceLE, Int.reduceLT, Int.reduceToNat, Int.reduceAdd, Int.reduceSub, Int.reduceMul, Int.reduceEq]
        (repeat (refine And.intro (by first | omega | decide) ?_))
        refine loop_fct (by simp only [push_cast, ↓Int.toNat_natCast, ↓Int.cast_ofNat_Int, Int.cast_ofNat_Int, ↓reduceIte, reduceCtorEq, Nat.reduceEqDiff, Nat.reduceLT, Nat.reduceLeDiff, Nat.reduceAdd, Nat.reduceSub, Nat.reduceMul, Int.reduceNeg, Int.reduceLE, Int.reduceLT, Int.reduceToNat, Int.reduceAdd, Int.reduceSub, Int.reduceMul, Int.reduceEq]) ?_
        refine loop_absorb 2 5 (vs := b.map vU8) rfl (fun _ => rfl) rfl (by decide) fun A1 c1 hc1 hm1 => ?_
        refine loop_absorb 4 5 (vs := (b.take K).map vU8) rfl (fun _ => rfl) rfl (by decide) fun A2 c2 hc2 hm2 => ?_
        rw [List.length_map] at hc1 hc2
        simp (config := { maxSteps := 1000000 }) only [undef, push_cast, ↓Int.toNat_natCast, ↓Int.cast_ofNat_Int, Int.cast_ofNat_Int, ↓reduceIte, reduceCtorEq, Nat.reduceEqDiff, Nat.reduceLT, Nat.reduceLeDiff, Nat.reduceAdd, Nat.reduceSub, Nat.reduceMul, Int.reduceNeg, Int.reduceLE, Int.reduceLT, Int.reduceToNat, Int.reduceAdd, Int.reduceSub, Int.reduceMul, Int.reduceEq]
        obtain ⟨Fs, hFs⟩ : ∃ Fs : List Fct, Fs = [⟨.slice A1 b.length c1, b.length, b.map vU8⟩, ⟨.slice A2 (b.take K).length c2, (b.take K).length, (b.take K).map vU8⟩] := ⟨_, rfl⟩
        have m1 : (⟨.slice A1 b.length c1, b.length, b.map vU8⟩ : Fct) ∈ Fs := by rw [hFs]; exact List.mem_cons_self ..
        have m2 : (⟨.slice A2 (b.take K).length c2, (b.take K).length, (b.take K).map vU8⟩ : Fct) ∈ Fs := by rw [hFs]; exact List.mem_cons_of_mem _ (List.mem_cons_self ..)
        rw [← hFs]
        clear hFs
        refine loop_rule (ι := Nat × RS × RS) (fun x => ⟨[(10, .x (.a (.v (.int .i64 (x.1 : Nat))))), (8, .x (.a (.p 1 0))), (9, .x (.a (.p 2 0))), (7, .x (.a (.o 0))), (0, .x (.a (.v (.slice A l.length c))))], [.own 5 (.u8 b), .blk 132 (.c [.v (.slice x.2.1.A x.2.1.l.length x.2.1.c), .v (.bool x.2.1.bad)]), .blk 132 (.c [.v (.slice x.2.2.A x.2.2.l.length x.2.2.c), .v (.bool x.2.2.bad)]), .abs (fctRep Fs)]⟩)
          (fun x => x.1 ≤ l.length ∧ x.2.1.From A1 (b.map vU8) ∧ x.2.2.From A2 ((b.take K).map vU8) ∧ x.2.1.rs = (putFs ((l.drop x.1).map FdR.fd), false) ∧ (x.2.2.rs = badR ∨ ∃ k, x.2.2.rs = pre k (putFs ((l.drop x.1).map FdR.fd)) ∧ k + b.length = K + (putFs ((l.drop x.1).map FdR.fd)).length)) (fun x => l.length - x.1)
          (0, ⟨A1, c1, b, false⟩, ⟨A2, c2, b.take K, false⟩) [0, 1, 3, 5] ⟨Nat.zero_le _, RS.From.start hc1 (by omega), RS.From.start hc2 (by simp; omega), by rw [hb]; rfl, .inr ⟨K, by rw [hb]; rfl, by rw [hb]; rfl⟩⟩ ?_ ?_
        · simp (config := { maxSteps := 1000000 }) only [push_cast, ↓Int.toNat_natCast, ↓Int.cast_ofNat_Int, Int.cast_ofNat_Int, ↓reduceIte, reduceCtorEq, Nat.reduceEqDiff, Nat.reduceLT, Nat.reduceLeDiff, Nat.reduceAdd, Nat.reduceSub, Nat.reduceMul, Int.reduceNeg, Int.reduceLE, Int.reduceLT, Int.reduceToNat, Int.reduceAdd, Int.reduceSub, Int.reduceMul, Int.reduceEq]
          done
        rintro ⟨i, r, s⟩ ⟨hi, Fr, Fq, er, es⟩
        dsimp only at hi Fr Fq er es
        by_cases hlt : (i : Int) < l.length
        · have hil : i < l.length := by omega
          have i0 : (0 : Int) ≤ i := by omega
          obtain ⟨w1, w2⟩ := F.whole i hil
          have hA := F.some_ (by omega)
          have fm := ix_mem hil
          have ed := putFs_drop hil
          have hp7 := hpm _ fm
          obtain ⟨s1, s2, s3⟩ := hsm2 _ fm
          have fok := hok _ fm
          have fl := fdA_len fok.s
          have fset := fdA_set fok.s
          have fb := fun n => fdA_bnd (ix l i) n
          simp only [At.bnd] at fb
          generalize ix l i = f at *
          simp (config := { maxSteps := 1000000 }) only [pAdd_add, pAdd_isSome, hlt, i0, w1, w2, renf8, fb, fl, hA, fset, ↓fdA_cbnd, ↓fdA_sbnd, ↓fdA_vbnd, ↓fdA_cont, ↓fdA_cren, ↓fdA_sren, ↓fdA_vren, zeroArr, zokFd, undef, push_cast, ↓Int.toNat_natCast, ↓Int.cast_ofNat_Int, Int.cast_ofNat_Int, ↓reduceIte, reduceCtorEq, Nat.reduceEqDiff, Nat.reduceLT, Nat.reduceLeDiff, Nat.reduceAdd, Nat.reduceSub, Nat.reduceMul, Int.reduceNeg, Int.reduceLE, Int.reduceLT, Int.reduceToNat, Int.reduceAdd, Int.reduceSub, Int.reduceMul, Int.reduceEq]
          (repeat (refine And.intro (by first | omega | decide) ?_))
          refine ⟨fun x hx => by obtain ⟨v, rfl, hv⟩ := fdA_v hx; exact hv, ?_⟩
          have gok := askR_ok fok
          have gfd := askR_fd f
          generalize askR f = g at *
          have gl := fdA_len gok.s
          have gb := fun n => fdA_bnd g n
          simp only [At.bnd] at gb
          have hk := kindF_le f.fd
          have htk := takeF_all f.fd s1 s2 s3 fok.s (putFs ((l.drop (i + 1)).map FdR.fd)) false
          have er1 : (takeF g.fd r.rs) = (kindF f.fd, (putFs ((l.drop (i + 1)).map FdR.fd), false)) := by rw [gfd, er, ed]; exact htk
          have er2 : (rdN g r).rs = (putFs ((l.drop (i + 1)).map FdR.fd), false) := by rw [rdN_rs, er1]
          have es2 : (rdN g s).rs = badR ∨ ∃ k, (rdN g s).rs = pre k (putFs ((l.drop (i + 1)).map FdR.fd)) ∧ k + b.length = K + (putFs ((l.drop (i + 1)).map FdR.fd)).length := by
            rw [rdN_rs, gfd]
            rcases es with e | ⟨k, e, ek⟩
            · rw [e]; exact .inl (takeF_bad _)
            · rw [e, ed]
              rcases takeF_pre f.fd s1 s2 s3 fok.s k (putFs ((l.drop (i + 1)).map FdR.fd)) with h | ⟨hle, h⟩
              · exact .inl h
              · rw [ed, List.length_append] at ek
                exact .inr ⟨_, congrArg Prod.snd h, by omega⟩
          have rb := fun (t : RS) (j m : Nat) (h : j < m) => rdA_bnd g t h
          simp only [At.bnd] at rb
          have cb := fun (t : RS) (m : Nat) => rdC_bnd g t m
          simp only [Cont.bnd, At.bnd] at cb
          refine drawK_rule [1] [(0, true), (1, true), (3, true), (4, true), (5, true), (6, true), (2, false), (7, false), (8, true), (9, true), (10, true), (11, true), (12, true), (13, true), (14, false), (15, true), (16, true)] (by kernel_rfl) (by kernel_rfl) rfl (by kernel_rfl) ?_
          simp (config := { maxSteps := 1000000 }) only [pAdd_add, pAdd_isSome, hlt, i0, w1, w2, fb, fl, gb, gl, hA, ↓fdA_cbnd, ↓fdA_sbnd, ↓fdA_vbnd, ↓fdA_cont, ↓fdA_cren, ↓fdA_sren, ↓fdA_vren, undef, push_cast, ↓Int.toNat_natCast, ↓Int.cast_ofNat_Int, Int.cast_ofNat_Int, ↓reduceIte, reduceCtorEq, Nat.reduceEqDiff, Nat.reduceLT, Nat.reduceLeDiff, Nat.reduceAdd, Nat.reduceSub, Nat.reduceMul, Int.reduceNeg, Int.reduceLE, Int.reduceLT, Int.reduceToNat, Int.reduceAdd, Int.reduceSub, Int.reduceMul, Int.reduceEq]
          (repeat (refine And.intro (by first | omega | decide) ?_))
          refine callK_rule rfl cb24 rfl (read13K (k0 := 1) (s := r) (f := g) (by simp (config := { maxSteps := 1000000 }) only [gb, gl, ↓fdA_cbnd, ↓fdA_sbnd, ↓fdA_vbnd, ↓fdA_cont, ↓fdA_cren, ↓fdA_sren, ↓fdA_vren, push_cast, ↓Int.toNat_natCast, ↓Int.cast_ofNat_Int, Int.cast_ofNat_Int, ↓reduceIte, reduceCtorEq, Nat.reduceEqDiff, Nat.reduceLT, Nat.reduceLeDiff, Nat.reduceAdd, Nat.reduceSub, Nat.reduceMul, Int.reduceNeg, Int.reduceLE, Int.reduceLT, Int.reduceToNat, Int.reduceAdd, Int.reduceSub, Int.reduceMul, Int.reduceEq]) rfl gok (Fr.far (k := 3) rfl m1 (by decide))) (dOk_lt rfl) (fun _ => by simp (config := { maxSteps := 1000000 }) only [gb, gl, fb, fl, ↓fdA_cbnd, ↓fdA_sbnd, ↓fdA_vbnd, ↓fdA_cont, ↓fdA_cren, ↓fdA_sren, ↓fdA_vren, push_cast, ↓Int.toNat_natCast, ↓Int.cast_ofNat_Int, Int.cast_ofNat_Int, ↓reduceIte, reduceCtorEq, Nat.reduceEqDiff, Nat.reduceLT, Nat.reduceLeDiff, Nat.reduceAdd, Nat.reduceSub, Nat.reduceMul, Int.reduceNeg, Int.reduceLE, Int.reduceLT, Int.reduceToNat, Int.reduceAdd, Int.reduceSub, Int.reduceMul, Int.reduceEq]) (by simp (config := { maxSteps := 1000000 }) only [gb, gl, fb, fl, rb, ↓rdC_ren, ↓rdC_bnd, ↓fdA_cbnd, ↓fdA_sbnd, ↓fdA_vbnd, ↓fdA_cont, ↓fdA_cren, ↓fdA_sren, ↓fdA_vren, push_cast, ↓Int.toNat_natCast, ↓Int.cast_ofNat_Int, Int.cast_ofNat_Int, ↓reduceIte, reduceCtorEq, Nat.reduceEqDiff, Nat.reduceLT, Nat.reduceLeDiff, Nat.reduceAdd, Nat.reduceSub, Nat.reduceMul, Int.reduceNeg, Int.reduceLE, Int.reduceLT, Int.reduceToNat, Int.reduceAdd, Int.reduceSub, Int.reduceMul, Int.reduceEq]) ?_
          simp (config := { maxSteps := 1000000 }) only [pAdd_add, pAdd_isSome, hlt, i0, w1, w2, fb, fl, gb, gl, rb, hA, ↓rdC_ren, ↓rdC_bnd, ↓rdA_vren, ↓rdA_sren, ↓fdA_cbnd, ↓fdA_sbnd, ↓fdA_vbnd, ↓fdA_cont, ↓fdA_cren, ↓fdA_sren, ↓fdA_vren, undef, push_cast, ↓Int.toNat_natCast, ↓Int.cast_ofNat_Int, Int.cast_ofNat_Int, ↓reduceIte, reduceCtorEq, Nat.reduceEqDiff, Nat.reduceLT, Nat.reduceLeDiff, Nat.reduceAdd, Nat.reduceSub, Nat.reduceMul, Int.reduceNeg, Int.reduceLE, Int.reduceLT, Int.reduceToNat, Int.reduceAdd, Int.reduceSub, Int.reduceMul, Int.reduceEq]
          (repeat (refine And.intro (by first | omega | decide) ?_))
          have sameK : ∀ hp, hp[6]? = some (.own (rdT g) (rdC g r)) → CallOK Tryd.prog w No 23 [.x (.g (rdA g r 6)), .x (.g (fdA f))] hp (.x (.a (.v (.bool (sameF (kindF f.fd) f.fd))))) hp := fun hp h => by
            have := showsFd_read (w0 := w) h
            rw [er1] at this
            exact same13K this (showsFd_raw fok) (by have h1 : (kindF f.fd).l.length ≤ f.l.l.length := hk.1; omega) (by have h1 : (kindF f.fd).x.length ≤ f.x.l.length := hk.2; omega)
          refine callK_v rfl cb23 rfl (sameK _ rfl) (dOk_lt rfl) ?_
          have fin : ∀ sm : Bool, sameF (kindF f.fd) f.fd = sm → True := fun _ _ => trivial
          cases hsm : sameF (kindF f.fd) f.fd with
          | true =>
            simp (config := { maxSteps := 1000000 }) only [hsm, pAdd_add, pAdd_isSome, hlt, i0, w1, w2, fb, fl, gb, gl, rb, cb, hA, ↓rdC_ren, ↓rdC_bnd, ↓rdA_vren, ↓rdA_sren, ↓fdA_cbnd, ↓fdA_sbnd, ↓fdA_vbnd, ↓fdA_cont, ↓fdA_cren, ↓fdA_sren, ↓fdA_vren, undef, push_cast, ↓Int.toNat_natCast, ↓Int.cast_ofNat_Int, Int.cast_ofNat_Int, ↓reduceIte, reduceCtorEq, Nat.reduceEqDiff, Nat.reduceLT, Nat.reduceLeDiff, Nat.reduceAdd, Nat.reduceSub, Nat.reduceMul, Int.reduceNeg, Int.reduceLE, Int.reduceLT, Int.reduceToNat, Int.reduceAdd, Int.reduceSub, Int.reduceMul, Int.reduceEq]
            (repeat (refine And.intro (by first | omega | decide) ?_))
            refine callG_rule rfl cb24 rfl (read13K (k0 := 2) (s := s) (f := g) (by simp (config := { maxSteps := 1000000 }) only [pAdd_add, pAdd_isSome, hlt, i0, w1, w2, fb, fl, gb, gl, rb, cb, hA, ↓rdC_ren, ↓rdC_bnd, ↓rdA_vren, ↓rdA_sren, ↓fdA_cbnd, ↓fdA_sbnd, ↓fdA_vbnd, ↓fdA_cont, ↓fdA_cren, ↓fdA_sren, ↓fdA_vren, push_cast, ↓Int.toNat_natCast, ↓Int.cast_ofNat_Int, Int.cast_ofNat_Int, ↓reduceIte, reduceCtorEq, Nat.reduceEqDiff, Nat.reduceLT, Nat.reduceLeDiff, Nat.reduceAdd, Nat.reduceSub, Nat.reduceMul, Int.reduceNeg, Int.reduceLE, Int.reduceLT, Int.reduceToNat, Int.reduceAdd, Int.reduceSub, Int.reduceMul, Int.reduceEq]) rfl gok (Fq.far (k := 3) rfl m2 (by decide))) (dOk_lt rfl) (fun _ => by simp (config := { maxSteps := 1000000 }) only [pAdd_add, pAdd_isSome, hlt, i0, w1, w2, fb, fl, gb, gl, rb, cb, hA, ↓rdC_ren, ↓rdC_bnd, ↓rdA_vren, ↓rdA_sren, ↓fdA_cbnd, ↓fdA_sbnd, ↓fdA_vbnd, ↓fdA_cont, ↓fdA_cren, ↓fdA_sren, ↓fdA_vren, push_cast, ↓Int.toNat_natCast, ↓Int.cast_ofNat_Int, Int.cast_ofNat_Int, ↓reduceIte, reduceCtorEq, Nat.reduceEqDiff, Nat.reduceLT, Nat.reduceLeDiff, Nat.reduceAdd, Nat.reduceSub, Nat.reduceMul, Int.reduceNeg, Int.reduceLE, Int.reduceLT, Int.reduceToNat, Int.reduceAdd, Int.reduceSub, Int.reduceMul, Int.reduceEq]) ?_
            simp (config := { maxSteps := 1000000 }) only [pAdd_add, pAdd_isSome, hlt, i0, w1, w2, fb, fl, gb, gl, rb, cb, hA, ↓rdC_ren, ↓rdC_bnd, ↓rdA_vren, ↓rdA_sren, ↓fdA_cbnd, ↓fdA_sbnd, ↓fdA_vbnd, ↓fdA_cont, ↓fdA_cren, ↓fdA_sren, ↓fdA_vren, undef, push_cast, ↓Int.toNat_natCast, ↓Int.cast_ofNat_Int, Int.cast_ofNat_Int, ↓reduceIte, reduceCtorEq, Nat.reduceEqDiff, Nat.reduceLT, Nat.reduceLeDiff, Nat.reduceAdd, Nat.reduceSub, Nat.reduceMul, Int.reduceNeg, Int.reduceLE, Int.reduceLT, Int.reduceToNat, Int.reduceAdd, Int.reduceSub, Int.reduceMul, Int.reduceEq]
            (repeat (refine And.intro (by first | omega | decide) ?_))
            refine loopK_normal (i + 1, rdN g r, rdN g s) [0, 1, 2, 3] ⟨by show i + 1 ≤ l.length; omega, Fr.read g, Fq.read g, er2, es2⟩ (by show l.length - (i + 1) < l.length - i; omega) ?_
            simp (config := { maxSteps := 1000000 }) only [pAdd_add, pAdd_isSome, hlt, i0, w1, w2, fb, fl, gb, gl, rb, cb, hA, ↓rdC_ren, ↓rdC_bnd, ↓rdA_vren, ↓rdA_sren, ↓fdA_cbnd, ↓fdA_sbnd, ↓fdA_vbnd, ↓fdA_cont, ↓fdA_cren, ↓fdA_sren, ↓fdA_vren, push_cast, ↓Int.toNat_natCast, ↓Int.cast_ofNat_Int, Int.cast_ofNat_Int, ↓reduceIte, reduceCtorEq, Nat.reduceEqDiff, Nat.reduceLT, Nat.reduceLeDiff, Nat.reduceAdd, Nat.reduceSub, Nat.reduceMul, Int.reduceNeg, Int.reduceLE, Int.reduceLT, Int.reduceToNat, Int.reduceAdd, Int.reduceSub, Int.reduceMul, Int.reduceEq]
            done
          | false =>
            have hbl : blankF f.fd = true := by
              rcases same_or_blank f.fd with h | h
              · rw [hsm] at h; cases h
              · exact h
            simp (config := { maxSteps := 1000000 }) only [hsm, pAdd_add, pAdd_isSome, hlt, i0, w1, w2, fb, fl, gb, gl, rb, cb, hA, ↓rdC_ren, ↓rdC_bnd, ↓rdA_vren, ↓rdA_sren, ↓fdA_cbnd, ↓fdA_sbnd, ↓fdA_vbnd, ↓fdA_cont, ↓fdA_cren, ↓fdA_sren, ↓fdA_vren, undef, push_cast, ↓Int.toNat_natCast, ↓Int.cast_ofNat_Int, Int.cast_ofNat_Int, ↓reduceIte, reduceCtorEq, Nat.reduceEqDiff, Nat.reduceLT, Nat.reduceLeDiff, Nat.reduceAdd, Nat.reduceSub, Nat.reduceMul, Int.reduceNeg, Int.reduceLE, Int.reduceLT, Int.reduceToNat, Int.reduceAdd, Int.reduceSub, Int.reduceMul, Int.reduceEq]
            (repeat (refine And.intro (by first | omega | decide) ?_))
            refine callK_v rfl cb25 rfl (blank13K fok.s) (dOk_lt rfl) ?_
            simp (config := { maxSteps := 1000000 }) only [hbl, pAdd_add, pAdd_isSome, hlt, i0, w1, w2, fb, fl, gb, gl, rb, cb, hA, ↓rdC_ren, ↓rdC_bnd, ↓rdA_vren, ↓rdA_sren, ↓fdA_cbnd, ↓fdA_sbnd, ↓fdA_vbnd, ↓fdA_cont, ↓fdA_cren, ↓fdA_sren, ↓fdA_vren, undef, push_cast, ↓Int.toNat_natCast, ↓Int.cast_ofNat_Int, Int.cast_ofNat_Int, ↓reduceIte, reduceCtorEq, Nat.reduceEqDiff, Nat.reduceLT, Nat.reduceLeDiff, Nat.reduceAdd, Nat.reduceSub, Nat.reduceMul, Int.reduceNeg, Int.reduceLE, Int.reduceLT, Int.reduceToNat, Int.reduceAdd, Int.reduceSub, Int.reduceMul, Int.reduceEq]
            (repeat (refine And.intro (by first | omega | decide) ?_))
            refine callG_rule rfl cb24 rfl (read13K (k0 := 2) (s := s) (f := g) (by simp (config := { maxSteps := 1000000 }) only [pAdd_add, pAdd_isSome, hlt, i0, w1, w2, fb, fl, gb, gl, rb, cb, hA, ↓rdC_ren, ↓rdC_bnd, ↓rdA_vren, ↓rdA_sren, ↓fdA_cbnd, ↓fdA_sbnd, ↓fdA_vbnd, ↓fdA_cont, ↓fdA_cren, ↓fdA_sren, ↓fdA_vren, push_cast, ↓Int.toNat_natCast, ↓Int.cast_ofNat_Int, Int.cast_ofNat_Int, ↓reduceIte, reduceCtorEq, Nat.reduceEqDiff, Nat.reduceLT, Nat.reduceLeDiff, Nat.reduceAdd, Nat.reduceSub, Nat.reduceMul, Int.reduceNeg, Int.reduceLE, Int.reduceLT, Int.reduceToNat, Int.reduceAdd, Int.reduceSub, Int.reduceMul, Int.reduceEq]) rfl gok (Fq.far (k := 3) rfl m2 (by decide))) (dOk_lt rfl) (fun _ => by simp (config := { maxSteps := 1000000 }) only [pAdd_add, pAdd_isSome, hlt, i0, w1, w2, fb, fl, gb, gl, rb, cb, hA, ↓rdC_ren, ↓rdC_bnd, ↓rdA_vren, ↓rdA_sren, ↓fdA_cbnd, ↓fdA_sbnd, ↓fdA_vbnd, ↓fdA_cont, ↓fdA_cren, ↓fdA_sren, ↓fdA_vren, push_cast, ↓Int.toNat_natCast, ↓Int.cast_ofNat_Int, Int.cast_ofNat_Int, ↓reduceIte, reduceCtorEq, Nat.reduceEqDiff, Nat.reduceLT, Nat.reduceLeDiff, Nat.reduceAdd, Nat.reduceSub, Nat.reduceMul, Int.reduceNeg, Int.reduceLE, Int.reduceLT, Int.reduceToNat, Int.reduceAdd, Int.reduceSub, Int.reduceMul, Int.reduceEq]) ?_
            simp (config := { maxSteps := 1000000 }) only [pAdd_add, pAdd_isSome, hlt, i0, w1, w2, fb, fl, gb, gl, rb, cb, hA, ↓rdC_ren, ↓rdC_bnd, ↓rdA_vren, ↓rdA_sren, ↓fdA_cbnd, ↓fdA_sbnd, ↓fdA_vbnd, ↓fdA_cont, ↓fdA_cren, ↓fdA_sren, ↓fdA_vren, undef, push_cast, ↓Int.toNat_natCast, ↓Int.cast_ofNat_Int, Int.cast_ofNat_Int, ↓reduceIte, reduceCtorEq, Nat.reduceEqDiff, Nat.reduceLT, Nat.reduceLeDiff, Nat.reduceAdd, Nat.reduceSub, Nat.reduceMul, Int.reduceNeg, Int.reduceLE, Int.reduceLT, Int.reduceToNat, Int.reduceAdd, Int.reduceSub, Int.reduceMul, Int.reduceEq]
            (repeat (refine And.intro (by first | omega | decide) ?_))
            refine loopK_normal (i + 1, rdN g r, rdN g s) [0, 1, 2, 3] ⟨by show i + 1 ≤ l.length; omega, Fr.read g, Fq.read g, er2, es2⟩ (by show l.length - (i + 1) < l.length - i; omega) ?_
            simp (config := { maxSteps := 1000000 }) only [pAdd_add, pAdd_isSome, hlt, i0, w1, w2, fb, fl, gb, gl, rb, cb, hA, ↓rdC_ren, ↓rdC_bnd, ↓rdA_vren, ↓rdA_sren, ↓fdA_cbnd, ↓fdA_sbnd, ↓fdA_vbnd, ↓fdA_cont, ↓fdA_cren, ↓fdA_sren, ↓fdA_vren, push_cast, ↓Int.toNat_natCast, ↓Int.cast_ofNat_Int, Int.cast_ofNat_Int, ↓reduceIte, reduceCtorEq, Nat.reduceEqDiff, Nat.reduceLT, Nat.reduceLeDiff, Nat.reduceAdd, Nat.reduceSub, Nat.reduceMul, Int.reduceNeg, Int.reduceLE, Int.reduceLT, Int.reduceToNat, Int.reduceAdd, Int.reduceSub, Int.reduceMul, Int.reduceEq]
            done
        · have hil : i = l.length := by omega
          have ed : putFs ((l.drop i).map FdR.fd) = [] := by rw [hil, List.drop_length]; rfl
          rw [ed] at er es
          have l1 : r.l = [] := congrArg Prod.fst er
          have b1 : r.bad = false := congrArg Prod.snd er
          have D1 : ∀ (hp : List Res), bview hp[1]? = some (132, (.c [.v (.slice r.A r.l.length r.c), .v (.bool r.bad)])) → CallOK Tryd.prog w No 17 [.x (.a (.p 1 0))] hp (.x (.a (.v .nilIface))) hp := fun hp h => by
            have := doneK (w0 := w) (ow := No) (hp := hp) (k0 := 1) (s := r) (by rw [l1]; decide) h
            rwa [if_pos ⟨b1, l1⟩] at this
          simp (config := { maxSteps := 1000000 }) only [hlt, undef, push_cast, ↓Int.toNat_natCast, ↓Int.cast_ofNat_Int, Int.cast_ofNat_Int, ↓reduceIte, reduceCtorEq, Nat.reduceEqDiff, Nat.reduceLT, Nat.reduceLeDiff, Nat.reduceAdd, Nat.reduceSub, Nat.reduceMul, Int.reduceNeg, Int.reduceLE, Int.reduceLT, Int.reduceToNat, Int.reduceAdd, Int.reduceSub, Int.reduceMul, Int.reduceEq]
          (repeat (refine And.intro (by first | omega | decide) ?_))
          refine callG_v rfl cb17 rfl (D1 _ rfl) (dOk_lt rfl) ?_
          by_cases hz : (b.length : Int) = 0
          · simp (config := { maxSteps := 1000000 }) only [hz, undef, push_cast, ↓Int.toNat_natCast, ↓Int.cast_ofNat_Int, Int.cast_ofNat_Int, ↓reduceIte, reduceCtorEq, Nat.reduceEqDiff, Nat.reduceLT, Nat.reduceLeDiff, Nat.reduceAdd, Nat.reduceSub, Nat.reduceMul, Int.reduceNeg, Int.reduceLE, Int.reduceLT, Int.reduceToNat, Int.reduceAdd, Int.reduceSub, Int.reduceMul, Int.reduceEq]
            (repeat (refine And.intro (by first | omega | decide) ?_))
            refine callG_v rfl cb19 rfl (sure13K hg) (dOk_lt rfl) ?_
            simp (config := { maxSteps := 1000000 }) only [undef, push_cast, ↓Int.toNat_natCast, ↓Int.cast_ofNat_Int, Int.cast_ofNat_Int, ↓reduceIte, reduceCtorEq, Nat.reduceEqDiff, Nat.reduceLT, Nat.reduceLeDiff, Nat.reduceAdd, Nat.reduceSub, Nat.reduceMul, Int.reduceNeg, Int.reduceLE, Int.reduceLT, Int.reduceToNat, Int.reduceAdd, Int.reduceSub, Int.reduceMul, Int.reduceEq]
            done
          · have hnd : ¬ (s.bad = false ∧ s.l = []) := by
              rintro ⟨h1, h2⟩
              rcases es with e | ⟨k, e, ek⟩
              · have := congrArg Prod.snd e
                rw [show s.rs.2 = s.bad from rfl, h1] at this
                cases this
              · have := hK3 (by omega)
                rw [List.length_nil] at ek
                omega
            have sl : s.l.length ≤ 10000000 := by
              rcases es with e | ⟨k, e, ek⟩
              · rw [show s.l = [] from congrArg Prod.fst e]; decide
              · rw [show s.l = _ from congrArg Prod.fst e]; simp [pre]
            have D2 : ∀ (hp : List Res), bview hp[2]? = some (132, (.c [.v (.slice s.A s.l.length s.c), .v (.bool s.bad)])) → CallOK Tryd.prog w No 17 [.x (.a (.p 2 0))] hp (.x (.a (.v (.iface 137 (.int .i64 3))))) hp := fun hp h => by
              have := doneK (w0 := w) (ow := No) (hp := hp) (k0 := 2) (s := s) sl h
              rwa [if_neg hnd] at this
            simp (config := { maxSteps := 1000000 }) only [hz, undef, push_cast, ↓Int.toNat_natCast, ↓Int.cast_ofNat_Int, Int.cast_ofNat_Int, ↓reduceIte, reduceCtorEq, Nat.reduceEqDiff, Nat.reduceLT, Nat.reduceLeDiff, Nat.reduceAdd, Nat.reduceSub, Nat.reduceMul, Int.reduceNeg, Int.reduceLE, Int.reduceLT, Int.reduceToNat, Int.reduceAdd, Int.reduceSub, Int.reduceMul, Int.reduceEq]
            (repeat (refine And.intro (by first | omega | decide) ?_))
            refine callG_v rfl cb17 rfl (D2 _ rfl) (dOk_lt rfl) ?_
            simp (config := { maxSteps := 1000000 }) only [hz, undef, push_cast, ↓Int.toNat_natCast, ↓Int.cast_ofNat_Int, Int.cast_ofNat_Int, ↓reduceIte, reduceCtorEq, Nat.reduceEqDiff, Nat.reduceLT, Nat.reduceLeDiff, Nat.reduceAdd, Nat.reduceSub, Nat.reduceMul, Int.reduceNeg, Int.reduceLE, Int.reduceLT, Int.reduceToNat, Int.reduceAdd, Int.reduceSub, Int.reduceMul, Int.reduceEq]
            (repeat (refine And.intro (by first | omega | decide) ?_))
            refine callG_v rfl cb16 rfl (nmOK13 3 hg) (dOk_lt rfl) ?_
            simp (config := { maxSteps := 1000000 }) only [hz, undef, push_cast, ↓Int.toNat_natCast, ↓Int.cast_ofNat_Int, Int.cast_ofNat_Int, ↓reduceIte, reduceCtorEq, Nat.reduceEqDiff, Nat.reduceLT, Nat.reduceLeDiff, Nat.reduceAdd, Nat.reduceSub, Nat.reduceMul, Int.reduceNeg, Int.reduceLE, Int.reduceLT, Int.reduceToNat, Int.reduceAdd, Int.reduceSub, Int.reduceMul, Int.reduceEq]
            (repeat (refine And.intro (by first | omega | decide) ?_))
            refine callG_v rfl cb19 rfl (sure13K hg) (dOk_lt rfl) ?_
            simp (config := { maxSteps := 1000000 }) only [undef, push_cast, ↓Int.toNat_natCast, ↓Int.cast_ofNat_Int, Int.cast_ofNat_Int, ↓reduceIte, reduceCtorEq, Nat.reduceEqDiff, Nat.reduceLT, Nat.reduceLeDiff, Nat.reduceAdd, Nat.reduceSub, Nat.reduceMul, Int.reduceNeg, Int.reduceLE, Int.reduceLT, Int.reduceToNat, Int.reduceAdd, Int.reduceSub, Int.reduceMul, Int.reduceEq]
            done
end Go.Proofs.YtiaeollemmkclaaDoor
