/- fate.Done, fate.Abort, where nothing is done; the document's line (caucusref33.Text). -/
import Derived.Test.YtohnlajccfnecaaDoorFt5
namespace Go.Proofs.YtohnlajccfnecaaDoor
open Go.RowKit
set_option linter.unusedSimpArgs false
attribute [local irreducible] Callable CallOK CallG CallM DrawG LoopG symR symM
section
variable {k r : Int} {ids : List Int} {row : List UInt32}
set_option maxRecDepth 100000 in
set_option maxHeartbeats 1000000 in
theorem abort_no (b : Nat) (w : World) (n : Int) (h : FtB w b k r ids row) (hn : abortOk k n = false) : Calls Tryd.prog 9 #[.pointer (some (⟨b, 0, none⟩ : Addr)), .int .i64 n] w fun e w' => e = .returned (.bool false) ∧ Below w.heap.size w w' := by
  have hn : ¬ (k = 0 ∧ 1 ≤ n ∧ n ≤ 4) := of_decide_eq_false hn
  obtain ⟨A, c, B, d, F, _⟩ := h.p
  generalize (some (⟨b, 0, none⟩ : Addr)) = P at *
  have f0 := F.ok
  have fn := F.nn
  have f1 := F.c0
  have f2 := F.r0
  refine calls_v (n := 29) Tryd.func9 rfl Tryd.ntmps9 [(.x (.a (.v (.pointer P)))), .x (.a (.v (.int .i64 n)))] (by simp) (.x (.a (.v (.bool false)))) (fun _ => rfl) ?_
  by_cases h0 : k = 0
  · by_cases h1 : n < 1
    · simp (config := { maxSteps := 1000000 }) only [f0, fn, f1, f2, h0, h1, pAdd_zero, undef, push_cast, ↓Int.toNat_natCast, ↓Int.cast_ofNat_Int, Int.cast_ofNat_Int, ↓reduceIte, reduceCtorEq, Nat.reduceEqDiff, Nat.reduceLT, Nat.reduceLeDiff, Nat.reduceAdd, Nat.reduceSub, Nat.reduceMul, Int.reduceNeg, Int.reduceLE, Int.reduceLT, Int.reduceToNat, Int.reduceAdd, Int.reduceSub, Int.reduceMul, Int.reduceEq]
    · have h2 : 4 < n := by omega
      simp (config := { maxSteps := 1000000 }) only [f0, fn, f1, f2, h0, h1, h2, pAdd_zero, undef, push_cast, ↓Int.toNat_natCast, ↓Int.cast_ofNat_Int, Int.cast_ofNat_Int, ↓reduceIte, reduceCtorEq, Nat.reduceEqDiff, Nat.reduceLT, Nat.reduceLeDiff, Nat.reduceAdd, Nat.reduceSub, Nat.reduceMul, Int.reduceNeg, Int.reduceLE, Int.reduceLT, Int.reduceToNat, Int.reduceAdd, Int.reduceSub, Int.reduceMul, Int.reduceEq]
  · simp (config := { maxSteps := 1000000 }) only [f0, fn, f1, f2, h0, pAdd_zero, undef, push_cast, ↓Int.toNat_natCast, ↓Int.cast_ofNat_Int, Int.cast_ofNat_Int, ↓reduceIte, reduceCtorEq, Nat.reduceEqDiff, Nat.reduceLT, Nat.reduceLeDiff, Nat.reduceAdd, Nat.reduceSub, Nat.reduceMul, Int.reduceNeg, Int.reduceLE, Int.reduceLT, Int.reduceToNat, Int.reduceAdd, Int.reduceSub, Int.reduceMul, Int.reduceEq]
set_option maxRecDepth 100000 in
set_option maxHeartbeats 1000000 in
theorem done_no (b : Nat) (w : World) (l : List Int) (x : List UInt32) (A2 : Option Addr) (c2 : Nat) (B2 : Option Addr) (d2 : Nat) (hl : l.length ≤ 1000) (hc : l.length ≤ c2) (hR : RdV w w.heap.size A2 (l.map vI64)) (h : FtB w b k r ids row) (hn : ¬ doneOk k l x = true) :
    Calls Tryd.prog 8 #[.pointer (some (⟨b, 0, none⟩ : Addr)), .slice A2 l.length c2, .slice B2 x.length d2] w fun e w' => e = .returned (.bool false) ∧ Below w.heap.size w w' := by
  obtain ⟨A, c, B, d, F, _⟩ := h.p
  generalize (some (⟨b, 0, none⟩ : Addr)) = P at *
  have f0 := F.ok
  have fn := F.nn
  have f1 := F.c0
  have f2 := F.r0
  refine calls_v (n := 44) Tryd.func8 rfl Tryd.ntmps8 [(.x (.a (.v (.pointer P)))), .x (.a (.v (.slice A2 l.length c2))), .x (.a (.v (.slice B2 x.length d2)))] (by simp) (.x (.a (.v (.bool false)))) (fun _ => rfl) ?_
  by_cases h0 : k = 0
  · by_cases h1 : (l.length : Int) = 0
    · simp (config := { maxSteps := 1000000 }) only [f0, fn, f1, f2, h0, h1, pAdd_zero, undef, push_cast, ↓Int.toNat_natCast, ↓Int.cast_ofNat_Int, Int.cast_ofNat_Int, ↓reduceIte, reduceCtorEq, Nat.reduceEqDiff, Nat.reduceLT, Nat.reduceLeDiff, Nat.reduceAdd, Nat.reduceSub, Nat.reduceMul, Int.reduceNeg, Int.reduceLE, Int.reduceLT, Int.reduceToNat, Int.reduceAdd, Int.reduceSub, Int.reduceMul, Int.reduceEq]
    · simp (config := { maxSteps := 1000000 }) only [f0, fn, f1, f2, h0, h1, pAdd_zero, undef, push_cast, ↓Int.toNat_natCast, ↓Int.cast_ofNat_Int, Int.cast_ofNat_Int, ↓reduceIte, reduceCtorEq, Nat.reduceEqDiff, Nat.reduceLT, Nat.reduceLeDiff, Nat.reduceAdd, Nat.reduceSub, Nat.reduceMul, Int.reduceNeg, Int.reduceLE, Int.reduceLT, Int.reduceToNat, Int.reduceAdd, Int.reduceSub, Int.reduceMul, Int.reduceEq]
      (repeat (refine And.intro (by first | omega | decide) ?_))
      refine callG_v rfl cb27 rfl (check15OK (l := l) (by omega) (shows_raw hR _ _ (by simp) hc)) (dOk_lt rfl) ?_
      cases h2 : setOk l
      · simp (config := { maxSteps := 1000000 }) only [setErr_no h2, h0, h1, undef, push_cast, ↓Int.toNat_natCast, ↓Int.cast_ofNat_Int, Int.cast_ofNat_Int, ↓reduceIte, reduceCtorEq, Nat.reduceEqDiff, Nat.reduceLT, Nat.reduceLeDiff, Nat.reduceAdd, Nat.reduceSub, Nat.reduceMul, Int.reduceNeg, Int.reduceLE, Int.reduceLT, Int.reduceToNat, Int.reduceAdd, Int.reduceSub, Int.reduceMul, Int.reduceEq]
      · by_cases h3 : (32 : Int) < x.length
        · simp (config := { maxSteps := 1000000 }) only [setErr_yes h2, h0, h1, h3, undef, push_cast, ↓Int.toNat_natCast, ↓Int.cast_ofNat_Int, Int.cast_ofNat_Int, ↓reduceIte, reduceCtorEq, Nat.reduceEqDiff, Nat.reduceLT, Nat.reduceLeDiff, Nat.reduceAdd, Nat.reduceSub, Nat.reduceMul, Int.reduceNeg, Int.reduceLE, Int.reduceLT, Int.reduceToNat, Int.reduceAdd, Int.reduceSub, Int.reduceMul, Int.reduceEq]
        · exact absurd (doneOk_spec.2 ⟨h0, fun e => h1 (by rw [e]; rfl), h2, by omega⟩) hn
  · simp (config := { maxSteps := 1000000 }) only [f0, fn, f1, f2, h0, pAdd_zero, undef, push_cast, ↓Int.toNat_natCast, ↓Int.cast_ofNat_Int, Int.cast_ofNat_Int, ↓reduceIte, reduceCtorEq, Nat.reduceEqDiff, Nat.reduceLT, Nat.reduceLeDiff, Nat.reduceAdd, Nat.reduceSub, Nat.reduceMul, Int.reduceNeg, Int.reduceLE, Int.reduceLT, Int.reduceToNat, Int.reduceAdd, Int.reduceSub, Int.reduceMul, Int.reduceEq]
end
/-! ### The document's line -/
def tailJ (L : List (List UInt8)) : List UInt8 := L.flatMap fun l => 32 :: l
theorem join_tail (x : List UInt8) (L : List (List UInt8)) : Lib.join (x :: L) [32] = x ++ tailJ L := by
  induction L generalizing x with
  | nil => rw [Lib.join_one]; simp [tailJ]
  | cons y L ih =>
    have e : Lib.join (x :: y :: L) [32] = x ++ ([32] ++ Lib.join (y :: L) [32]) := by simp [Lib.join, List.intercalate]
    rw [e, ih]
    simp [tailJ]
theorem tailJ_app (L M : List (List UInt8)) : tailJ (L ++ M) = tailJ L ++ tailJ M := by unfold tailJ; rw [List.flatMap_append]
theorem tailJ_one (l : List UInt8) : tailJ [l] = 32 :: l := by simp [tailJ]
theorem tailJ_len (L : List (List UInt8)) (m : Nat) (h : ∀ l ∈ L, l.length ≤ m) : (tailJ L).length ≤ L.length * (m + 1) := by
  induction L with
  | nil => simp [tailJ]
  | cons x L ih =>
    have h1 := h x (by simp)
    have h2 := ih fun l hl => h l (by simp [hl])
    have e : tailJ (x :: L) = (32 :: x) ++ tailJ L := by simp [tailJ]
    rw [e, List.length_append, List.length_cons, List.length_cons, Nat.add_mul]
    omega
def sI (ids : List Int) (i : Nat) : List UInt8 := [115, 117, 109] ++ tailJ ((ids.take i).map dI)
def sJ (ids : List Int) (row : List UInt32) (i : Nat) : List UInt8 := sI ids ids.length ++ ([32, 124] ++ tailJ ((row.take i).map dU))
theorem sI_zero (ids : List Int) : sI ids 0 = [115, 117, 109] := rfl
theorem sJ_zero (ids : List Int) (row : List UInt32) : sJ ids row 0 = sI ids ids.length ++ [32, 124] := rfl
theorem sI_succ (ids : List Int) (i : Nat) (h : i < ids.length) : sI ids (i + 1) = sI ids i ++ ([32] ++ dI (ix ids i)) := by
  unfold sI
  rw [take_snoc ids i h, List.map_append, tailJ_app, List.map_cons, List.map_nil, tailJ_one]
  simp only [List.append_assoc]; rfl
theorem sJ_succ (ids : List Int) (row : List UInt32) (i : Nat) (h : i < row.length) : sJ ids row (i + 1) = sJ ids row i ++ ([32] ++ dU (ix row i)) := by
  unfold sJ
  rw [take_snoc row i h, List.map_append, tailJ_app, List.map_cons, List.map_nil, tailJ_one]
  simp only [List.append_assoc]; rfl
theorem sI_len (ids : List Int) (i : Nat) (hid : ∀ n ∈ ids, 0 ≤ n ∧ n < 64) (hi : i ≤ ids.length) : (sI ids i).length ≤ 3 + i * 12 := by
  have := tailJ_len ((ids.take i).map dI) 11 (fun l hl => by
    obtain ⟨n, hn, rfl⟩ := List.mem_map.1 hl
    have := hid n (List.mem_of_mem_take hn)
    have := dec_len 2 n.toNat (by omega)
    unfold dI
    omega)
  rw [List.length_map, List.length_take, show min i ids.length = i from by omega] at this
  unfold sI
  rw [List.length_append]
  simp only [List.length_cons, List.length_nil]
  omega
theorem sJ_len (ids : List Int) (row : List UInt32) (i : Nat) (hid : ∀ n ∈ ids, 0 ≤ n ∧ n < 64) (hi : i ≤ row.length) : (sJ ids row i).length ≤ 5 + ids.length * 12 + i * 12 := by
  have := tailJ_len ((row.take i).map dU) 11 (fun l hl => by
    obtain ⟨x, _, rfl⟩ := List.mem_map.1 hl
    have hx := x.toNat_lt
    unfold dU
    exact dec_len 10 x.toNat (by omega))
  rw [List.length_map, List.length_take, show min i row.length = i from by omega] at this
  have h2 := sI_len ids ids.length hid (Nat.le_refl _)
  unfold sJ
  rw [List.length_append, List.length_append]
  simp only [List.length_cons, List.length_nil]
  omega
theorem sJ_all (r : Int) (ids : List Int) (row : List UInt32) : sJ ids row row.length ++ [10] = txtU 1 r ids row := by
  have e : wordsT ids row = [115, 117, 109] :: (ids.map dI ++ ([[124]] ++ row.map dU)) := rfl
  have h : txtU 1 r ids row = Lib.join (wordsT ids row) [32] ++ [10] := if_pos rfl
  rw [h, e, join_tail, tailJ_app, tailJ_app, tailJ_one]
  unfold sJ sI
  rw [List.take_length, List.take_length]
  simp only [List.append_assoc]
theorem u64_ofIntN (n : Nat) : UInt64.ofInt (n : Int) = UInt64.ofNat n := by
  unfold UInt64.ofInt
  rw [← UInt64.toNat_inj, UInt64.toNat_ofNat', UInt64.toNat_ofNat']
  omega
theorem ofInt_nat (m : Nat) (h : m < 18446744073709551616) : (UInt64.ofInt (m : Int)).toNat = m := by
  rw [u64_ofIntN, UInt64.toNat_ofNat']
  omega
end Go.Proofs.YtohnlajccfnecaaDoor
