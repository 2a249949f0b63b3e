/- The document's line (caucusref33.Text). -/
import Derived.Test.YtohnlajccfnecaaDoorFt6
namespace Go.Proofs.YtohnlajccfnecaaDoor
open Go.RowKit
set_option linter.unusedSimpArgs false
theorem barS_lit : ({ data := #[32, 124] } : ByteArray) = bstr [32, 124] := rfl
attribute [local irreducible] Callable CallOK CallG CallM DrawG LoopG symR symM
attribute [local irreducible] sI sJ dI dU wordsT
set_option maxRecDepth 100000 in
set_option maxHeartbeats 4000000 in
theorem rtext_any (k r : Int) (ids : List Int) (row : List UInt32) (A : Option Addr) (c : Nat) (B : Option Addr) (d : Nat) (w : World) (hl : ids.length ≤ 100) (hl2 : row.length ≤ 100) (hid : ∀ n ∈ ids, 0 ≤ n ∧ n < 64) (hk : k = 0 ∨ k = 1 ∨ k = 2) (hr : k = 2 → 0 ≤ r ∧ r ≤ 4)
    (r1 : RdV w w.heap.size A (ids.map vI64)) (r2 : RdV w w.heap.size B (row.map vU32)) : Calls Tryd.prog 17 (List.map (Sv.val []) [(.x (.g [.v (.int .i64 k), .v (.int .i64 r), .v (.slice A ids.length c), .v (.slice B row.length d)]))]).toArray w fun e w' => e = .returned (.string (bstr (txtU k r ids row))) ∧ Below w.heap.size w w' := by
  have G := FM.of r1
  have H := FM.of r2
  refine calls_v (n := 56) Tryd.func17 rfl Tryd.ntmps17 [(.x (.g [.v (.int .i64 k), .v (.int .i64 r), .v (.slice A ids.length c), .v (.slice B row.length d)]))] (by simp) (.x (.a (.v (.string (bstr (txtU k r ids row)))))) (fun _ => rfl) ?_
  rcases hk with rfl | rfl | rfl
  · have htx : txtU 0 r ids row = [111, 112, 101, 110, 10] := by unfold txtU; rw [if_neg (by decide), if_neg (by decide)]
    simp (config := { maxSteps := 1000000 }) only [htx, open_lit, undef, push_cast, ↓Int.toNat_natCast, ↓Int.cast_ofNat_Int, Int.cast_ofNat_Int, ↓reduceIte, reduceCtorEq, Nat.reduceEqDiff, Nat.reduceLT, Nat.reduceLeDiff, Nat.reduceAdd, Nat.reduceSub, Nat.reduceMul, Int.reduceNeg, Int.reduceLE, Int.reduceLT, Int.reduceToNat, Int.reduceAdd, Int.reduceSub, Int.reduceMul, Int.reduceEq]
  · simp (config := { maxSteps := 1000000 }) only [sum_lit, undef, push_cast, ↓Int.toNat_natCast, ↓Int.cast_ofNat_Int, Int.cast_ofNat_Int, ↓reduceIte, reduceCtorEq, Nat.reduceEqDiff, Nat.reduceLT, Nat.reduceLeDiff, Nat.reduceAdd, Nat.reduceSub, Nat.reduceMul, Int.reduceNeg, Int.reduceLE, Int.reduceLT, Int.reduceToNat, Int.reduceAdd, Int.reduceSub, Int.reduceMul, Int.reduceEq]
    (repeat (refine And.intro (by first | omega | decide) ?_))
    refine loop_rule (ι := Nat) (fun i => ⟨[(1, .x (.a (.p 0 0))), (3, .x (.a (.v (.string (bstr (sI ids i)))))), (4, .x (.a (.v (.int .i64 i))))], [.blk 35 (.c [.v (.int .i64 1), .v (.int .i64 r), .v (.slice A ids.length c), .v (.slice B row.length d)])]⟩) (fun i => i ≤ ids.length) (fun i => ids.length - i) 0 [0] (by omega) ?_ ?_
    · simp (config := { maxSteps := 1000000 }) only [sI_zero, push_cast, ↓Int.toNat_natCast, ↓Int.cast_ofNat_Int, Int.cast_ofNat_Int, ↓reduceIte, reduceCtorEq, Nat.reduceEqDiff, Nat.reduceLT, Nat.reduceLeDiff, Nat.reduceAdd, Nat.reduceSub, Nat.reduceMul, Int.reduceNeg, Int.reduceLE, Int.reduceLT, Int.reduceToNat, Int.reduceAdd, Int.reduceSub, Int.reduceMul, Int.reduceEq]
    · intro i hi
      by_cases hlt : (i : Int) < ids.length
      · have i0 : (0 : Int) ≤ i := by omega
        have c0 : cellOf w (pAdd A i) = .int .i64 (ix ids i) := G.cell i (by omega)
        have o0 := G.ok i (by omega)
        have hA := G.some_ (by omega)
        have hq := hid (ix ids i) (ix_mem (by omega))
        obtain ⟨m, hm⟩ : ∃ m : Nat, ix ids i = m := ⟨(ix ids i).toNat, by omega⟩
        have hsl := sI_len ids i hid hi
        have hml := dec_len 2 m (by omega)
        have hs : bstr (sI ids i) ++ bstr [32] ++ bstr (Lib.decDigits m) = bstr (sI ids (i + 1)) := by
          rw [bstr_app, bstr_app, sI_succ ids i (by omega), hm]
          unfold dI
          rw [Int.toNat_natCast, List.append_assoc]
        have hu := ofInt_nat m (by omega)
        have q1 : (sI ids i).length + 1 ≤ 9223372036854775807 := by omega
        have q2 : (sI ids i).length + 1 + (Lib.decDigits m).length ≤ 9223372036854775807 := by omega
        simp (config := { maxSteps := 1000000 }) only [hlt, i0, c0, o0, hA, hm, sp_lit, bstr_size, ByteArray.size_append, q1, List.length_cons, List.length_nil, undef, push_cast, ↓Int.toNat_natCast, ↓Int.cast_ofNat_Int, Int.cast_ofNat_Int, ↓reduceIte, reduceCtorEq, Nat.reduceEqDiff, Nat.reduceLT, Nat.reduceLeDiff, Nat.reduceAdd, Nat.reduceSub, Nat.reduceMul, Int.reduceNeg, Int.reduceLE, Int.reduceLT, Int.reduceToNat, Int.reduceAdd, Int.reduceSub, Int.reduceMul, Int.reduceEq]
        (repeat (refine And.intro (by first | omega | decide) ?_))
        refine callG_v rfl cb32 rfl (digits33OK (UInt64.ofInt (m : Int))) (dOk_lt rfl) ?_
        simp (config := { maxSteps := 1000000 }) only [hu, hs, sp_lit, bstr_size, ByteArray.size_append, q1, q2, List.length_cons, List.length_nil, undef, push_cast, ↓Int.toNat_natCast, ↓Int.cast_ofNat_Int, Int.cast_ofNat_Int, ↓reduceIte, reduceCtorEq, Nat.reduceEqDiff, Nat.reduceLT, Nat.reduceLeDiff, Nat.reduceAdd, Nat.reduceSub, Nat.reduceMul, Int.reduceNeg, Int.reduceLE, Int.reduceLT, Int.reduceToNat, Int.reduceAdd, Int.reduceSub, Int.reduceMul, Int.reduceEq]
        (repeat (refine And.intro (by first | omega | decide) ?_))
        refine loopK_normal (i + 1) [0] (by omega) (by omega) ?_
        simp (config := { maxSteps := 1000000 }) only [push_cast, ↓Int.toNat_natCast, ↓Int.cast_ofNat_Int, Int.cast_ofNat_Int, ↓reduceIte, reduceCtorEq, Nat.reduceEqDiff, Nat.reduceLT, Nat.reduceLeDiff, Nat.reduceAdd, Nat.reduceSub, Nat.reduceMul, Int.reduceNeg, Int.reduceLE, Int.reduceLT, Int.reduceToNat, Int.reduceAdd, Int.reduceSub, Int.reduceMul, Int.reduceEq]
      · have e : i = ids.length := by omega
        subst e
        have hsl := sI_len ids ids.length hid (Nat.le_refl _)
        have hs : bstr (sI ids ids.length) ++ bstr [32, 124] = bstr (sJ ids row 0) := by rw [bstr_app, sJ_zero]
        have q1 : (sI ids ids.length).length + 2 ≤ 9223372036854775807 := by omega
        simp (config := { maxSteps := 1000000 }) only [hlt, hs, q1, barS_lit, bstr_size, List.length_cons, List.length_nil, undef, push_cast, ↓Int.toNat_natCast, ↓Int.cast_ofNat_Int, Int.cast_ofNat_Int, ↓reduceIte, reduceCtorEq, Nat.reduceEqDiff, Nat.reduceLT, Nat.reduceLeDiff, Nat.reduceAdd, Nat.reduceSub, Nat.reduceMul, Int.reduceNeg, Int.reduceLE, Int.reduceLT, Int.reduceToNat, Int.reduceAdd, Int.reduceSub, Int.reduceMul, Int.reduceEq]
        (repeat (refine And.intro (by first | omega | decide) ?_))
        refine loop_rule (ι := Nat) (fun i => ⟨[(1, .x (.a (.p 0 0))), (3, .x (.a (.v (.string (bstr (sJ ids row i)))))), (5, .x (.a (.v (.int .i64 i))))], [.blk 35 (.c [.v (.int .i64 1), .v (.int .i64 r), .v (.slice A ids.length c), .v (.slice B row.length d)])]⟩) (fun i => i ≤ row.length) (fun i => row.length - i) 0 [0] (by omega) ?_ ?_
        · simp (config := { maxSteps := 1000000 }) only [push_cast, ↓Int.toNat_natCast, ↓Int.cast_ofNat_Int, Int.cast_ofNat_Int, ↓reduceIte, reduceCtorEq, Nat.reduceEqDiff, Nat.reduceLT, Nat.reduceLeDiff, Nat.reduceAdd, Nat.reduceSub, Nat.reduceMul, Int.reduceNeg, Int.reduceLE, Int.reduceLT, Int.reduceToNat, Int.reduceAdd, Int.reduceSub, Int.reduceMul, Int.reduceEq]
        · intro i hi
          by_cases hlt : (i : Int) < row.length
          · have i0 : (0 : Int) ≤ i := by omega
            have c0 : cellOf w (pAdd B i) = vU32 (ix row i) := H.cell i (by omega)
            have o0 := H.ok i (by omega)
            have hA := H.some_ (by omega)
            have hsl := sJ_len ids row i hid hi
            have hxt : (ix row i).toUInt64.toNat = (ix row i).toNat := UInt32.toNat_toUInt64 _
            have hxl := (ix row i).toNat_lt
            have hml := dec_len 10 (ix row i).toNat (by omega)
            have hs : bstr (sJ ids row i) ++ bstr [32] ++ bstr (Lib.decDigits (ix row i).toNat) = bstr (sJ ids row (i + 1)) := by
              rw [bstr_app, bstr_app, sJ_succ ids row i (by omega)]
              unfold dU
              rw [List.append_assoc]
            have q1 : (sJ ids row i).length + 1 ≤ 9223372036854775807 := by omega
            have q2 : (sJ ids row i).length + 1 + (Lib.decDigits (ix row i).toNat).length ≤ 9223372036854775807 := by omega
            simp (config := { maxSteps := 1000000 }) only [hlt, i0, c0, o0, hA, sp_lit, bstr_size, ByteArray.size_append, q1, List.length_cons, List.length_nil, undef, push_cast, ↓Int.toNat_natCast, ↓Int.cast_ofNat_Int, Int.cast_ofNat_Int, ↓reduceIte, reduceCtorEq, Nat.reduceEqDiff, Nat.reduceLT, Nat.reduceLeDiff, Nat.reduceAdd, Nat.reduceSub, Nat.reduceMul, Int.reduceNeg, Int.reduceLE, Int.reduceLT, Int.reduceToNat, Int.reduceAdd, Int.reduceSub, Int.reduceMul, Int.reduceEq]
            (repeat (refine And.intro (by first | omega | decide) ?_))
            refine callG_v rfl cb32 rfl (digits33OK (ix row i).toUInt64) (dOk_lt rfl) ?_
            simp (config := { maxSteps := 1000000 }) only [hxt, hs, sp_lit, bstr_size, ByteArray.size_append, q1, q2, List.length_cons, List.length_nil, undef, push_cast, ↓Int.toNat_natCast, ↓Int.cast_ofNat_Int, Int.cast_ofNat_Int, ↓reduceIte, reduceCtorEq, Nat.reduceEqDiff, Nat.reduceLT, Nat.reduceLeDiff, Nat.reduceAdd, Nat.reduceSub, Nat.reduceMul, Int.reduceNeg, Int.reduceLE, Int.reduceLT, Int.reduceToNat, Int.reduceAdd, Int.reduceSub, Int.reduceMul, Int.reduceEq]
            (repeat (refine And.intro (by first | omega | decide) ?_))
            refine loopK_normal (i + 1) [0] (by omega) (by omega) ?_
            simp (config := { maxSteps := 1000000 }) only [push_cast, ↓Int.toNat_natCast, ↓Int.cast_ofNat_Int, Int.cast_ofNat_Int, ↓reduceIte, reduceCtorEq, Nat.reduceEqDiff, Nat.reduceLT, Nat.reduceLeDiff, Nat.reduceAdd, Nat.reduceSub, Nat.reduceMul, Int.reduceNeg, Int.reduceLE, Int.reduceLT, Int.reduceToNat, Int.reduceAdd, Int.reduceSub, Int.reduceMul, Int.reduceEq]
          · have e : i = row.length := by omega
            subst e
            have hsl := sJ_len ids row row.length hid (Nat.le_refl _)
            have hs : bstr (sJ ids row row.length) ++ bstr [10] = bstr (txtU 1 r ids row) := by rw [bstr_app, sJ_all r]
            have q1 : (sJ ids row row.length).length + 1 ≤ 9223372036854775807 := by omega
            simp (config := { maxSteps := 1000000 }) only [hlt, hs, q1, line_end, bstr_size, List.length_cons, List.length_nil, undef, push_cast, ↓Int.toNat_natCast, ↓Int.cast_ofNat_Int, Int.cast_ofNat_Int, ↓reduceIte, reduceCtorEq, Nat.reduceEqDiff, Nat.reduceLT, Nat.reduceLeDiff, Nat.reduceAdd, Nat.reduceSub, Nat.reduceMul, Int.reduceNeg, Int.reduceLE, Int.reduceLT, Int.reduceToNat, Int.reduceAdd, Int.reduceSub, Int.reduceMul, Int.reduceEq]
  · obtain ⟨r1, r2⟩ := hr rfl
    obtain ⟨m, hm⟩ : ∃ m : Nat, r = m := ⟨r.toNat, by omega⟩
    subst hm
    have htx : txtU 2 (m : Int) ids row = [97, 98, 111, 114, 116, 32] ++ (Lib.decDigits m ++ [10]) := by unfold txtU; rw [if_neg (by decide), if_pos rfl, Int.toNat_natCast]
    have hml := dec_len 2 m (by omega)
    have hu := ofInt_nat m (by omega)
    have q1 : 6 + (Lib.decDigits m).length ≤ 9223372036854775807 := by omega
    have q2 : 6 + (Lib.decDigits m).length + 1 ≤ 9223372036854775807 := by omega
    have hap : bstr [97, 98, 111, 114, 116, 32] ++ bstr (Lib.decDigits m) ++ bstr [10] = bstr (txtU 2 (m : Int) ids row) := by rw [htx, bstr_app, bstr_app, List.append_assoc]
    simp (config := { maxSteps := 1000000 }) only [abort_pre, line_end, undef, push_cast, ↓Int.toNat_natCast, ↓Int.cast_ofNat_Int, Int.cast_ofNat_Int, ↓reduceIte, reduceCtorEq, Nat.reduceEqDiff, Nat.reduceLT, Nat.reduceLeDiff, Nat.reduceAdd, Nat.reduceSub, Nat.reduceMul, Int.reduceNeg, Int.reduceLE, Int.reduceLT, Int.reduceToNat, Int.reduceAdd, Int.reduceSub, Int.reduceMul, Int.reduceEq]
    (repeat (refine And.intro (by first | omega | decide) ?_))
    refine callG_v rfl cb32 rfl (digits33OK (UInt64.ofInt (m : Int))) (dOk_lt rfl) ?_
    simp (config := { maxSteps := 1000000 }) only [hu, abort_pre, line_end, bstr_size, ByteArray.size_append, hap, q1, q2, List.length_cons, List.length_nil, undef, push_cast, ↓Int.toNat_natCast, ↓Int.cast_ofNat_Int, Int.cast_ofNat_Int, ↓reduceIte, reduceCtorEq, Nat.reduceEqDiff, Nat.reduceLT, Nat.reduceLeDiff, Nat.reduceAdd, Nat.reduceSub, Nat.reduceMul, Int.reduceNeg, Int.reduceLE, Int.reduceLT, Int.reduceToNat, Int.reduceAdd, Int.reduceSub, Int.reduceMul, Int.reduceEq]
end Go.Proofs.YtohnlajccfnecaaDoor
