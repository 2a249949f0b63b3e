/- How it ends, as a line (fate.Text). -/
import Derived.Test.YtohnlajccfnecaaDoorFt3
namespace Go.Proofs.YtohnlajccfnecaaDoor
open Go.RowKit
set_option linter.unusedSimpArgs false
def dI (n : Int) : List UInt8 := Lib.decDigits n.toNat
def dU (x : UInt32) : List UInt8 := Lib.decDigits x.toNat
def sB (l : List UInt8) : Value := .string (bstr l)
/-- The words of a sum. -/
def wordsT (ids : List Int) (row : List UInt32) : List (List UInt8) := [115, 117, 109] :: (ids.map dI ++ ([[124]] ++ row.map dU))
def txtU (k r : Int) (ids : List Int) (row : List UInt32) : List UInt8 :=
  if k = 1 then Lib.join (wordsT ids row) [32] ++ [10] else if k = 2 then [97, 98, 111, 114, 116, 32] ++ (Lib.decDigits r.toNat ++ [10]) else [111, 112, 101, 110, 10]
theorem joinT_len (L : List (List UInt8)) (m : Nat) (h : ∀ l ∈ L, l.length ≤ m) : (Lib.join L [32]).length ≤ L.length * (m + 1) := by
  induction L with
  | nil => simp [Lib.join_nil]
  | cons x L ih =>
    have h1 := h x (by simp)
    have h2 := ih fun l hl => h l (by simp [hl])
    cases L with
    | nil => rw [Lib.join_one]; simp; omega
    | cons y L =>
      have e : Lib.join (x :: y :: L) [32] = x ++ ([32] ++ Lib.join (y :: L) [32]) := by simp [Lib.join, List.intercalate]
      have h3 : (x :: y :: L).length = (y :: L).length + 1 := rfl
      have h4 : ([32] : List UInt8).length = 1 := rfl
      rw [e, List.length_append, List.length_append, h3, Nat.add_mul, h4]
      omega
def wI (ids : List Int) (i : Nat) : List (List UInt8) := [115, 117, 109] :: (ids.take i).map dI
def wJ (ids : List Int) (row : List UInt32) (i : Nat) : List (List UInt8) := wI ids ids.length ++ ([[124]] ++ (row.take i).map dU)
theorem take_snoc {α : Type} [Inhabited α] (l : List α) (i : Nat) (h : i < l.length) : l.take (i + 1) = l.take i ++ [ix l i] := by
  rw [List.take_add_one, List.getElem?_eq_getElem h]
  simp [ix, List.getD_eq_getElem?_getD, List.getElem?_eq_getElem h]
theorem wI_zero (ids : List Int) : wI ids 0 = [[115, 117, 109]] := rfl
theorem wI_succ (ids : List Int) (i : Nat) (h : i < ids.length) : wI ids (i + 1) = wI ids i ++ [dI (ix ids i)] := by
  unfold wI
  rw [take_snoc ids i h, List.map_append]; rfl
theorem wI_length (ids : List Int) (i : Nat) (h : i ≤ ids.length) : (wI ids i).length = i + 1 := by unfold wI; rw [List.length_cons, List.length_map, List.length_take]; omega
theorem wJ_zero (ids : List Int) (row : List UInt32) : wJ ids row 0 = wI ids ids.length ++ [[124]] := rfl
theorem wJ_succ (ids : List Int) (row : List UInt32) (i : Nat) (h : i < row.length) : wJ ids row (i + 1) = wJ ids row i ++ [dU (ix row i)] := by
  unfold wJ
  rw [take_snoc row i h, List.map_append]
  simp only [List.append_assoc, List.map_cons, List.map_nil]
theorem wJ_length (ids : List Int) (row : List UInt32) (i : Nat) (h : i ≤ row.length) : (wJ ids row i).length = ids.length + 2 + i := by
  unfold wJ
  rw [List.length_append, wI_length ids _ (Nat.le_refl _), List.length_append, List.length_map, List.length_take]
  simp only [List.length_cons, List.length_nil]
  omega
theorem wJ_all (ids : List Int) (row : List UInt32) : wJ ids row row.length = wordsT ids row := by
  unfold wJ wI wordsT
  rw [List.take_length, List.take_length]; rfl
theorem wordsT_len (ids : List Int) (row : List UInt32) (hid : ∀ n ∈ ids, 0 ≤ n ∧ n < 64) : ∀ l ∈ wordsT ids row, l.length ≤ 11 := by
  intro l hl
  unfold wordsT at hl
  rcases List.mem_cons.1 hl with rfl | hl
  · decide
  · rcases List.mem_append.1 hl with hl | hl
    · obtain ⟨n, hn, rfl⟩ := List.mem_map.1 hl
      have := hid n hn
      have := dec_len 2 n.toNat (by omega)
      unfold dI
      omega
    · rcases List.mem_append.1 hl with hl | hl
      · rw [List.mem_singleton.1 hl]; decide
      · obtain ⟨x, _, rfl⟩ := List.mem_map.1 hl
        have hx := x.toNat_lt
        unfold dU
        exact dec_len 10 x.toNat (by omega)
attribute [local irreducible] Callable CallOK CallG CallM DrawG LoopG symR symM
attribute [local irreducible] wI wJ dI dU wordsT
section
variable {k r : Int} {ids : List Int} {row : List UInt32}
theorem kindOK {w0 : World} {hp : List Res} (b : Nat) (h : FtB w0 b k r ids row) : CallOK Tryd.prog w0 No 10 [.x (.a (.v (.pointer (some (⟨b, 0, none⟩ : Addr)))))] hp (.x (.a (.v (.int .i64 k)))) hp := callOK_v fun _ w hS => kind_any b w (h.later (keeps_below hS.keeps))
theorem abort_pre : ({ data := #[97, 98, 111, 114, 116, 32] } : ByteArray) = bstr [97, 98, 111, 114, 116, 32] := rfl
theorem line_end : ({ data := #[10] } : ByteArray) = bstr [10] := rfl
theorem sum_lit : ({ data := #[115, 117, 109] } : ByteArray) = bstr [115, 117, 109] := rfl
theorem bar_lit : ({ data := #[124] } : ByteArray) = bstr [124] := rfl
theorem sp_lit : ({ data := #[32] } : ByteArray) = bstr [32] := rfl
theorem open_lit : ({ data := #[111, 112, 101, 110, 10] } : ByteArray) = bstr [111, 112, 101, 110, 10] := rfl
set_option maxRecDepth 100000 in
set_option maxHeartbeats 4000000 in
theorem text_any (b : Nat) (w : World) (hl : ids.length ≤ 100) (hl2 : row.length ≤ 100) (hid : ∀ n ∈ ids, 0 ≤ n ∧ n < 64) (hr : k = 2 → 0 ≤ r ∧ r ≤ 4) (h : FtB w b k r ids row) (ht : TabW w) : Calls Tryd.prog 12 #[.pointer (some (⟨b, 0, none⟩ : Addr))] w fun e w' => e = .returned (.string (bstr (txtU k r ids row))) ∧ Below w.heap.size w w' := by
  obtain ⟨A, c, B, d, F, b1, r1, b2, r2⟩ := h.p
  have hko := kindOK (hp := []) b h
  generalize (some (⟨b, 0, none⟩ : Addr)) = P at *
  have f0 := F.ok
  have fn := F.nn
  have f1 := F.c0
  have f2 := F.r0
  have f3 := F.c1
  have f4 := F.r1
  have f5 := F.c2
  have f6 := F.r2
  have f7 := F.c3
  have f8 := F.r3
  have G := FM.of r1
  have H := FM.of r2
  refine calls_v (n := 59) Tryd.func12 rfl Tryd.ntmps12 [(.x (.a (.v (.pointer P))))] (by simp) (.x (.a (.v (.string (bstr (txtU k r ids row)))))) (fun _ => rfl) ?_
  simp (config := { maxSteps := 1000000 }) only [undef, push_cast, ↓Int.toNat_natCast, ↓Int.cast_ofNat_Int, Int.cast_ofNat_Int, ↓reduceIte, reduceCtorEq, Nat.reduceEqDiff, Nat.reduceLT, Nat.reduceLeDiff, Nat.reduceAdd, Nat.reduceSub, Nat.reduceMul, Int.reduceNeg, Int.reduceLE, Int.reduceLT, Int.reduceToNat, Int.reduceAdd, Int.reduceSub, Int.reduceMul, Int.reduceEq]
  (repeat (refine And.intro (by first | omega | decide) ?_))
  refine callG_v rfl cb10 rfl hko (dOk_lt rfl) ?_
  by_cases k1 : k = 1
  · subst k1
    simp (config := { maxSteps := 1000000 }) only [f0, fn, f1, f2, f3, f4, f5, f6, pAdd_zero, sum_lit, bar_lit, undef, push_cast, ↓Int.toNat_natCast, ↓Int.cast_ofNat_Int, Int.cast_ofNat_Int, ↓reduceIte, reduceCtorEq, Nat.reduceEqDiff, Nat.reduceLT, Nat.reduceLeDiff, Nat.reduceAdd, Nat.reduceSub, Nat.reduceMul, Int.reduceNeg, Int.reduceLE, Int.reduceLT, Int.reduceToNat, Int.reduceAdd, Int.reduceSub, Int.reduceMul, Int.reduceEq]
    (repeat (refine And.intro (by first | omega | decide) ?_))
    refine loop_own 3 0 1 rfl rfl rfl (by decide) (by simp only [push_cast, ↓Int.toNat_natCast, ↓Int.cast_ofNat_Int, Int.cast_ofNat_Int, ↓reduceIte, reduceCtorEq, Nat.reduceEqDiff, Nat.reduceLT, Nat.reduceLeDiff, Nat.reduceAdd, Nat.reduceSub, Nat.reduceMul, Int.reduceNeg, Int.reduceLE, Int.reduceLT, Int.reduceToNat, Int.reduceAdd, Int.reduceSub, Int.reduceMul, Int.reduceEq]) ?_
    refine loop_rule (ι := Nat) (fun i => ⟨[(0, (.x (.a (.v (.pointer P))))), (3, .x (.a (.o 0))), (16, .x (.a (.v (.slice A ids.length c)))), (17, .x (.a (.v (.int .i64 ids.length)))), (18, .x (.a (.v (.int .i64 i))))], [.own 9 (.c ((wI ids i).map fun l => .v (sB l)))]⟩) (fun i => i ≤ ids.length) (fun i => ids.length - i) 0 [1] (by omega) ?_ ?_
    · simp (config := { maxSteps := 1000000 }) only [wI_zero, sB, List.map_cons, List.map_nil, push_cast, ↓Int.toNat_natCast, ↓Int.cast_ofNat_Int, Int.cast_ofNat_Int, ↓reduceIte, reduceCtorEq, Nat.reduceEqDiff, Nat.reduceLT, Nat.reduceLeDiff, Nat.reduceAdd, Nat.reduceSub, Nat.reduceMul, Int.reduceNeg, Int.reduceLE, Int.reduceLT, Int.reduceToNat, Int.reduceAdd, Int.reduceSub, Int.reduceMul, Int.reduceEq]
    · intro i hi
      by_cases hlt : (i : Int) < ids.length
      · have i0 : (0 : Int) ≤ i := by omega
        have c0 : cellOf w (pAdd A i) = .int .i64 (ix ids i) := G.cell i (by omega)
        have o0 := G.ok i (by omega)
        have hA := G.some_ (by omega)
        have hw := wI_length ids i (by omega)
        have hq := hid (ix ids i) (ix_mem (by omega))
        obtain ⟨m, hm⟩ : ∃ m : Nat, ix ids i = m := ⟨(ix ids i).toNat, by omega⟩
        have hs : (wI ids i).map (fun l => At.v (sB l)) ++ [.v (.string (bstr (Lib.decDigits m)))] = (wI ids (i + 1)).map (fun l => At.v (sB l)) := by
          rw [wI_succ ids i (by omega), List.map_append, hm]
          unfold dI
          rfl
        have q1 : (i + 1 + 1) * 16 ≤ 140737488355328 := by omega
        have q2 : i + 1 + 1 ≤ 2 ^ 63 - 1 := by omega
        simp (config := { maxSteps := 1000000 }) only [hlt, i0, c0, o0, hA, hm, pAdd_zero, undef, push_cast, ↓Int.toNat_natCast, ↓Int.cast_ofNat_Int, Int.cast_ofNat_Int, ↓reduceIte, reduceCtorEq, Nat.reduceEqDiff, Nat.reduceLT, Nat.reduceLeDiff, Nat.reduceAdd, Nat.reduceSub, Nat.reduceMul, Int.reduceNeg, Int.reduceLE, Int.reduceLT, Int.reduceToNat, Int.reduceAdd, Int.reduceSub, Int.reduceMul, Int.reduceEq]
        (repeat (refine And.intro (by first | omega | decide) ?_))
        refine callG_v rfl cb28 rfl (itoaOK m (by omega) ht) (dOk_lt rfl) ?_
        simp (config := { maxSteps := 1000000 }) only [hlt, hw, q1, q2, hs, List.length_map, mapV_forall, mapV_ren, undef, push_cast, ↓Int.toNat_natCast, ↓Int.cast_ofNat_Int, Int.cast_ofNat_Int, ↓reduceIte, reduceCtorEq, Nat.reduceEqDiff, Nat.reduceLT, Nat.reduceLeDiff, Nat.reduceAdd, Nat.reduceSub, Nat.reduceMul, Int.reduceNeg, Int.reduceLE, Int.reduceLT, Int.reduceToNat, Int.reduceAdd, Int.reduceSub, Int.reduceMul, Int.reduceEq]
        (repeat (refine And.intro (by first | omega | decide) ?_))
        refine loopK_normal (i + 1) [2] (by omega) (by omega) ?_
        simp (config := { maxSteps := 1000000 }) only [mapV_forall, mapV_ren, push_cast, ↓Int.toNat_natCast, ↓Int.cast_ofNat_Int, Int.cast_ofNat_Int, ↓reduceIte, reduceCtorEq, Nat.reduceEqDiff, Nat.reduceLT, Nat.reduceLeDiff, Nat.reduceAdd, Nat.reduceSub, Nat.reduceMul, Int.reduceNeg, Int.reduceLE, Int.reduceLT, Int.reduceToNat, Int.reduceAdd, Int.reduceSub, Int.reduceMul, Int.reduceEq]
      · have e : i = ids.length := by omega
        subst e
        have hw := wI_length ids ids.length (Nat.le_refl _)
        have hs : (wI ids ids.length).map (fun l => At.v (sB l)) ++ [.v (.string (bstr [124]))] = (wJ ids row 0).map (fun l => At.v (sB l)) := by
          rw [wJ_zero, List.map_append]
          rfl
        have q1 : (ids.length + 1 + 1) * 16 ≤ 140737488355328 := by omega
        have q2 : ids.length + 1 + 1 ≤ 2 ^ 63 - 1 := by omega
        simp (config := { maxSteps := 1000000 }) only [hlt, f0, fn, f5, f6, hw, q1, q2, hs, bar_lit, List.length_map, mapV_forall, mapV_ren, undef, push_cast, ↓Int.toNat_natCast, ↓Int.cast_ofNat_Int, Int.cast_ofNat_Int, ↓reduceIte, reduceCtorEq, Nat.reduceEqDiff, Nat.reduceLT, Nat.reduceLeDiff, Nat.reduceAdd, Nat.reduceSub, Nat.reduceMul, Int.reduceNeg, Int.reduceLE, Int.reduceLT, Int.reduceToNat, Int.reduceAdd, Int.reduceSub, Int.reduceMul, Int.reduceEq]
        (repeat (refine And.intro (by first | omega | decide) ?_))
        refine loop_rule (ι := Nat) (fun i => ⟨[(3, .x (.a (.o 0))), (34, .x (.a (.v (.slice B row.length d)))), (35, .x (.a (.v (.int .i64 row.length)))), (36, .x (.a (.v (.int .i64 i))))], [.own 9 (.c ((wJ ids row i).map fun l => .v (sB l)))]⟩) (fun i => i ≤ row.length) (fun i => row.length - i) 0 [2] (by omega) ?_ ?_
        · simp (config := { maxSteps := 1000000 }) only [mapV_forall, mapV_ren, push_cast, ↓Int.toNat_natCast, ↓Int.cast_ofNat_Int, Int.cast_ofNat_Int, ↓reduceIte, reduceCtorEq, Nat.reduceEqDiff, Nat.reduceLT, Nat.reduceLeDiff, Nat.reduceAdd, Nat.reduceSub, Nat.reduceMul, Int.reduceNeg, Int.reduceLE, Int.reduceLT, Int.reduceToNat, Int.reduceAdd, Int.reduceSub, Int.reduceMul, Int.reduceEq]
        · intro i hi
          by_cases hlt : (i : Int) < row.length
          · have i0 : (0 : Int) ≤ i := by omega
            have c0 : cellOf w (pAdd B i) = vU32 (ix row i) := H.cell i (by omega)
            have o0 := H.ok i (by omega)
            have hA := H.some_ (by omega)
            have hw := wJ_length ids row i (by omega)
            have hs : (wJ ids row i).map (fun l => At.v (sB l)) ++ [.v (.string (bstr (Lib.decDigits (ix row i).toUInt64.toNat)))] = (wJ ids row (i + 1)).map (fun l => At.v (sB l)) := by
              rw [wJ_succ ids row i (by omega), List.map_append]
              unfold dU
              rw [show (ix row i).toUInt64.toNat = (ix row i).toNat from UInt32.toNat_toUInt64 _]
              rfl
            have q1 : (ids.length + 2 + i + 1) * 16 ≤ 140737488355328 := by omega
            have q2 : ids.length + 2 + i + 1 ≤ 2 ^ 63 - 1 := by omega
            simp (config := { maxSteps := 1000000 }) only [hlt, i0, c0, o0, hA, undef, push_cast, ↓Int.toNat_natCast, ↓Int.cast_ofNat_Int, Int.cast_ofNat_Int, ↓reduceIte, reduceCtorEq, Nat.reduceEqDiff, Nat.reduceLT, Nat.reduceLeDiff, Nat.reduceAdd, Nat.reduceSub, Nat.reduceMul, Int.reduceNeg, Int.reduceLE, Int.reduceLT, Int.reduceToNat, Int.reduceAdd, Int.reduceSub, Int.reduceMul, Int.reduceEq]
            (repeat (refine And.intro (by first | omega | decide) ?_))
            refine callG_v rfl cb29 rfl (fmtUOK (ix row i).toUInt64 ht) (dOk_lt rfl) ?_
            simp (config := { maxSteps := 1000000 }) only [hlt, hw, q1, q2, hs, List.length_map, mapV_forall, mapV_ren, undef, push_cast, ↓Int.toNat_natCast, ↓Int.cast_ofNat_Int, Int.cast_ofNat_Int, ↓reduceIte, reduceCtorEq, Nat.reduceEqDiff, Nat.reduceLT, Nat.reduceLeDiff, Nat.reduceAdd, Nat.reduceSub, Nat.reduceMul, Int.reduceNeg, Int.reduceLE, Int.reduceLT, Int.reduceToNat, Int.reduceAdd, Int.reduceSub, Int.reduceMul, Int.reduceEq]
            (repeat (refine And.intro (by first | omega | decide) ?_))
            refine loopK_normal (i + 1) [2] (by omega) (by omega) ?_
            simp (config := { maxSteps := 1000000 }) only [mapV_forall, mapV_ren, push_cast, ↓Int.toNat_natCast, ↓Int.cast_ofNat_Int, Int.cast_ofNat_Int, ↓reduceIte, reduceCtorEq, Nat.reduceEqDiff, Nat.reduceLT, Nat.reduceLeDiff, Nat.reduceAdd, Nat.reduceSub, Nat.reduceMul, Int.reduceNeg, Int.reduceLE, Int.reduceLT, Int.reduceToNat, Int.reduceAdd, Int.reduceSub, Int.reduceMul, Int.reduceEq]
          · have e : i = row.length := by omega
            subst e
            have hne : wordsT ids row ≠ [] := by unfold wordsT; simp
            have hlw : (wordsT ids row).length = ids.length + 2 + row.length := by rw [← wJ_all]; exact wJ_length ids row _ (Nat.le_refl _)
            have hjl := joinT_len (wordsT ids row) 11 (wordsT_len ids row hid)
            have hjl2 : (Lib.join (wordsT ids row) [32]).length ≤ 10000 := by
              have : (wordsT ids row).length * (11 + 1) ≤ 202 * 12 := Nat.mul_le_mul_right _ (by omega)
              omega
            have hja := wJ_all ids row
            have htx : txtU 1 r ids row = Lib.join (wordsT ids row) [32] ++ [10] := if_pos rfl
            have hap := bstr_app (Lib.join (wordsT ids row) [32]) [10]
            have q1 : (Lib.join (wordsT ids row) [32]).length + 1 ≤ 9223372036854775807 := by omega
            simp (config := { maxSteps := 1000000 }) only [hlt, hja, sp_lit, line_end, undef, push_cast, ↓Int.toNat_natCast, ↓Int.cast_ofNat_Int, Int.cast_ofNat_Int, ↓reduceIte, reduceCtorEq, Nat.reduceEqDiff, Nat.reduceLT, Nat.reduceLeDiff, Nat.reduceAdd, Nat.reduceSub, Nat.reduceMul, Int.reduceNeg, Int.reduceLE, Int.reduceLT, Int.reduceToNat, Int.reduceAdd, Int.reduceSub, Int.reduceMul, Int.reduceEq]
            (repeat (refine And.intro (by first | omega | decide) ?_))
            refine callG_v rfl cb30 rfl (joinOK (L := wordsT ids row) [32] hne (by omega) (by omega) (shows_own rfl fun γ => by show List.map (At.val γ) (List.map _ _) = _; rw [List.map_map]; rfl)) (dOk_lt rfl) ?_
            simp (config := { maxSteps := 1000000 }) only [htx, sp_lit, line_end, bstr_size, hap, q1, List.length_cons, List.length_nil, undef, push_cast, ↓Int.toNat_natCast, ↓Int.cast_ofNat_Int, Int.cast_ofNat_Int, ↓reduceIte, reduceCtorEq, Nat.reduceEqDiff, Nat.reduceLT, Nat.reduceLeDiff, Nat.reduceAdd, Nat.reduceSub, Nat.reduceMul, Int.reduceNeg, Int.reduceLE, Int.reduceLT, Int.reduceToNat, Int.reduceAdd, Int.reduceSub, Int.reduceMul, Int.reduceEq]
  · by_cases k2 : k = 2
    · subst k2
      obtain ⟨r1, r2⟩ := hr rfl
      obtain ⟨m, hm⟩ : ∃ m : Nat, r = m := ⟨r.toNat, by omega⟩
      subst hm
      have htx : txtU 2 (m : Int) ids row = [97, 98, 111, 114, 116, 32] ++ (Lib.decDigits m ++ [10]) := by unfold txtU; rw [if_neg (by decide), if_pos rfl, Int.toNat_natCast]
      have hml := dec_len 2 m (by omega)
      have q1 : 6 + (Lib.decDigits m).length ≤ 9223372036854775807 := by omega
      have q2 : 6 + (Lib.decDigits m).length + 1 ≤ 9223372036854775807 := by omega
      have hap : bstr [97, 98, 111, 114, 116, 32] ++ bstr (Lib.decDigits m) ++ bstr [10] = bstr (txtU 2 (m : Int) ids row) := by rw [htx, bstr_app, bstr_app, List.append_assoc]
      simp (config := { maxSteps := 1000000 }) only [f0, fn, f7, f8, abort_pre, line_end, undef, push_cast, ↓Int.toNat_natCast, ↓Int.cast_ofNat_Int, Int.cast_ofNat_Int, ↓reduceIte, reduceCtorEq, Nat.reduceEqDiff, Nat.reduceLT, Nat.reduceLeDiff, Nat.reduceAdd, Nat.reduceSub, Nat.reduceMul, Int.reduceNeg, Int.reduceLE, Int.reduceLT, Int.reduceToNat, Int.reduceAdd, Int.reduceSub, Int.reduceMul, Int.reduceEq]
      (repeat (refine And.intro (by first | omega | decide) ?_))
      refine callG_v rfl cb28 rfl (itoaOK m (by omega) ht) (dOk_lt rfl) ?_
      simp (config := { maxSteps := 1000000 }) only [abort_pre, line_end, bstr_size, ByteArray.size_append, hap, q1, q2, List.length_cons, List.length_nil, undef, push_cast, ↓Int.toNat_natCast, ↓Int.cast_ofNat_Int, Int.cast_ofNat_Int, ↓reduceIte, reduceCtorEq, Nat.reduceEqDiff, Nat.reduceLT, Nat.reduceLeDiff, Nat.reduceAdd, Nat.reduceSub, Nat.reduceMul, Int.reduceNeg, Int.reduceLE, Int.reduceLT, Int.reduceToNat, Int.reduceAdd, Int.reduceSub, Int.reduceMul, Int.reduceEq]
    · have htx : txtU k r ids row = [111, 112, 101, 110, 10] := by unfold txtU; rw [if_neg k1, if_neg k2]
      simp (config := { maxSteps := 1000000 }) only [k1, k2, htx, open_lit, undef, push_cast, ↓Int.toNat_natCast, ↓Int.cast_ofNat_Int, Int.cast_ofNat_Int, ↓reduceIte, reduceCtorEq, Nat.reduceEqDiff, Nat.reduceLT, Nat.reduceLeDiff, Nat.reduceAdd, Nat.reduceSub, Nat.reduceMul, Int.reduceNeg, Int.reduceLE, Int.reduceLT, Int.reduceToNat, Int.reduceAdd, Int.reduceSub, Int.reduceMul, Int.reduceEq]
end
end Go.Proofs.YtohnlajccfnecaaDoor
