/- A number's digits by the document (caucusref33.Digits); what slices.Clone and strings.Join tell, for the engine. -/
import Derived.Test.YtohnlajccfnecaaDoorFmt
import Derived.Test.YtohnlajccfnecaaDoorSetA
namespace Go.Proofs.YtohnlajccfnecaaDoor
open Go.RowKit
set_option linter.unusedSimpArgs false
attribute [local irreducible] full
set_option maxRecDepth 100000 in
set_option maxHeartbeats 1000000 in
theorem digits33_any (x : UInt64) (w : World) : Calls Tryd.prog 32 #[vU64 x] w fun e w' => e = .returned (.string (bstr (Lib.decDigits x.toNat))) ∧ Below w.heap.size w w' := by
  refine calls_v (n := 22) Tryd.func32 rfl Tryd.ntmps32 [.x (.a (.v (vU64 x)))] (by simp) (.x (.a (.v (.string (bstr (Lib.decDigits x.toNat)))))) (fun _ => rfl) ?_
  simp only [push_cast, ↓Int.toNat_natCast, ↓Int.cast_ofNat_Int, Int.cast_ofNat_Int, ↓reduceIte, reduceCtorEq, Nat.reduceEqDiff, Nat.reduceLT, Nat.reduceLeDiff, Nat.reduceAdd, Nat.reduceSub, Nat.reduceMul, Int.reduceNeg, Int.reduceLE, Int.reduceLT, Int.reduceToNat, Int.reduceAdd, Int.reduceSub, Int.reduceMul, Int.reduceEq]
  refine loop_rule (ι := UInt64 × List UInt8) (fun q => ⟨[(0, .x (.a (.v (vU64 q.1)))), (3, .x (.a (.v (.string (bstr q.2)))))], []⟩) (fun q => full q.1.toNat q.2 = Lib.decDigits x.toNat ∧ q.1.toNat * 10 ^ q.2.length ≤ x.toNat ∧ q.2.length ≤ 20) (fun q => 2 * q.1.toNat + (if q.2 = [] then 1 else 0)) (x, []) [] ⟨full_start x.toNat, by simp, by simp⟩ ?_ ?_
  · simp only [push_cast, ↓Int.toNat_natCast, ↓Int.cast_ofNat_Int, Int.cast_ofNat_Int, ↓reduceIte, reduceCtorEq, Nat.reduceEqDiff, Nat.reduceLT, Nat.reduceLeDiff, Nat.reduceAdd, Nat.reduceSub, Nat.reduceMul, Int.reduceNeg, Int.reduceLE, Int.reduceLT, Int.reduceToNat, Int.reduceAdd, Int.reduceSub, Int.reduceMul, Int.reduceEq]
    rfl
  · rintro ⟨m, l⟩ ⟨hf, hlen, h20⟩
    have hlen : m.toNat * 10 ^ l.length ≤ x.toNat := hlen
    have h20 : l.length ≤ 20 := h20
    have hbn := bstr_nil l
    have hbs := bstr_size l
    have e1 : (m % 10).toNat = m.toNat % 10 := by rw [UInt64.toNat_mod]; rfl
    have e2 : (m % 10 + 1).toNat = m.toNat % 10 + 1 := by rw [UInt64.toNat_add, e1]; have : (1 : UInt64).toNat = 1 := rfl; omega
    have e3 : (m / 10).toNat = m.toNat / 10 := by rw [UInt64.toNat_div]; rfl
    have t0 : (n64 (m % 10)).toNat = m.toNat % 10 := by show ((m % 10).toNat : Int).toNat = _; rw [e1]; omega
    have t1 : (n64 (m % 10 + 1)).toNat = m.toNat % 10 + 1 := by show ((m % 10 + 1).toNat : Int).toNat = _; rw [e2]; omega
    have u0 : n64 (m % 10) = ((m.toNat % 10 : Nat) : Int) := by show ((m % 10).toNat : Int) = _; rw [e1]
    have u1 : n64 (m % 10 + 1) = ((m.toNat % 10 : Nat) : Int) + 1 := by show ((m % 10 + 1).toNat : Int) = _; rw [e2]; omega
    have hp := ten_piece m.toNat
    have hs10 : ({ data := #[48, 49, 50, 51, 52, 53, 54, 55, 56, 57] } : ByteArray).size = 10 := rfl
    have hps : (bstr [dch m.toNat]).size = 1 := rfl
    have hap := bstr_app [dch m.toNat] l
    have hten : ((10 : UInt64) = 0) = False := by decide
    have b1 : 1 + l.length ≤ 9223372036854775807 := by omega
    have hx := x.toNat_lt
    have hm0 : (0 : UInt64) < m ↔ 0 < m.toNat := UInt64.lt_iff_toNat_lt
    have hpow : ∀ k : Nat, 20 ≤ k → 18446744073709551616 < 10 ^ k := fun k hk => Nat.lt_of_lt_of_le (by decide : 18446744073709551616 < 10 ^ 20) (Nat.pow_le_pow_right (by decide) hk)
    have hstep : m.toNat / 10 * 10 ^ (l.length + 1) ≤ x.toNat := by
      rw [Nat.pow_succ, Nat.mul_comm (10 ^ l.length) 10, ← Nat.mul_assoc]
      exact Nat.le_trans (Nat.mul_le_mul_right _ (Nat.div_mul_le_self _ _)) hlen
    by_cases h0 : (0 : UInt64) < m
    · have hmp : 0 < m.toNat := hm0.1 h0
      have hl20 : l.length < 20 := by
        apply Nat.lt_of_not_le
        intro hge
        have h1 := hpow _ hge
        have h2 : 1 * 10 ^ l.length ≤ m.toNat * 10 ^ l.length := Nat.mul_le_mul_right _ hmp
        omega
      simp only [h0, undef, push_cast, ↓Int.toNat_natCast, ↓Int.cast_ofNat_Int, Int.cast_ofNat_Int, ↓reduceIte, reduceCtorEq, Nat.reduceEqDiff, Nat.reduceLT, Nat.reduceLeDiff, Nat.reduceAdd, Nat.reduceSub, Nat.reduceMul, Int.reduceNeg, Int.reduceLE, Int.reduceLT, Int.reduceToNat, Int.reduceAdd, Int.reduceSub, Int.reduceMul, Int.reduceEq]
      simp only [t0, t1, hp, hps, hbs, hap, hten, b1, not_false_eq_true, true_and, undef, push_cast, ↓Int.toNat_natCast, ↓Int.cast_ofNat_Int, Int.cast_ofNat_Int, ↓reduceIte, reduceCtorEq, Nat.reduceEqDiff, Nat.reduceLT, Nat.reduceLeDiff, Nat.reduceAdd, Nat.reduceSub, Nat.reduceMul, Int.reduceNeg, Int.reduceLE, Int.reduceLT, Int.reduceToNat, Int.reduceAdd, Int.reduceSub, Int.reduceMul, Int.reduceEq]
      (repeat (refine And.intro (by first | omega | decide) ?_))
      refine loopK_normal (m / 10, dch m.toNat :: l) [] ⟨?_, ?_, ?_⟩ ?_ ?_
      · show full (m / 10).toNat _ = _
        rw [e3]; exact (full_step m.toNat l (.inl hmp)).trans hf
      · show (m / 10).toNat * 10 ^ (l.length + 1) ≤ _
        rw [e3]; exact hstep
      · show l.length + 1 ≤ 20
        omega
      · show 2 * (m / 10).toNat + (if dch m.toNat :: l = [] then 1 else 0) < 2 * m.toNat + (if l = [] then 1 else 0)
        rw [e3]
        simp only [reduceCtorEq, if_false]
        omega
      · simp only [push_cast, ↓Int.toNat_natCast, ↓Int.cast_ofNat_Int, Int.cast_ofNat_Int, ↓reduceIte, reduceCtorEq, Nat.reduceEqDiff, Nat.reduceLT, Nat.reduceLeDiff, Nat.reduceAdd, Nat.reduceSub, Nat.reduceMul, Int.reduceNeg, Int.reduceLE, Int.reduceLT, Int.reduceToNat, Int.reduceAdd, Int.reduceSub, Int.reduceMul, Int.reduceEq]
    · have hm : m.toNat = 0 := Nat.eq_zero_of_not_pos fun h => h0 (hm0.2 h)
      by_cases hl : l = []
      · subst hl
        have hd : decide (([] : List UInt8) = []) = true := rfl
        simp only [h0, hbn, hd, undef, push_cast, ↓Int.toNat_natCast, ↓Int.cast_ofNat_Int, Int.cast_ofNat_Int, ↓reduceIte, reduceCtorEq, Nat.reduceEqDiff, Nat.reduceLT, Nat.reduceLeDiff, Nat.reduceAdd, Nat.reduceSub, Nat.reduceMul, Int.reduceNeg, Int.reduceLE, Int.reduceLT, Int.reduceToNat, Int.reduceAdd, Int.reduceSub, Int.reduceMul, Int.reduceEq]
        simp only [t0, t1, hp, hps, hbs, hap, hten, b1, not_false_eq_true, true_and, undef, push_cast, ↓Int.toNat_natCast, ↓Int.cast_ofNat_Int, Int.cast_ofNat_Int, ↓reduceIte, reduceCtorEq, Nat.reduceEqDiff, Nat.reduceLT, Nat.reduceLeDiff, Nat.reduceAdd, Nat.reduceSub, Nat.reduceMul, Int.reduceNeg, Int.reduceLE, Int.reduceLT, Int.reduceToNat, Int.reduceAdd, Int.reduceSub, Int.reduceMul, Int.reduceEq]
        (repeat (refine And.intro (by first | omega | decide) ?_))
        refine loopK_normal (m / 10, [dch m.toNat]) [] ⟨?_, ?_, ?_⟩ ?_ ?_
        · show full (m / 10).toNat _ = _
          rw [e3]; exact (full_step m.toNat [] (.inr rfl)).trans hf
        · show (m / 10).toNat * 10 ^ 1 ≤ _
          rw [e3, hm]; exact Nat.zero_le _
        · show 1 ≤ 20
          omega
        · show 2 * (m / 10).toNat + (if [dch m.toNat] = [] then 1 else 0) < 2 * m.toNat + (if ([] : List UInt8) = [] then 1 else 0)
          rw [e3, hm]
          simp
        · simp only [push_cast, ↓Int.toNat_natCast, ↓Int.cast_ofNat_Int, Int.cast_ofNat_Int, ↓reduceIte, reduceCtorEq, Nat.reduceEqDiff, Nat.reduceLT, Nat.reduceLeDiff, Nat.reduceAdd, Nat.reduceSub, Nat.reduceMul, Int.reduceNeg, Int.reduceLE, Int.reduceLT, Int.reduceToNat, Int.reduceAdd, Int.reduceSub, Int.reduceMul, Int.reduceEq]
      · have he : l = Lib.decDigits x.toNat := by
          have hf : full m.toNat l = Lib.decDigits x.toNat := hf
          rw [hm] at hf
          rw [← hf, full_end hl]
        have hd : decide (l = []) = false := decide_eq_false hl
        simp only [h0, hbn, hd, undef, push_cast, ↓Int.toNat_natCast, ↓Int.cast_ofNat_Int, Int.cast_ofNat_Int, ↓reduceIte, reduceCtorEq, Nat.reduceEqDiff, Nat.reduceLT, Nat.reduceLeDiff, Nat.reduceAdd, Nat.reduceSub, Nat.reduceMul, Int.reduceNeg, Int.reduceLE, Int.reduceLT, Int.reduceToNat, Int.reduceAdd, Int.reduceSub, Int.reduceMul, Int.reduceEq]
        rw [he]
theorem digits33OK {w0 : World} {ow : Nat → Prop} {hp : List Res} (x : UInt64) : CallOK Tryd.prog w0 ow 32 [.x (.a (.v (vU64 x)))] hp (.x (.a (.v (.string (bstr (Lib.decDigits x.toNat)))))) hp := callOK_v fun _ w _ => digits33_any x w
/-! ### Copies -/
attribute [local irreducible] Callable CallOK CallG CallM DrawG LoopG symR symM
set_option maxRecDepth 100000 in
theorem cloneI_any (l : List Int) (A : Option Addr) (c : Nat) (w : World) (hl : l.length ≤ 1000) (hR : RdV w w.heap.size A (l.map vI64)) : Calls Tryd.prog 25 #[.slice A l.length c] w fun e w' => ∃ v, e = .returned v ∧ Own w' w.heap.size 3 v (l.map vI64) ∧ Below w.heap.size w w' := by
  obtain ⟨e1, k1⟩ := rdI_of (FV.no hR)
  have h0 := fun h => calls_own (P := Tryd.prog) (w := w) (n := 8) Tryd.func25 rfl Tryd.ntmps25 [.x (.a (.v (.slice A l.length c)))] (by simp) 3 (.i64 l) (vs := l.map vI64) (fun _ => rfl) h
  refine h0 ?_
  clear h0
  have b1 : l.length * 8 ≤ 140737488355328 := by omega
  have b2 : l.length ≤ 2 ^ 63 - 1 := by omega
  cases A with
  | none =>
    have hn : l = [] := by
      cases l with
      | nil => rfl
      | cons x r => obtain ⟨b, off, h, _⟩ := hR (by simp); cases h
    subst hn
    simp only [undef, ownT, push_cast, ↓Int.toNat_natCast, ↓Int.cast_ofNat_Int, Int.cast_ofNat_Int, ↓reduceIte, reduceCtorEq, Nat.reduceEqDiff, Nat.reduceLT, Nat.reduceLeDiff, Nat.reduceAdd, Nat.reduceSub, Nat.reduceMul, Int.reduceNeg, Int.reduceLE, Int.reduceLT, Int.reduceToNat, Int.reduceAdd, Int.reduceSub, Int.reduceMul, Int.reduceEq]
  | some a =>
    simp only [e1, k1, b1, b2, undef, ownT, push_cast, ↓Int.toNat_natCast, ↓Int.cast_ofNat_Int, Int.cast_ofNat_Int, ↓reduceIte, reduceCtorEq, Nat.reduceEqDiff, Nat.reduceLT, Nat.reduceLeDiff, Nat.reduceAdd, Nat.reduceSub, Nat.reduceMul, Int.reduceNeg, Int.reduceLE, Int.reduceLT, Int.reduceToNat, Int.reduceAdd, Int.reduceSub, Int.reduceMul, Int.reduceEq]
set_option maxRecDepth 100000 in
theorem cloneU_any (l : List UInt32) (A : Option Addr) (c : Nat) (w : World) (hl : l.length ≤ 1000) (hR : RdV w w.heap.size A (l.map vU32)) : Calls Tryd.prog 26 #[.slice A l.length c] w fun e w' => ∃ v, e = .returned v ∧ Own w' w.heap.size 46 v (l.map vU32) ∧ Below w.heap.size w w' := by
  obtain ⟨e1, k1⟩ := rd32_of (FV.no hR)
  have h0 := fun h => calls_own (P := Tryd.prog) (w := w) (n := 8) Tryd.func26 rfl Tryd.ntmps26 [.x (.a (.v (.slice A l.length c)))] (by simp) 46 (.u32 l) (vs := l.map vU32) (fun _ => rfl) h
  refine h0 ?_
  clear h0
  have b1 : l.length * 4 ≤ 140737488355328 := by omega
  have b2 : l.length ≤ 2 ^ 63 - 1 := by omega
  cases A with
  | none =>
    have hn : l = [] := by
      cases l with
      | nil => rfl
      | cons x r => obtain ⟨b, off, h, _⟩ := hR (by simp); cases h
    subst hn
    simp only [undef, ownT, push_cast, ↓Int.toNat_natCast, ↓Int.cast_ofNat_Int, Int.cast_ofNat_Int, ↓reduceIte, reduceCtorEq, Nat.reduceEqDiff, Nat.reduceLT, Nat.reduceLeDiff, Nat.reduceAdd, Nat.reduceSub, Nat.reduceMul, Int.reduceNeg, Int.reduceLE, Int.reduceLT, Int.reduceToNat, Int.reduceAdd, Int.reduceSub, Int.reduceMul, Int.reduceEq]
  | some a =>
    simp only [e1, k1, b1, b2, undef, ownT, push_cast, ↓Int.toNat_natCast, ↓Int.cast_ofNat_Int, Int.cast_ofNat_Int, ↓reduceIte, reduceCtorEq, Nat.reduceEqDiff, Nat.reduceLT, Nat.reduceLeDiff, Nat.reduceAdd, Nat.reduceSub, Nat.reduceMul, Int.reduceNeg, Int.reduceLE, Int.reduceLT, Int.reduceToNat, Int.reduceAdd, Int.reduceSub, Int.reduceMul, Int.reduceEq]
section
variable {w0 : World} {ow : Nat → Prop} {hp : List Res} {sv : Sv}
theorem cloneIOK {l : List Int} (hl : l.length ≤ 1000) (h : Shows w0 ow hp sv (l.map vI64)) (hbr : ∀ r ∈ hp, Res.bnd hp.length r) : CallOK Tryd.prog w0 ow 25 [sv] hp (.x (.a (.o hp.length))) (hp ++ [.own 3 (.i64 l)]) := callOK_own hbr trivial fun γ w hS => by
  obtain ⟨A, c, e1, b1, r1⟩ := h γ w hS
  rw [List.length_map] at e1
  show Calls _ _ #[sv.val γ] w _
  rw [e1]
  exact cloneI_any l A c w hl r1
theorem cloneUOK {l : List UInt32} (hl : l.length ≤ 1000) (h : Shows w0 ow hp sv (l.map vU32)) (hbr : ∀ r ∈ hp, Res.bnd hp.length r) : CallOK Tryd.prog w0 ow 26 [sv] hp (.x (.a (.o hp.length))) (hp ++ [.own 46 (.u32 l)]) := callOK_own hbr trivial fun γ w hS => by
  obtain ⟨A, c, e1, b1, r1⟩ := h γ w hS
  rw [List.length_map] at e1
  show Calls _ _ #[sv.val γ] w _
  rw [e1]
  exact cloneU_any l A c w hl r1
theorem bstr_list (l : List UInt8) : (bstr l).data.toList = l := by simp [bstr]
theorem joinOK {L : List (List UInt8)} (sep : List UInt8) (h0 : L ≠ []) (hL : L.length ≤ 1000000) (hj : (Lib.join L sep).length ≤ 140737488355328) (h : Shows w0 No hp sv (L.map fun l => Value.string (bstr l))) :
    CallOK Tryd.prog w0 No 30 [sv, .x (.a (.v (.string (bstr sep))))] hp (.x (.a (.v (.string (bstr (Lib.join L sep)))))) hp := callOK_v fun γ w hS => by
  obtain ⟨A, c, e1, b1, r1⟩ := h γ w hS
  rw [List.length_map] at e1 b1
  obtain ⟨b, off, rfl, hb, hc⟩ := r1 (by rw [List.length_map]; exact List.length_pos_iff.2 h0)
  have em : (L.map bstr).map (fun x => x.data.toList) = L := by
    rw [List.map_map]
    conv => rhs; rw [← List.map_id L]
    exact List.map_congr_left fun l _ => bstr_list l
  have := Tryd.strings_Join b off c (L.map bstr) (bstr sep) w (fun j x hx => by
    rw [List.getElem?_map] at hx
    cases hq : L[j]? with
    | none => rw [hq] at hx; cases hx
    | some q =>
      rw [hq] at hx
      obtain rfl := Option.some.inj hx
      exact hc j _ (by rw [List.getElem?_map, hq]; rfl)) hb (by rw [List.length_map]; omega) (by rw [List.length_map]; exact b1) (by rw [em, bstr_list]; exact hj)
  rw [List.length_map, em, bstr_list] at this
  show Calls _ _ #[sv.val γ, .string (bstr sep)] w _
  rw [e1]
  exact this
end
end Go.Proofs.YtohnlajccfnecaaDoor
