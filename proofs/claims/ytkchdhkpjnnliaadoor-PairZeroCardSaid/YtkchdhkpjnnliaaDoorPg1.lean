/- Small functions: a number as one of the field; is a text a label; are two rows the same. -/
import Derived.Test.YtkchdhkpjnnliaaDoorTy
import Derived.Laws.RangeString
import Derived.Laws.RangeAny
namespace Go.Proofs.YtkchdhkpjnnliaaDoor
open Go.RowKit
set_option linter.unusedSimpArgs false
def fpP : UInt64 := 2305843009213693951
set_option maxRecDepth 100000 in
theorem fpOf_any (v : UInt64) (w : World) : Calls Tryd.prog 75 #[vU64 v] w fun e w' => e = .returned (vU64 (v % fpP)) ∧ Below w.heap.size w w' := by
  refine calls_v (n := 5) Tryd.func75 rfl Tryd.ntmps75 [.x (.a (.v (vU64 v)))] (by simp) (.x (.a (.v (vU64 (v % fpP))))) (fun _ => rfl) ?_
  simp only [push_cast, ↓Int.toNat_natCast, ↓Int.cast_ofNat_Int, Int.cast_ofNat_Int, ↓reduceIte, reduceCtorEq, Nat.reduceEqDiff, Nat.reduceLT, Nat.reduceLeDiff, Nat.reduceAdd, Nat.reduceSub, Nat.reduceMul, Int.reduceNeg, Int.reduceLE, Int.reduceLT, Int.reduceToNat, Int.reduceAdd, Int.reduceSub, Int.reduceMul, Int.reduceEq]
  exact ⟨by decide, rfl⟩
/-! ### Labels -/
def chB (x : UInt8) : Bool := decide (32 ≤ x) && decide (x ≤ 126)
def labTo (s : ByteArray) : Nat → Bool
  | 0 => true
  | k + 1 => labTo s k && chB (sAt s k)
theorem labTo_succ (s : ByteArray) (k : Nat) : labTo s (k + 1) = (labTo s k && chB (sAt s k)) := rfl
theorem labTo_bad (s : ByteArray) (k m : Nat) (h : labTo s k = false) (hm : k ≤ m) : labTo s m = false := by
  induction m with
  | zero =>
    have hk : k = 0 := by omega
    rw [hk] at h
    exact h
  | succ m ih =>
    by_cases he : k = m + 1
    · subst he; exact h
    · rw [labTo_succ, ih (by omega)]; rfl
def labOk (s : ByteArray) : Bool := decide (s.size ≤ 64) && labTo s s.size
theorem labOk_bad {s : ByteArray} {k : Nat} (hk : k < s.size) (h : chB (sAt s k) = false) : labOk s = false := by
  unfold labOk
  rw [labTo_bad s (k + 1) s.size (by rw [labTo_succ, h, Bool.and_false]) (by omega), Bool.and_false]
theorem labOk_all {s : ByteArray} (h : labTo s s.size = true) : labOk s = decide ((s.size : Int) ≤ 64) := by
  unfold labOk
  rw [h, Bool.and_true, decide_eq_decide]
  omega
theorem sAt_get {s : ByteArray} {k : Nat} (h : k < s.size) : s[k]'h = sAt s k := by
  unfold sAt ix
  rw [List.getD_eq_getElem?_getD, List.getElem?_eq_getElem (by simpa using h)]
  simp
  rfl
attribute [local irreducible] labTo
set_option maxRecDepth 100000 in
theorem label_any (s : ByteArray) (hs : s.size ≤ 1000) (w : World) : Calls Tryd.prog 73 #[.string s] w fun e w' => e = .returned (.bool (labOk s)) ∧ Below w.heap.size w w' := by
  refine calls_v (n := 23) Tryd.func73 rfl Tryd.ntmps73 [.x (.a (.v (.string s)))] (by simp) (.x (.a (.v (.bool (labOk s))))) (fun _ => rfl) ?_
  simp only [push_cast, ↓Int.toNat_natCast, ↓Int.cast_ofNat_Int, Int.cast_ofNat_Int, ↓reduceIte, reduceCtorEq, Nat.reduceEqDiff, Nat.reduceLT, Nat.reduceLeDiff, Nat.reduceAdd, Nat.reduceSub, Nat.reduceMul, Int.reduceNeg, Int.reduceLE, Int.reduceLT, Int.reduceToNat, Int.reduceAdd, Int.reduceSub, Int.reduceMul, Int.reduceEq]
  (repeat (refine And.intro (by first | omega | decide) ?_))
  refine loop_rule (ι := Nat) (fun k => ⟨[(0, .x (.a (.v (.string s)))), (3, .x (.a (.v (.int .i64 k))))], []⟩) (fun k => k ≤ s.size ∧ labTo s k = true) (fun k => s.size - k) 0 [] ⟨by omega, by unfold labTo; rfl⟩ ?_ ?_
  · simp only [push_cast, ↓Int.toNat_natCast, ↓Int.cast_ofNat_Int, Int.cast_ofNat_Int, ↓reduceIte, reduceCtorEq, Nat.reduceEqDiff, Nat.reduceLT, Nat.reduceLeDiff, Nat.reduceAdd, Nat.reduceSub, Nat.reduceMul, Int.reduceNeg, Int.reduceLE, Int.reduceLT, Int.reduceToNat, Int.reduceAdd, Int.reduceSub, Int.reduceMul, Int.reduceEq]
  · rintro k ⟨hk, hl⟩
    by_cases hlt : (k : Int) < s.size
    · have h : k < s.size := by omega
      by_cases h1 : sAt s k < 32
      · have hb := labOk_bad h (by unfold chB; rw [decide_eq_false (UInt8.not_le.2 h1)]; rfl)
        simp only [hlt, h1, hb, undef, push_cast, ↓Int.toNat_natCast, ↓Int.cast_ofNat_Int, Int.cast_ofNat_Int, ↓reduceIte, reduceCtorEq, Nat.reduceEqDiff, Nat.reduceLT, Nat.reduceLeDiff, Nat.reduceAdd, Nat.reduceSub, Nat.reduceMul, Int.reduceNeg, Int.reduceLE, Int.reduceLT, Int.reduceToNat, Int.reduceAdd, Int.reduceSub, Int.reduceMul, Int.reduceEq]
        omega
      · by_cases h2 : 126 < sAt s k
        · have hb := labOk_bad h (by unfold chB; rw [decide_eq_false (UInt8.not_le.2 h2), Bool.and_false])
          simp only [hlt, h1, h2, hb, undef, push_cast, ↓Int.toNat_natCast, ↓Int.cast_ofNat_Int, Int.cast_ofNat_Int, ↓reduceIte, reduceCtorEq, Nat.reduceEqDiff, Nat.reduceLT, Nat.reduceLeDiff, Nat.reduceAdd, Nat.reduceSub, Nat.reduceMul, Int.reduceNeg, Int.reduceLE, Int.reduceLT, Int.reduceToNat, Int.reduceAdd, Int.reduceSub, Int.reduceMul, Int.reduceEq]
          omega
        · have hg : chB (sAt s k) = true := by unfold chB; rw [decide_eq_true (UInt8.not_lt.1 h1), decide_eq_true (UInt8.not_lt.1 h2)]; rfl
          simp only [hlt, h1, h2, undef, push_cast, ↓Int.toNat_natCast, ↓Int.cast_ofNat_Int, Int.cast_ofNat_Int, ↓reduceIte, reduceCtorEq, Nat.reduceEqDiff, Nat.reduceLT, Nat.reduceLeDiff, Nat.reduceAdd, Nat.reduceSub, Nat.reduceMul, Int.reduceNeg, Int.reduceLE, Int.reduceLT, Int.reduceToNat, Int.reduceAdd, Int.reduceSub, Int.reduceMul, Int.reduceEq]
          (repeat (refine And.intro (by first | omega | decide) ?_))
          refine loopK_normal (k + 1) [] ⟨by omega, by rw [labTo_succ, hl, hg]; rfl⟩ (by omega) ?_
          simp only [push_cast, ↓Int.toNat_natCast, ↓Int.cast_ofNat_Int, Int.cast_ofNat_Int, ↓reduceIte, reduceCtorEq, Nat.reduceEqDiff, Nat.reduceLT, Nat.reduceLeDiff, Nat.reduceAdd, Nat.reduceSub, Nat.reduceMul, Int.reduceNeg, Int.reduceLE, Int.reduceLT, Int.reduceToNat, Int.reduceAdd, Int.reduceSub, Int.reduceMul, Int.reduceEq]
    · have h : k = s.size := by omega
      subst h
      have he := labOk_all hl
      simp only [hlt, he, undef, push_cast, ↓Int.toNat_natCast, ↓Int.cast_ofNat_Int, Int.cast_ofNat_Int, ↓reduceIte, reduceCtorEq, Nat.reduceEqDiff, Nat.reduceLT, Nat.reduceLeDiff, Nat.reduceAdd, Nat.reduceSub, Nat.reduceMul, Int.reduceNeg, Int.reduceLE, Int.reduceLT, Int.reduceToNat, Int.reduceAdd, Int.reduceSub, Int.reduceMul, Int.reduceEq]
      done
def runeOk (n : Nat) : Bool := decide (32 ≤ n) && decide (n ≤ 126)
theorem decode_ok {s : ByteArray} {k : Nat} (h : k < s.size) (hg : chB (sAt s k) = true) : Utf8.decode s k = ((sAt s k).toNat, 1) := by
  have e := sAt_get h
  have h2 : (s[k]'h).toNat < 128 := by
    rw [e]
    unfold chB at hg
    simp only [Bool.and_eq_true, decide_eq_true_eq] at hg
    have := UInt8.le_iff_toNat_le.1 hg.2
    have h3 : (126 : UInt8).toNat = 126 := rfl
    omega
  rw [Go.decode_ascii s k h h2, e]
theorem decode_bad {s : ByteArray} {k : Nat} (h : k < s.size) (hg : chB (sAt s k) = false) : (Utf8.decode s k).1 < 32 ∨ 126 < (Utf8.decode s k).1 := by
  have e := sAt_get h
  by_cases h2 : (s[k]'h).toNat < 128
  · rw [Go.decode_ascii s k h h2, e]
    unfold chB at hg
    simp only [Bool.and_eq_false_iff, decide_eq_false_iff_not, UInt8.le_iff_toNat_le] at hg
    have h3 : (126 : UInt8).toNat = 126 := rfl
    have h4 : (32 : UInt8).toNat = 32 := rfl
    omega
  · have := (Go.decode_high s k h (by omega)).1
    omega
theorem n8_ch {x : UInt8} (hg : chB x = true) : ¬ ((x.toNat : Int) < 32) ∧ ¬ ((126 : Int) < x.toNat) := by
  unfold chB at hg
  simp only [Bool.and_eq_true, decide_eq_true_eq, UInt8.le_iff_toNat_le] at hg
  have h3 : (126 : UInt8).toNat = 126 := rfl
  have h4 : (32 : UInt8).toNat = 32 := rfl
  omega
set_option maxRecDepth 100000 in
theorem good_any (s : ByteArray) (w : World) : Calls Tryd.prog 71 #[.string s] w fun e w' => e = .returned (.bool (labOk s)) ∧ Below w.heap.size w w' := by
  refine calls_v (n := 19) Tryd.func71 rfl Tryd.ntmps71 [.x (.a (.v (.string s)))] (by simp) (.x (.a (.v (.bool (labOk s))))) (fun _ => rfl) ?_
  simp only [push_cast, ↓Int.toNat_natCast, ↓Int.cast_ofNat_Int, Int.cast_ofNat_Int, ↓reduceIte, reduceCtorEq, Nat.reduceEqDiff, Nat.reduceLT, Nat.reduceLeDiff, Nat.reduceAdd, Nat.reduceSub, Nat.reduceMul, Int.reduceNeg, Int.reduceLE, Int.reduceLT, Int.reduceToNat, Int.reduceAdd, Int.reduceSub, Int.reduceMul, Int.reduceEq]
  by_cases h64 : (64 : Int) < s.size
  · have hb : labOk s = false := by unfold labOk; rw [decide_eq_false (by omega)]; rfl
    simp only [h64, hb, push_cast, ↓Int.toNat_natCast, ↓Int.cast_ofNat_Int, Int.cast_ofNat_Int, ↓reduceIte, reduceCtorEq, Nat.reduceEqDiff, Nat.reduceLT, Nat.reduceLeDiff, Nat.reduceAdd, Nat.reduceSub, Nat.reduceMul, Int.reduceNeg, Int.reduceLE, Int.reduceLT, Int.reduceToNat, Int.reduceAdd, Int.reduceSub, Int.reduceMul, Int.reduceEq]
  · simp only [h64, push_cast, ↓Int.toNat_natCast, ↓Int.cast_ofNat_Int, Int.cast_ofNat_Int, ↓reduceIte, reduceCtorEq, Nat.reduceEqDiff, Nat.reduceLT, Nat.reduceLeDiff, Nat.reduceAdd, Nat.reduceSub, Nat.reduceMul, Int.reduceNeg, Int.reduceLE, Int.reduceLT, Int.reduceToNat, Int.reduceAdd, Int.reduceSub, Int.reduceMul, Int.reduceEq]
    (repeat (refine And.intro (by first | omega | decide) ?_))
    refine loop_rule (ι := Nat) (fun k => ⟨[(9, .x (.a (.p 0 0)))], [.it s k]⟩) (fun k => k ≤ s.size ∧ labTo s k = true) (fun k => s.size - k) 0 [0] ⟨by omega, by unfold labTo; rfl⟩ ?_ ?_
    · simp only [push_cast, ↓Int.toNat_natCast, ↓Int.cast_ofNat_Int, Int.cast_ofNat_Int, ↓reduceIte, reduceCtorEq, Nat.reduceEqDiff, Nat.reduceLT, Nat.reduceLeDiff, Nat.reduceAdd, Nat.reduceSub, Nat.reduceMul, Int.reduceNeg, Int.reduceLE, Int.reduceLT, Int.reduceToNat, Int.reduceAdd, Int.reduceSub, Int.reduceMul, Int.reduceEq]
    · rintro k ⟨hk, hl⟩
      by_cases h : k < s.size
      · cases hc : chB (sAt s k)
        · have hb := labOk_bad h hc
          rcases decode_bad h hc with hd | hd
          · have hd : ((Utf8.decode s k).1 : Int) < 32 := by omega
            simp only [h, hd, hb, undef, push_cast, ↓Int.toNat_natCast, ↓Int.cast_ofNat_Int, Int.cast_ofNat_Int, ↓reduceIte, reduceCtorEq, Nat.reduceEqDiff, Nat.reduceLT, Nat.reduceLeDiff, Nat.reduceAdd, Nat.reduceSub, Nat.reduceMul, Int.reduceNeg, Int.reduceLE, Int.reduceLT, Int.reduceToNat, Int.reduceAdd, Int.reduceSub, Int.reduceMul, Int.reduceEq]
          · have hd0 : ¬ ((Utf8.decode s k).1 : Int) < 32 := by omega
            have hd : (126 : Int) < ((Utf8.decode s k).1 : Int) := by omega
            simp only [h, hd, hd0, hb, undef, push_cast, ↓Int.toNat_natCast, ↓Int.cast_ofNat_Int, Int.cast_ofNat_Int, ↓reduceIte, reduceCtorEq, Nat.reduceEqDiff, Nat.reduceLT, Nat.reduceLeDiff, Nat.reduceAdd, Nat.reduceSub, Nat.reduceMul, Int.reduceNeg, Int.reduceLE, Int.reduceLT, Int.reduceToNat, Int.reduceAdd, Int.reduceSub, Int.reduceMul, Int.reduceEq]
        · have hd := decode_ok h hc
          obtain ⟨h1, h2⟩ := n8_ch hc
          simp only [h, hd, h1, h2, undef, push_cast, ↓Int.toNat_natCast, ↓Int.cast_ofNat_Int, Int.cast_ofNat_Int, ↓reduceIte, reduceCtorEq, Nat.reduceEqDiff, Nat.reduceLT, Nat.reduceLeDiff, Nat.reduceAdd, Nat.reduceSub, Nat.reduceMul, Int.reduceNeg, Int.reduceLE, Int.reduceLT, Int.reduceToNat, Int.reduceAdd, Int.reduceSub, Int.reduceMul, Int.reduceEq]
          (repeat (refine And.intro (by first | omega | decide) ?_))
          refine loopK_normal (k + 1) [0] ⟨by omega, by rw [labTo_succ, hl, hc]; rfl⟩ (by omega) ?_
          simp only [push_cast, ↓Int.toNat_natCast, ↓Int.cast_ofNat_Int, Int.cast_ofNat_Int, ↓reduceIte, reduceCtorEq, Nat.reduceEqDiff, Nat.reduceLT, Nat.reduceLeDiff, Nat.reduceAdd, Nat.reduceSub, Nat.reduceMul, Int.reduceNeg, Int.reduceLE, Int.reduceLT, Int.reduceToNat, Int.reduceAdd, Int.reduceSub, Int.reduceMul, Int.reduceEq]
      · have h : k = s.size := by omega
        subst h
        have he : labOk s = true := by unfold labOk; rw [hl, decide_eq_true (by omega)]; rfl
        simp only [he, undef, push_cast, ↓Int.toNat_natCast, ↓Int.cast_ofNat_Int, Int.cast_ofNat_Int, ↓reduceIte, reduceCtorEq, Nat.reduceEqDiff, Nat.reduceLT, Nat.reduceLeDiff, Nat.reduceAdd, Nat.reduceSub, Nat.reduceMul, Int.reduceNeg, Int.reduceLE, Int.reduceLT, Int.reduceToNat, Int.reduceAdd, Int.reduceSub, Int.reduceMul, Int.reduceEq]
end Go.Proofs.YtkchdhkpjnnliaaDoor
