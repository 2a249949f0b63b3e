import Derived.Lib.FieldsP
import Derived.Lib.Split
import Derived.Lib.ParseIntB
import Derived.Lib.CountLaws
import Derived.RowKit
/- The plain law of layer 40: words of a text's lines; commands. No program in sight. -/
namespace Go.Proofs.YtiaeollemmkclaaDoor
open Go.Lib
set_option linter.unusedSimpArgs false
set_option linter.unusedVariables false
/-! ### Fields -/
def blankR (r : Nat) : Bool := r == 32 || (r == 9 || r == 13)
theorem decode_ascii {s : ByteArray} {i : Nat} (h : (s.get! i).toNat < 128) : Utf8.decode s i = ((s.get! i).toNat, 1) := by
  unfold Utf8.decode
  simp only [Nat.add_zero]
  rw [if_pos (by simpa using h)]
/-- A blank rune is a byte. -/
theorem decode_blank {s : ByteArray} {i : Nat} (h : blankR (Utf8.decode s i).1 = true) : (Utf8.decode s i).2 = 1 := by
  have hb : (Utf8.decode s i).1 < 128 := by
    unfold blankR at h
    simp only [Bool.or_eq_true, beq_iff_eq] at h
    omega
  revert hb
  unfold Utf8.decode Utf8.runeError
  dsimp only
  repeat' split
  all_goals first | (intro _; rfl) | (intro hb; exfalso; simp only at hb; omega) | (rename_i h; intro hb; exfalso; simp only [Bool.and_eq_true, decide_eq_true_eq, ge_iff_le] at h; simp only at hb; omega)
theorem decode_pos (s : ByteArray) (i : Nat) : 1 ≤ (Utf8.decode s i).2 := by
  unfold Utf8.decode
  dsimp only
  repeat' split
  all_goals (simp only; omega)
/-- How much of the text the spans take, with one more for each. -/
def spanW (l : List (Nat × Nat)) : Nat := (l.map fun x => x.2 - x.1 + 1).sum
theorem spanW_snoc (l : List (Nat × Nat)) (a b : Nat) : spanW (l ++ [(a, b)]) = spanW l + (b - a + 1) := by simp [spanW]
theorem spans_le (s : ByteArray) : ∀ (f pos : Nat) (st : Option Nat) (acc : List (Nat × Nat)), s.size ≤ pos + f → (∀ x ∈ acc, x.1 ≤ x.2 ∧ x.2 ≤ s.size) → (match st with | some a => spanW acc ≤ a ∧ a < s.size ∧ a ≤ pos | none => spanW acc ≤ pos ∧ pos ≤ s.size) →
    (∀ x ∈ closeSpans s (spansFromP blankR s f pos st acc), x.1 ≤ x.2 ∧ x.2 ≤ s.size) ∧ spanW (closeSpans s (spansFromP blankR s f pos st acc)) ≤ s.size + 1
  | 0, pos, st, acc, hf, hb, hi => by
    show (∀ x ∈ closeSpans s (acc, st), _) ∧ _
    cases st with
    | none => exact ⟨hb, by have := hi.1; have := hi.2; show spanW acc ≤ _; omega⟩
    | some a =>
      refine ⟨fun x hx => ?_, ?_⟩
      · rcases List.mem_append.1 hx with hx | hx
        · exact hb x hx
        · rw [List.mem_singleton.1 hx]; exact ⟨by have := hi.2.1; omega, Nat.le_refl _⟩
      · show spanW (acc ++ [(a, s.size)]) ≤ _
        rw [spanW_snoc]
        have := hi.1
        have := hi.2.1
        omega
  | f + 1, pos, st, acc, hf, hb, hi => by
    unfold spansFromP
    by_cases hp : pos < s.size
    · rw [if_pos hp]
      have h1 := decode_pos s pos
      by_cases hbl : blankR (Utf8.decode s pos).1 = true
      · rw [if_pos hbl]
        have h2 := decode_blank hbl
        cases st with
        | none => exact spans_le s f _ none acc (by omega) hb ⟨by have := hi.1; omega, by omega⟩
        | some a =>
          have hi1 := hi.1
          have hi2 := hi.2.2
          refine spans_le s f _ none _ (by omega) (fun x hx => ?_) ⟨by rw [spanW_snoc]; omega, by omega⟩
          rcases List.mem_append.1 hx with hx | hx
          · exact hb x hx
          · rw [List.mem_singleton.1 hx]; exact ⟨hi2, by show pos ≤ s.size; omega⟩
      · rw [if_neg hbl]
        cases st with
        | none => exact spans_le s f _ (some pos) acc (by omega) hb ⟨hi.1, hp, by omega⟩
        | some a => exact spans_le s f _ (some a) acc (by omega) hb ⟨hi.1, hi.2.1, by have := hi.2.2; omega⟩
    · rw [if_neg hp]
      cases st with
      | none => exact ⟨hb, by have := hi.1; have := hi.2; show spanW acc ≤ _; omega⟩
      | some a =>
        refine ⟨fun x hx => ?_, ?_⟩
        · rcases List.mem_append.1 hx with hx | hx
          · exact hb x hx
          · rw [List.mem_singleton.1 hx]; exact ⟨by have := hi.2.1; omega, Nat.le_refl _⟩
        · show spanW (acc ++ [(a, s.size)]) ≤ _
          rw [spanW_snoc]
          have := hi.1
          have := hi.2.1
          omega
/-- How long words are, with one more for each. -/
def wordsW (l : List ByteArray) : Nat := (l.map fun x => x.size + 1).sum
theorem fields_le (s : ByteArray) : wordsW (goFieldsP blankR s) ≤ s.size + 1 := by
  obtain ⟨h1, h2⟩ := spans_le s s.size 0 none [] (by omega) (fun x hx => by cases hx) ⟨Nat.le_refl _, Nat.zero_le _⟩
  refine Nat.le_trans (Nat.le_of_eq ?_) h2
  unfold goFieldsP wordsW spanW spansOfP
  rw [List.map_map]
  congr 1
  refine List.map_congr_left fun x hx => ?_
  have := h1 x hx
  show (s.extract x.1 x.2).size + 1 = _
  rw [ByteArray.size_extract]
  omega
/-! ### Fields of a line that was printed -/
def goodB (c : UInt8) : Prop := c.toNat < 128 ∧ blankR c.toNat = false
def lineL : List (List UInt8) → List UInt8
  | [] => []
  | w :: r => w ++ r.flatMap fun x => 32 :: x
theorem get_drop {s : ByteArray} {pos : Nat} {c : UInt8} {t : List UInt8} (h : s.data.toList.drop pos = c :: t) : s.get! pos = c ∧ pos < s.size ∧ s.data.toList.drop (pos + 1) = t := by
  have h1 : s.data.toList[pos]? = some c := by rw [← List.head?_drop, h]; rfl
  have h2 : pos < s.data.toList.length := (List.getElem?_eq_some_iff.1 h1).1
  have h3 : s.size = s.data.toList.length := Array.length_toList.symm
  refine ⟨?_, by omega, ?_⟩
  · show s.data[pos]! = c
    rw [Array.getElem!_eq_getD, Array.getD_eq_getD_getElem?, ← Array.getElem?_toList, h1]
    rfl
  · rw [← List.drop_drop, h]
    rfl
theorem size_data (s : ByteArray) : s.size = s.data.toList.length := Array.length_toList.symm
theorem end_drop {s : ByteArray} {pos : Nat} (h : s.data.toList.drop pos = []) : ¬ pos < s.size := by
  rw [List.drop_eq_nil_iff] at h
  rw [size_data]
  omega
theorem spans_run {s : ByteArray} : ∀ (w : List UInt8) (t : List UInt8) (f pos a : Nat) (acc : List (Nat × Nat)), s.data.toList.drop pos = w ++ t → (∀ c ∈ w, goodB c) → spansFromP blankR s (f + w.length) pos (some a) acc = spansFromP blankR s f (pos + w.length) (some a) acc
  | [], t, f, pos, a, acc, _, _ => rfl
  | c :: w, t, f, pos, a, acc, h, hg => by
    obtain ⟨h1, h2, h3⟩ := get_drop (c := c) (t := w ++ t) h
    have hc := hg c (List.mem_cons_self ..)
    have hd : Utf8.decode s pos = (c.toNat, 1) := by
      have := decode_ascii (s := s) (i := pos) (by rw [h1]; exact hc.1)
      rw [this, h1]
    rw [List.length_cons, ← Nat.add_assoc, spansFromP, if_pos h2, hd, if_neg (by rw [hc.2]; decide)]
    show spansFromP blankR s (f + w.length) (pos + 1) (some a) acc = _
    rw [spans_run w t f (pos + 1) a acc h3 fun c hc => hg c (List.mem_cons_of_mem _ hc), Nat.add_assoc, Nat.add_comm 1]
def spansPos : Nat → List (List UInt8) → List (Nat × Nat)
  | _, [] => []
  | p, w :: r => (p, p + w.length) :: spansPos (p + w.length + 1) r
theorem spans_line {s : ByteArray} : ∀ (ws : List (List UInt8)) (f pos : Nat) (acc : List (Nat × Nat)), s.data.toList.drop pos = lineL ws → (lineL ws).length ≤ f → (∀ w ∈ ws, w ≠ [] ∧ ∀ c ∈ w, goodB c) → closeSpans s (spansFromP blankR s f pos none acc) = acc ++ spansPos pos ws
  | [], f, pos, acc, h, hf, hg => by
    rw [spansFromP_end _ _ _ _ _ _ (end_drop h)]
    simp [closeSpans, spansPos]
  | [] :: r, f, pos, acc, h, hf, hg => absurd rfl (hg [] (List.mem_cons_self ..)).1
  | (c :: w) :: r, f, pos, acc, h, hf, hg => by
    have hw := hg (c :: w) (List.mem_cons_self ..)
    have hc := hw.2 c (List.mem_cons_self ..)
    obtain ⟨h1, h2, h3⟩ := get_drop (c := c) (t := w ++ r.flatMap fun x => 32 :: x) h
    have hd : Utf8.decode s pos = (c.toNat, 1) := by
      have := decode_ascii (s := s) (i := pos) (by rw [h1]; exact hc.1)
      rw [this, h1]
    have hl : (lineL ((c :: w) :: r)).length = w.length + 1 + (r.flatMap fun x => 32 :: x).length := by
      show ((c :: w) ++ _).length = _
      rw [List.length_append, List.length_cons]
    obtain ⟨f2, rfl⟩ : ∃ f2, f = (f2 + w.length) + 1 := ⟨f - 1 - w.length, by omega⟩
    rw [spansFromP, if_pos h2, hd, if_neg (by rw [hc.2]; decide)]
    show closeSpans s (spansFromP blankR s (f2 + w.length) (pos + 1) (some pos) acc) = _
    rw [spans_run w _ f2 (pos + 1) pos acc h3 fun x hx => hw.2 x (List.mem_cons_of_mem _ hx)]
    have h4 : s.data.toList.drop (pos + 1 + w.length) = r.flatMap fun x => 32 :: x := by
      rw [← List.drop_drop, h3, List.drop_left]
    have ep : pos + 1 + w.length = pos + (c :: w).length := by rw [List.length_cons]; omega
    cases r with
    | nil =>
      have he := end_drop h4
      rw [spansFromP_end _ _ _ _ _ _ he]
      have hsz : s.size = pos + (c :: w).length := by
        have h5 : (s.data.toList.drop pos).length = (c :: w).length := by rw [h]; show ((c :: w) ++ []).length = _; rw [List.append_nil]
        rw [List.length_drop, ← size_data] at h5
        rw [List.length_cons] at h5 ⊢
        omega
      show acc ++ [(pos, s.size)] = acc ++ [(pos, pos + (c :: w).length)]
      rw [hsz]
    | cons v r =>
      have h5 : s.data.toList.drop (pos + 1 + w.length) = 32 :: (v ++ r.flatMap fun x => 32 :: x) := h4
      obtain ⟨g1, g2, g3⟩ := get_drop h5
      have hd2 : Utf8.decode s (pos + 1 + w.length) = (32, 1) := by
        have := decode_ascii (s := s) (i := pos + 1 + w.length) (by rw [g1]; decide)
        rw [this, g1]
        rfl
      have hl2 : ((v :: r).flatMap fun x => 32 :: x).length = (lineL (v :: r)).length + 1 := by
        show (32 :: (v ++ _)).length = _
        rw [List.length_cons]
        rfl
      obtain ⟨f3, rfl⟩ : ∃ f3, f2 = f3 + 1 := ⟨f2 - 1, by omega⟩
      rw [spansFromP, if_pos g2, hd2, if_pos (by decide)]
      show closeSpans s (spansFromP blankR s f3 (pos + 1 + w.length + 1) none (acc ++ [(pos, pos + 1 + w.length)])) = _
      rw [spans_line (v :: r) f3 _ _ g3 (by omega) fun x hx => hg x (List.mem_cons_of_mem _ hx), List.append_assoc, ep]
      rfl
def sb (l : List UInt8) : ByteArray := ⟨l.toArray⟩
theorem sb_data (l : List UInt8) : (sb l).data.toList = l := by simp [sb]
theorem sb_of (s : ByteArray) : sb s.data.toList = s := by simp [sb]
theorem sb_size (l : List UInt8) : (sb l).size = l.length := by rw [size_data, sb_data]
theorem extract_drop {s : ByteArray} {pos : Nat} {w t : List UInt8} (h : s.data.toList.drop pos = w ++ t) : s.extract pos (pos + w.length) = sb w := by
  rw [← sb_of (s.extract pos (pos + w.length))]
  congr 1
  rw [ByteArray.data_extract, Array.toList_extract, List.extract_eq_take_drop, h, Nat.add_sub_cancel_left, List.take_left]
theorem pieces_line {s : ByteArray} : ∀ (ws : List (List UInt8)) (pos : Nat), s.data.toList.drop pos = lineL ws → (spansPos pos ws).map (fun x => s.extract x.1 x.2) = ws.map sb
  | [], _, _ => rfl
  | w :: r, pos, h => by
    have h1 : s.data.toList.drop pos = w ++ r.flatMap fun x => 32 :: x := h
    rw [spansPos, List.map_cons, List.map_cons, extract_drop h1]
    congr 1
    cases r with
    | nil => rfl
    | cons v r =>
      refine pieces_line (v :: r) _ ?_
      rw [← List.drop_drop, ← List.drop_drop, h1, List.drop_left]
      rfl
theorem fields_line {ws : List (List UInt8)} (hg : ∀ w ∈ ws, w ≠ [] ∧ ∀ c ∈ w, goodB c) : goFieldsP blankR (sb (lineL ws)) = ws.map sb := by
  unfold goFieldsP spansOfP
  rw [spans_line ws (sb (lineL ws)).size 0 [] (by rw [sb_data]; rfl) (by rw [sb_size]; exact Nat.le_refl _) hg, List.nil_append]
  exact pieces_line ws 0 (by rw [sb_data]; rfl)
theorem spans_blank {s : ByteArray} : ∀ (t : List UInt8) (f pos : Nat), s.data.toList.drop pos = t → (∀ c ∈ t, c.toNat < 128 ∧ blankR c.toNat = true) → spansFromP blankR s f pos none [] = ([], none)
  | [], f, pos, h, _ => spansFromP_end _ _ _ _ _ _ (end_drop h)
  | c :: t, 0, pos, h, _ => rfl
  | c :: t, f + 1, pos, h, hg => by
    obtain ⟨h1, h2, h3⟩ := get_drop h
    have hc := hg c (List.mem_cons_self ..)
    have hd : Utf8.decode s pos = (c.toNat, 1) := by
      have := decode_ascii (s := s) (i := pos) (by rw [h1]; exact hc.1)
      rw [this, h1]
    rw [spansFromP, if_pos h2, hd, if_pos hc.2]
    exact spans_blank t f (pos + 1) h3 fun x hx => hg x (List.mem_cons_of_mem _ hx)
theorem fields_blank {l : List UInt8} (hg : ∀ c ∈ l, c.toNat < 128 ∧ blankR c.toNat = true) : goFieldsP blankR (sb l) = [] := by
  unfold goFieldsP spansOfP
  rw [spans_blank l (sb l).size 0 (by rw [sb_data]; rfl) hg]
  rfl
/-! ### Lines, and what stands ahead of a note -/
theorem index_no {c : UInt8} : ∀ {l : List UInt8}, c ∉ l → index l [c] = -1
  | [], _ => rfl
  | b :: l, h => by
    have hb : c ≠ b := fun e => h (by rw [e]; exact List.mem_cons_self ..)
    unfold index
    rw [if_neg (by simp [List.isPrefixOf, hb]), index_no fun e => h (List.mem_cons_of_mem _ e)]
    rfl
theorem index_at {c : UInt8} {t : List UInt8} : ∀ {a : List UInt8}, c ∉ a → index (a ++ c :: t) [c] = a.length
  | [], _ => by unfold index; simp [List.isPrefixOf]
  | b :: a, h => by
    have hb : c ≠ b := fun e => h (by rw [e]; exact List.mem_cons_self ..)
    have ih := index_at (t := t) (a := a) fun e => h (List.mem_cons_of_mem _ e)
    show index (b :: (a ++ c :: t)) [c] = _
    unfold index
    rw [if_neg (by simp [List.isPrefixOf, hb]), ih, if_neg (by simp), List.length_cons]
    omega
theorem cut_no {c : UInt8} {l : List UInt8} (h : c ∉ l) : (cut l [c]).1 = l := by
  unfold cut
  rw [index_no h, if_neg (by decide)]
theorem cut_at {c : UInt8} {a t : List UInt8} (h : c ∉ a) : (cut (a ++ c :: t) [c]).1 = a := by
  unfold cut
  rw [index_at h, if_pos (by omega)]
  show (a ++ c :: t).take (a.length : Int).toNat = a
  rw [Int.toNat_natCast, List.take_left]
theorem cut_le (l s : List UInt8) : (cut l s).1.length ≤ l.length := by
  unfold cut
  split
  · show (l.take _).length ≤ l.length
    rw [List.length_take]
    omega
  · exact Nat.le_refl _
def nlB : ByteArray := ⟨#[10]⟩
/-- A text's lines. -/
def linesOf (s : ByteArray) : List ByteArray := splitB nlB 0 (countB s nlB) s
theorem linesOf_no {l : List UInt8} (h : (10 : UInt8) ∉ l) : linesOf (sb l) = [sb l] := by
  have hi : indexB (sb l) nlB = -1 := by
    show index (sb l).data.toList [10] = -1
    rw [sb_data]
    exact index_no h
  unfold linesOf
  rw [countB_miss _ _ hi, splitB_zero]
theorem linesOf_at {a t : List UInt8} (h : (10 : UInt8) ∉ a) : linesOf (sb (a ++ 10 :: t)) = sb a :: linesOf (sb t) := by
  have hi : indexB (sb (a ++ 10 :: t)) nlB = (a.length : Nat) := by
    show index (sb (a ++ 10 :: t)).data.toList [10] = _
    rw [sb_data]
    exact index_at h
  have e1 : (sb (a ++ 10 :: t)).extract (a.length + nlB.size) (sb (a ++ 10 :: t)).size = sb t := by
    rw [← sb_of ((sb (a ++ 10 :: t)).extract (a.length + nlB.size) (sb (a ++ 10 :: t)).size), extract_to_end, sb_data]
    congr 1
    show (a ++ 10 :: t).drop (a.length + 1) = t
    rw [List.drop_append, List.drop_of_length_le (by omega), List.nil_append, Nat.add_sub_cancel_left]
    rfl
  have e2 : (sb (a ++ 10 :: t)).extract 0 (a.length + 0) = sb a := by
    have := extract_drop (s := sb (a ++ 10 :: t)) (pos := 0) (w := a) (t := 10 :: t) (by rw [sb_data]; rfl)
    rw [Nat.zero_add] at this
    exact this
  unfold linesOf
  rw [countB_hit _ _ _ (by decide) hi, Nat.add_comm 1, splitB_hit _ _ _ _ _ hi, e1, e2]
theorem split_le : ∀ (k : Nat) (s : ByteArray), ((splitB nlB 0 k s).map fun x => x.size + 1).sum ≤ s.size + 1
  | 0, s => by rw [splitB_zero]; simp
  | k + 1, s => by
    rcases index_spec s.data.toList nlB.data.toList with ⟨h, _⟩ | ⟨i, h, h2, h3, _⟩
    · rw [splitB_miss _ _ _ _ h]; simp
    · have hr := index_room s.data.toList nlB.data.toList (by rw [h]; omega)
      rw [h] at hr
      have hr : i + 1 ≤ s.size := by
        have : (i : Int) + 1 ≤ s.data.toList.length := hr
        rw [size_data]
        omega
      rw [splitB_hit _ _ _ _ _ h, List.map_cons, List.sum_cons]
      have ih := split_le k (s.extract (i + nlB.size) s.size)
      have e : (s.extract (i + nlB.size) s.size).size = s.size - (i + 1) := by
        rw [ByteArray.size_extract]
        show min s.size s.size - (i + 1) = _
        omega
      rw [e] at ih
      rw [ByteArray.size_extract]
      omega
/-- The words of a line. -/
def wordsOf (l : ByteArray) : List ByteArray := goFieldsP blankR (sb (cut l.data.toList [35]).1)
theorem wordsOf_le (l : ByteArray) : wordsW (wordsOf l) ≤ l.size + 1 := by
  refine Nat.le_trans (fields_le _) ?_
  rw [sb_size, size_data]
  have := cut_le l.data.toList [35]
  omega
/-- Lines with words, with their numbers. -/
def wordsGo : Nat → List ByteArray → List (Nat × List ByteArray)
  | _, [] => []
  | i, l :: r => if wordsOf l = [] then wordsGo (i + 1) r else (i + 1, wordsOf l) :: wordsGo (i + 1) r
def wordsF (s : ByteArray) : List (Nat × List ByteArray) := wordsGo 0 (linesOf s)
def textW (l : List (List ByteArray)) : Nat := (l.map wordsW).sum
theorem wordsGo_le : ∀ (ls : List ByteArray) (i : Nat), textW ((wordsGo i ls).map (·.2)) ≤ (ls.map fun x => x.size + 1).sum
  | [], _ => by simp [wordsGo, textW]
  | l :: r, i => by
    have ih := wordsGo_le r (i + 1)
    have hw := wordsOf_le l
    rw [wordsGo, List.map_cons, List.sum_cons]
    split
    · omega
    · show wordsW (wordsOf l) + textW ((wordsGo (i + 1) r).map (·.2)) ≤ _
      omega
theorem wordsF_le (s : ByteArray) : textW ((wordsF s).map (·.2)) ≤ s.size + 1 := Nat.le_trans (wordsGo_le _ _) (split_le _ _)
theorem wordsGo_ne : ∀ (ls : List ByteArray) (i : Nat), ∀ x ∈ wordsGo i ls, x.2 ≠ [] ∧ 1 ≤ x.1
  | [], _, x, h => by cases h
  | l :: r, i, x, h => by
    rw [wordsGo] at h
    split at h
    · exact wordsGo_ne r _ x h
    · rename_i hne
      rcases List.mem_cons.1 h with rfl | h
      · exact ⟨hne, Nat.le_add_left ..⟩
      · exact wordsGo_ne r _ x h
/-! ### Commands -/
structure CmS where
  word : ByteArray
  args : List ByteArray
deriving DecidableEq
instance : Inhabited CmS := ⟨⟨ByteArray.empty, []⟩⟩
def CmS.ws (c : CmS) : List ByteArray := c.word :: c.args
def digF (c : UInt8) : Bool := decide (48 ≤ c.toNat ∧ c.toNat ≤ 57)
def intF (s : List UInt8) : Option Nat :=
  if s = [] ∨ (1 < s.length ∧ s.head? = some 48) then none else if s.all digF = false then none else
  match parseUintB 64 s with
  | .ok u => if u ≤ 4611686018427387904 then some u else none
  | _ => none
def digitF (c : UInt8) : Int := if 48 ≤ c.toNat ∧ c.toNat ≤ 57 then (c.toNat : Int) - 48 else if 97 ≤ c.toNat ∧ c.toNat ≤ 102 then (c.toNat : Int) - 97 + 10 else -1
def hexF : List UInt8 → Option (List UInt8)
  | a :: b :: r => if digitF a < 0 ∨ digitF b < 0 then none else (hexF r).map fun l => UInt8.ofInt (16 * digitF a + digitF b) :: l
  | _ => some []
def bytesF (s : List UInt8) : Option (List UInt8) :=
  if s = [45] then some [] else if s = [] ∨ s.length % 2 ≠ 0 ∨ 4096 < s.length then none else hexF s
def wStart : List ByteArray := [⟨#[115, 116, 97, 114, 116]⟩, ⟨#[116, 101, 120, 116]⟩, ⟨#[115, 117, 109]⟩, ⟨#[99, 104, 101, 99, 107]⟩]
def wDim : List ByteArray := [⟨#[100, 105, 109]⟩, ⟨#[108, 101, 97, 115, 116]⟩, ⟨#[116, 101, 114, 109]⟩, ⟨#[114, 111, 111, 116]⟩, ⟨#[115, 101, 101, 100]⟩, ⟨#[100, 101, 108, 105, 118, 101, 114]⟩, ⟨#[108, 111, 115, 101]⟩, ⟨#[100, 111, 117, 98, 108, 101]⟩, ⟨#[116, 105, 99, 107]⟩, ⟨#[99, 114, 97, 115, 104]⟩, ⟨#[115, 119, 101, 101, 112]⟩]
def wPlace : List ByteArray := [⟨#[112, 108, 97, 99, 101]⟩, ⟨#[111, 117, 116]⟩]
def inW (w : ByteArray) (l : List ByteArray) : Bool := l.any fun x => decide (w = x)
theorem inW_mem {w : ByteArray} {l : List ByteArray} (h : inW w l = true) : w ∈ l := by
  obtain ⟨x, hx, he⟩ := List.any_eq_true.1 h
  rw [of_decide_eq_true he]
  exact hx
def formF (w : ByteArray) : Option (List UInt8) :=
  if inW w wStart = true then some [] else if inW w wDim = true then some [105] else if inW w wPlace = true then some [105, 105, 105] else if w = ⟨#[103, 114, 111, 117, 112]⟩ then some [105, 105, 42]
  else if w = ⟨#[114, 111, 119]⟩ then some [105, 42] else if w = ⟨#[105, 110, 106, 101, 99, 116]⟩ then some [105, 120] else if w = ⟨#[101, 110, 111, 117, 103, 104]⟩ then some [42] else none
def intOk (w : ByteArray) : Bool := (intF w.data.toList).isSome
def bytesOk (w : ByteArray) : Bool := (bytesF w.data.toList).isSome
def cmGo : List UInt8 → List ByteArray → Bool
  | [], rest => rest.isEmpty
  | c :: f, rest => if c = 42 then decide (rest.length ≤ 64) && (rest.all intOk && cmGo f []) else
    match rest with
    | [] => false
    | s :: r => (if c = 120 then bytesOk s else intOk s) && cmGo f r
def chkCm (c : CmS) : Bool := match formF c.word with | none => false | some f => cmGo f c.args
/-! ### What words of commands are -/
def plainB (c : UInt8) : Bool := decide (c.toNat < 128) && (!blankR c.toNat && (c != 10 && c != 35))
def goodW (w : ByteArray) : Prop := w.data.toList ≠ [] ∧ ∀ c ∈ w.data.toList, plainB c = true
theorem plain_of {c : UInt8} (h : 36 ≤ c.toNat ∧ c.toNat < 128) : plainB c = true := by
  have h1 : c ≠ 10 := fun e => by rw [e] at h; have := h.1; revert this; decide
  have h2 : c ≠ 35 := fun e => by rw [e] at h; have := h.1; revert this; decide
  unfold plainB blankR
  simp [h1, h2]
  omega
theorem int_good {w : ByteArray} (h : intOk w = true) : goodW w := by
  unfold intOk intF at h
  by_cases h1 : w.data.toList = [] ∨ (1 < w.data.toList.length ∧ w.data.toList.head? = some 48)
  · rw [if_pos h1] at h; cases h
  rw [if_neg h1] at h
  by_cases h2 : w.data.toList.all digF = false
  · rw [if_pos h2] at h; cases h
  refine ⟨fun e => h1 (.inl e), fun c hc => plain_of ?_⟩
  have h3 : w.data.toList.all digF = true := by simpa using h2
  have := List.all_eq_true.1 h3 c hc
  unfold digF at this
  have := of_decide_eq_true this
  omega
theorem hex_good : ∀ {l : List UInt8}, l.length % 2 = 0 → (hexF l).isSome = true → ∀ c ∈ l, plainB c = true
  | [], _, _, c, hc => by cases hc
  | [a], h, _, _, _ => by simp at h
  | a :: b :: r, h, hs, c, hc => by
    rw [hexF] at hs
    have dig : ∀ x : UInt8, ¬ digitF x < 0 → plainB x = true := fun x hx => by
      refine plain_of ?_
      unfold digitF at hx
      by_cases h1 : 48 ≤ x.toNat ∧ x.toNat ≤ 57
      · omega
      · rw [if_neg h1] at hx
        by_cases h2 : 97 ≤ x.toNat ∧ x.toNat ≤ 102
        · omega
        · rw [if_neg h2] at hx; exact absurd (by decide) hx
    by_cases hd : digitF a < 0 ∨ digitF b < 0
    · rw [if_pos hd] at hs; cases hs
    rw [if_neg hd, Option.isSome_map] at hs
    have hl : r.length % 2 = 0 := by
      simp only [List.length_cons] at h
      omega
    rcases List.mem_cons.1 hc with rfl | hc
    · exact dig _ fun e => hd (.inl e)
    · rcases List.mem_cons.1 hc with rfl | hc
      · exact dig _ fun e => hd (.inr e)
      · exact hex_good hl hs c hc
theorem bytes_good {w : ByteArray} (h : bytesOk w = true) : goodW w := by
  unfold bytesOk bytesF at h
  by_cases h1 : w.data.toList = [45]
  · unfold goodW
    rw [h1]
    exact ⟨by simp, by decide⟩
  rw [if_neg h1] at h
  by_cases h2 : w.data.toList = [] ∨ w.data.toList.length % 2 ≠ 0 ∨ 4096 < w.data.toList.length
  · rw [if_pos h2] at h; cases h
  rw [if_neg h2] at h
  exact ⟨fun e => h2 (.inl e), hex_good (by omega) h⟩
theorem form_good {w : ByteArray} {f : List UInt8} (h : formF w = some f) : goodW w := by
  have k : ∀ l : List ByteArray, (l.all fun w => !w.data.toList.isEmpty && w.data.toList.all plainB) = true → w ∈ l → goodW w := fun l hl hw => by
    have := List.all_eq_true.1 hl w hw
    simp only [Bool.and_eq_true, Bool.not_eq_true', List.all_eq_true] at this
    exact ⟨fun e => by rw [e] at this; exact absurd this.1 (by simp), this.2⟩
  unfold formF at h
  by_cases h1 : inW w wStart = true
  · exact k _ (by decide) (inW_mem h1)
  rw [if_neg h1] at h
  by_cases h2 : inW w wDim = true
  · exact k _ (by decide) (inW_mem h2)
  rw [if_neg h2] at h
  by_cases h3 : inW w wPlace = true
  · exact k _ (by decide) (inW_mem h3)
  rw [if_neg h3] at h
  by_cases h4 : w = ⟨#[103, 114, 111, 117, 112]⟩
  · exact k [⟨#[103, 114, 111, 117, 112]⟩] (by decide) (by rw [h4]; exact List.mem_singleton.2 rfl)
  rw [if_neg h4] at h
  by_cases h5 : w = ⟨#[114, 111, 119]⟩
  · exact k [⟨#[114, 111, 119]⟩] (by decide) (by rw [h5]; exact List.mem_singleton.2 rfl)
  rw [if_neg h5] at h
  by_cases h6 : w = ⟨#[105, 110, 106, 101, 99, 116]⟩
  · exact k [⟨#[105, 110, 106, 101, 99, 116]⟩] (by decide) (by rw [h6]; exact List.mem_singleton.2 rfl)
  rw [if_neg h6] at h
  by_cases h7 : w = ⟨#[101, 110, 111, 117, 103, 104]⟩
  · exact k [⟨#[101, 110, 111, 117, 103, 104]⟩] (by decide) (by rw [h7]; exact List.mem_singleton.2 rfl)
  rw [if_neg h7] at h
  cases h
theorem cmGo_good : ∀ (f : List UInt8) (rest : List ByteArray), cmGo f rest = true → ∀ w ∈ rest, goodW w
  | [], rest, h, w, hw => by
    rw [cmGo, List.isEmpty_iff] at h
    rw [h] at hw
    cases hw
  | c :: f, rest, h, w, hw => by
    rw [cmGo.eq_def] at h
    dsimp only at h
    by_cases hc : c = 42
    · rw [if_pos hc] at h
      simp only [Bool.and_eq_true] at h
      exact int_good (List.all_eq_true.1 h.2.1 w hw)
    · rw [if_neg hc] at h
      cases rest with
      | nil => cases hw
      | cons s r =>
        dsimp only at h
        rw [Bool.and_eq_true] at h
        rcases List.mem_cons.1 hw with rfl | hw
        · by_cases hx : c = 120
          · rw [if_pos hx] at h; exact bytes_good h.1
          · rw [if_neg hx] at h; exact int_good h.1
        · exact cmGo_good f r h.2 w hw
theorem cm_good {c : CmS} (h : chkCm c = true) : ∀ w ∈ c.ws, goodW w := fun w hw => by
  unfold chkCm at h
  cases hf : formF c.word with
  | none => rw [hf] at h; cases h
  | some f =>
    rw [hf] at h
    rcases List.mem_cons.1 hw with rfl | hw
    · exact form_good hf
    · exact cmGo_good f _ h w hw
/-! ### Printed, and read -/
def bytesOfL (l : List ByteArray) : List (List UInt8) := l.map fun w => w.data.toList
def printL (c : CmS) : List UInt8 := lineL (bytesOfL c.ws) ++ [10]
def printT (l : List CmS) : List UInt8 := l.flatMap printL
def printE (l : List CmS) : Int := if 1000 < l.length then 337 else if l.all chkCm = false then 337 else if 65536 < (printT l).length then 5 else 0
def cmOf (w : List ByteArray) : CmS := ⟨w.headD ByteArray.empty, w.tail⟩
def parseGo : Nat → List (Nat × List ByteArray) → Option Nat
  | _, [] => none
  | i, x :: r => if 1000 ≤ i ∨ chkCm (cmOf x.2) = false then some x.1 else parseGo (i + 1) r
/-- The commands of a text; or the wrong line, and the error's number. -/
def parseF (s : ByteArray) : List CmS × Int × Int :=
  if 65536 < s.size then ([], 0, 5) else match parseGo 0 (wordsF s) with
  | some a => ([], a, 337)
  | none => ((wordsF s).map fun x => cmOf x.2, 0, 0)
theorem line_len (ws : List (List UInt8)) (h : ws ≠ []) : (lineL ws).length + 1 = (ws.map fun w => w.length + 1).sum := by
  cases ws with
  | nil => exact absurd rfl h
  | cons w r =>
    show (w ++ _).length + 1 = _
    rw [List.length_append, List.length_flatMap, List.map_cons, List.sum_cons]
    simp only [List.length_cons]
    omega
theorem printL_len (c : CmS) : (printL c).length = wordsW c.ws := by
  unfold printL wordsW bytesOfL
  rw [List.length_append]
  show (lineL _).length + 1 = _
  rw [line_len _ (by simp [CmS.ws]), List.map_map]
  rfl
theorem printT_len (l : List CmS) : (printT l).length = textW (l.map CmS.ws) := by
  unfold printT textW
  rw [List.length_flatMap, List.map_map]
  congr 1
  exact List.map_congr_left fun c _ => printL_len c
theorem plain_not {c : UInt8} (h : plainB c = true) : goodB c ∧ c ≠ 10 ∧ c ≠ 35 := by
  unfold plainB at h
  simp only [Bool.and_eq_true, decide_eq_true_eq, Bool.not_eq_true', bne_iff_ne, ne_eq] at h
  exact ⟨⟨h.1, h.2.1⟩, h.2.2.1, h.2.2.2⟩
theorem lineL_mem {ws : List (List UInt8)} {x : UInt8} (h : x ∈ lineL ws) : x = 32 ∨ ∃ w ∈ ws, x ∈ w := by
  cases ws with
  | nil => cases h
  | cons w r =>
    rcases List.mem_append.1 h with h | h
    · exact .inr ⟨w, List.mem_cons_self .., h⟩
    · obtain ⟨v, hv, hx⟩ := List.mem_flatMap.1 h
      rcases List.mem_cons.1 hx with rfl | hx
      · exact .inl rfl
      · exact .inr ⟨v, List.mem_cons_of_mem _ hv, hx⟩
theorem ws_line {c : CmS} (h : chkCm c = true) : (10 : UInt8) ∉ lineL (bytesOfL c.ws) ∧ wordsOf (sb (lineL (bytesOfL c.ws))) = c.ws := by
  have hg := cm_good h
  have hno : ∀ x ∈ lineL (bytesOfL c.ws), x ≠ 10 ∧ x ≠ 35 := fun x hx => by
    rcases lineL_mem hx with rfl | ⟨w, hw, hx⟩
    · decide
    · obtain ⟨v, hv, rfl⟩ := List.mem_map.1 hw
      exact (plain_not ((hg v hv).2 x hx)).2
  refine ⟨fun e => (hno _ e).1 rfl, ?_⟩
  unfold wordsOf
  rw [sb_data, cut_no fun e => (hno _ e).2 rfl, fields_line fun w hw => by
    obtain ⟨v, hv, rfl⟩ := List.mem_map.1 hw
    exact ⟨(hg v hv).1, fun x hx => (plain_not ((hg v hv).2 x hx)).1⟩]
  unfold bytesOfL
  rw [List.map_map]
  exact (List.map_congr_left fun w _ => sb_of w).trans (List.map_id _)
theorem lines_text : ∀ (l : List CmS) (post : List UInt8), (∀ c ∈ l, chkCm c = true) → linesOf (sb (printT l ++ post)) = l.map (fun c => sb (lineL (bytesOfL c.ws))) ++ linesOf (sb post)
  | [], post, _ => rfl
  | c :: l, post, h => by
    have hc := ws_line (h c (List.mem_cons_self ..))
    have e : printT (c :: l) ++ post = lineL (bytesOfL c.ws) ++ 10 :: (printT l ++ post) := by
      unfold printT printL
      rw [List.flatMap_cons]
      simp
    rw [e, linesOf_at hc.1, lines_text l post fun c hc => h c (List.mem_cons_of_mem _ hc)]
    rfl
theorem wordsGo_two : ∀ (ls : List ByteArray) (i : Nat), (wordsGo i ls).map (·.2) = (ls.map wordsOf).filter fun w => !w.isEmpty
  | [], _ => rfl
  | l :: r, i => by
    rw [wordsGo, List.map_cons, List.filter_cons]
    by_cases h : wordsOf l = []
    · rw [if_pos h, h, wordsGo_two r]; rfl
    · rw [if_neg h, List.map_cons, wordsGo_two r, if_pos (by simpa using h)]
theorem parseGo_none : ∀ (l : List (Nat × List ByteArray)) (i : Nat), (∀ x ∈ l, chkCm (cmOf x.2) = true) → i + l.length ≤ 1000 → parseGo i l = none
  | [], _, _, _ => rfl
  | x :: r, i, h, hl => by
    rw [List.length_cons] at hl
    rw [parseGo, if_neg (by rw [h x (List.mem_cons_self ..)]; simp; omega)]
    exact parseGo_none r (i + 1) (fun y hy => h y (List.mem_cons_of_mem _ hy)) (by omega)
theorem parseGo_some : ∀ (l : List (Nat × List ByteArray)) (i : Nat), parseGo i l = none → (∀ x ∈ l, chkCm (cmOf x.2) = true) ∧ (l = [] ∨ i + l.length ≤ 1000)
  | [], _, _ => ⟨fun x hx => (by cases hx), .inl rfl⟩
  | x :: r, i, h => by
    rw [parseGo] at h
    by_cases hc : 1000 ≤ i ∨ chkCm (cmOf x.2) = false
    · rw [if_pos hc] at h; cases h
    · rw [if_neg hc] at h
      obtain ⟨h1, h2⟩ := parseGo_some r (i + 1) h
      refine ⟨fun y hy => ?_, .inr ?_⟩
      · rcases List.mem_cons.1 hy with rfl | hy
        · exact by simpa using fun e => hc (.inr e)
        · exact h1 y hy
      · rw [List.length_cons]
        rcases h2 with rfl | h2
        · have : ¬ 1000 ≤ i := fun e => hc (.inl e)
          show i + (0 + 1) ≤ 1000
          omega
        · omega
theorem parse_words {s : ByteArray} {l : List CmS} (hs : s.size ≤ 65536) (hl : l.length ≤ 1000) (hc : ∀ c ∈ l, chkCm c = true) (h : (wordsF s).map (·.2) = l.map CmS.ws) : parseF s = (l, 0, 0) := by
  have e : (wordsF s).map (fun x => cmOf x.2) = l := by
    have : (wordsF s).map (fun x => cmOf x.2) = ((wordsF s).map (·.2)).map cmOf := by rw [List.map_map]; rfl
    rw [this, h, List.map_map]
    exact (List.map_congr_left fun c _ => rfl).trans (List.map_id _)
  have hlen : (wordsF s).length = l.length := by rw [← List.length_map (f := fun x : Nat × List ByteArray => x.2), h, List.length_map]
  unfold parseF
  rw [if_neg (by omega), parseGo_none (wordsF s) 0 (fun x hx => hc _ (by rw [← e]; exact List.mem_map_of_mem hx)) (by omega), e]
/-- What was printed is read, with notes around it. -/
theorem parse_print {l : List CmS} (hl : l.length ≤ 1000) (hc : ∀ c ∈ l, chkCm c = true) (hs : (printT l).length ≤ 65536) : parseF (sb (printT l)) = (l, 0, 0) := by
  refine parse_words (by rw [sb_size]; exact hs) hl hc ?_
  unfold wordsF
  rw [wordsGo_two, ← List.append_nil (printT l), lines_text l [] hc, List.map_append, List.filter_append, List.map_map]
  have e1 : l.map (wordsOf ∘ fun c => sb (lineL (bytesOfL c.ws))) = l.map CmS.ws := List.map_congr_left fun c h => (ws_line (hc c h)).2
  have e2 : ((linesOf (sb [])).map wordsOf).filter (fun w => !w.isEmpty) = [] := by
    rw [linesOf_no (by simp)]
    have : wordsOf (sb []) = [] := fields_blank (l := []) fun c h => (by cases h)
    rw [List.map_cons, this]
    rfl
  rw [e1, e2, List.append_nil, List.filter_eq_self]
  intro w hw
  obtain ⟨c, _, rfl⟩ := List.mem_map.1 hw
  rfl
theorem parse_noted {l : List CmS} (hl : l.length ≤ 1000) (hc : ∀ c ∈ l, chkCm c = true) (hs : (printT l).length ≤ 60000) : parseF (sb ([35, 32, 120, 10] ++ printT l ++ [32, 9, 35, 32, 121])) = (l, 0, 0) := by
  refine parse_words (by rw [sb_size]; simp only [List.length_append, List.length_cons, List.length_nil]; omega) hl hc ?_
  have e0 : [35, 32, 120, 10] ++ printT l ++ [32, 9, 35, 32, 121] = [35, 32, 120] ++ 10 :: (printT l ++ [32, 9, 35, 32, 121]) := by simp
  unfold wordsF
  rw [wordsGo_two, e0, linesOf_at (by decide), lines_text l _ hc, List.map_cons, List.map_append, List.map_map]
  have e1 : l.map (wordsOf ∘ fun c => sb (lineL (bytesOfL c.ws))) = l.map CmS.ws := List.map_congr_left fun c h => (ws_line (hc c h)).2
  have e2 : ((linesOf (sb [32, 9, 35, 32, 121])).map wordsOf).filter (fun w => !w.isEmpty) = [] := by
    rw [linesOf_no (by decide)]
    have : wordsOf (sb [32, 9, 35, 32, 121]) = [] := by
      unfold wordsOf
      rw [sb_data, show ([32, 9, 35, 32, 121] : List UInt8) = [32, 9] ++ 35 :: [32, 121] from rfl, cut_at (by decide)]
      exact fields_blank (by decide)
    rw [List.map_cons, this]
    rfl
  have e3 : wordsOf (sb [35, 32, 120]) = [] := by
    unfold wordsOf
    rw [sb_data, show ([35, 32, 120] : List UInt8) = [] ++ 35 :: [32, 120] from rfl, cut_at (by decide)]
    exact fields_blank (l := []) fun c h => (by cases h)
  rw [List.filter_cons, e3, if_neg (by decide), List.filter_append, e1, e2, List.append_nil, List.filter_eq_self]
  intro w hw
  obtain ⟨c, _, rfl⟩ := List.mem_map.1 hw
  rfl
/-- What was read can be printed, and is read as it was. -/
theorem parse_back {s : ByteArray} {a : List CmS} {n : Int} (hs : s.size ≤ 6000) (h : parseF s = (a, n, 0)) : a.length ≤ 1000 ∧ (∀ c ∈ a, chkCm c = true) ∧ printE a = 0 ∧ (printT a).length ≤ 65536 ∧ parseF (sb (printT a)) = (a, 0, 0) := by
  unfold parseF at h
  rw [if_neg (by omega)] at h
  cases hg : parseGo 0 (wordsF s) with
  | some x => rw [hg] at h; simp only [Prod.mk.injEq] at h; exact absurd h.2.2 (by decide)
  | none =>
    rw [hg] at h
    simp only [Prod.mk.injEq] at h
    obtain ⟨h1, h2⟩ := parseGo_some _ _ hg
    obtain rfl := h.1
    have hlen : ((wordsF s).map fun x => cmOf x.2).length ≤ 1000 := by
      rw [List.length_map]
      rcases h2 with e | e
      · rw [e]; exact Nat.zero_le _
      · omega
    have hc : ∀ c ∈ (wordsF s).map (fun x => cmOf x.2), chkCm c = true := fun c hc => by
      obtain ⟨x, hx, rfl⟩ := List.mem_map.1 hc
      exact h1 x hx
    have hws : ((wordsF s).map fun x => cmOf x.2).map CmS.ws = (wordsF s).map (·.2) := by
      rw [List.map_map]
      refine List.map_congr_left fun x hx => ?_
      have := (wordsGo_ne _ _ x hx).1
      show (cmOf x.2).ws = x.2
      cases hx2 : x.2 with
      | nil => exact absurd hx2 this
      | cons w r => rfl
    have hpl : (printT ((wordsF s).map fun x => cmOf x.2)).length ≤ 6001 := by
      rw [printT_len, hws]
      have := wordsF_le s
      omega
    refine ⟨hlen, hc, ?_, by omega, parse_print hlen hc (by omega)⟩
    unfold printE
    rw [if_neg (by omega), if_neg (by rw [List.all_eq_true.2 hc]; decide), if_neg (by omega)]
end Go.Proofs.YtiaeollemmkclaaDoor
