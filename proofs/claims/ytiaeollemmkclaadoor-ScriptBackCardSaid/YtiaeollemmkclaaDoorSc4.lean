import Derived.Test.YtiaeollemmkclaaDoorSc3
/- Layer 39 walked: Words. -/
namespace Go.Proofs.YtiaeollemmkclaaDoor
open Go.RowKit
set_option linter.unusedSimpArgs false
set_option linter.unusedVariables false
def rowF (r : SlV ByteArray) : Fct := ⟨r.val, r.l.length, r.l.map Value.string⟩
/-- What Words hands back: the numbers, the lines' words, and the facts on them. -/
structure WdR where
  at_ : SlV Int
  rows : SlV (SlV ByteArray)
  fs : List Fct
structure WdQ (s : ByteArray) (x : WdR) : Prop where
  nums : x.at_.l = (wordsF s).map fun y => (y.1 : Int)
  words : x.rows.l.map (·.l) = (wordsF s).map (·.2)
  fa : (⟨x.at_.val, x.at_.l.length, x.at_.l.map (Value.int .i64)⟩ : Fct) ∈ x.fs
  fr : (⟨x.rows.val, x.rows.l.length, x.rows.l.map SlV.val⟩ : Fct) ∈ x.fs
  each : ∀ r ∈ x.rows.l, rowF r ∈ x.fs
theorem wordsOf_def (l : ByteArray) : Lib.goFieldsP blankR (sb (Lib.cut l.data.toList [35]).1) = wordsOf l := rfl
attribute [local irreducible] Callable CallOK CallG CallM DrawG LoopG symR symM
attribute [local irreducible] wordsOf vC
theorem lines_len (s : ByteArray) : (linesOf s).length ≤ s.size + 1 := by
  have h := split_le (Lib.countB s nlB) s
  have : ∀ l : List ByteArray, l.length ≤ (l.map fun x => x.size + 1).sum := fun l => by
    induction l with
    | nil => exact Nat.le_refl _
    | cons a r ih => rw [List.map_cons, List.sum_cons, List.length_cons]; omega
  exact Nat.le_trans (this _) h
theorem lines_size (s : ByteArray) : ∀ l ∈ linesOf s, l.size ≤ s.size := fun l hl => by
  have h := split_le (Lib.countB s nlB) s
  have : ∀ (L : List ByteArray), l ∈ L → l.size + 1 ≤ (L.map fun x => x.size + 1).sum := fun L => by
    induction L with
    | nil => exact fun h => by cases h
    | cons a r ih =>
      intro h
      rw [List.map_cons, List.sum_cons]
      rcases List.mem_cons.1 h with rfl | h
      · omega
      · have := ih h; omega
  have := this _ hl
  unfold linesOf at *
  omega
theorem wordsW_len (l : List ByteArray) : l.length ≤ wordsW l ∧ ∀ w ∈ l, w.size + 1 ≤ wordsW l := by
  unfold wordsW
  induction l with
  | nil => exact ⟨Nat.le_refl _, fun w h => by cases h⟩
  | cons a r ih =>
    rw [List.map_cons, List.sum_cons, List.length_cons]
    refine ⟨by have := ih.1; omega, fun w h => ?_⟩
    rcases List.mem_cons.1 h with rfl | h
    · omega
    · have := ih.2 w h; omega
set_option maxRecDepth 100000 in
theorem blank_any (r : Nat) (w : World) (hr : r ≤ 1114111) : Calls Tryd.prog 141 #[.int .i32 r] w fun e w' => e = .returned (.bool (blankR r)) ∧ Below w.heap.size w w' := by
  refine calls_v (n := 13) Tryd.func141 rfl Tryd.ntmps141 [.x (.a (.v (.int .i32 r)))] (by simp) (.x (.a (.v (.bool (blankR r))))) (fun _ => rfl) ?_
  by_cases h1 : r = 32
  · subst h1
    have hb : blankR 32 = true := rfl
    simp (config := { maxSteps := 1000000 }) only [hb, undef, push_cast, ↓Int.cast_ofNat_Int, Int.cast_ofNat_Int, ↓reduceIte, reduceCtorEq, Nat.reduceEqDiff, Nat.reduceLT]
    done
  have c1 : ¬ (r : Int) = 32 := by omega
  by_cases h2 : r = 9
  · subst h2
    have hb : blankR 9 = true := rfl
    simp (config := { maxSteps := 1000000 }) only [hb, undef, push_cast, ↓Int.cast_ofNat_Int, Int.cast_ofNat_Int, ↓reduceIte, reduceCtorEq, Nat.reduceEqDiff, Nat.reduceLT, Int.reduceEq]
    done
  have c2 : ¬ (r : Int) = 9 := by omega
  have hb : blankR r = decide ((r : Int) = 13) := by
    unfold blankR
    rw [beq_eq_false_iff_ne.2 h1, beq_eq_false_iff_ne.2 h2, Bool.false_or, Bool.false_or, Bool.beq_eq_decide_eq]
    exact decide_eq_decide.2 (by omega)
  simp (config := { maxSteps := 1000000 }) only [c1, c2, hb, push_cast, ↓reduceIte, reduceCtorEq, Nat.reduceEqDiff, Nat.reduceLT]
  done
section
variable {w0 : World} {hp : List Res}
theorem splitK (s : ByteArray) (hs : s.size ≤ 1000000) (hv : Vars w0) (hbr : ∀ r ∈ hp, Res.bnd hp.length r) : CallOK Tryd.prog w0 No 142 [.x (.a (.v (.string s))), .x (.a (.v (.string ⟨#[10]⟩)))] hp (.x (.a (.o hp.length))) (hp ++ [.own 9 (.vs ((linesOf s).map Value.string))]) := callOK_own hbr trivial fun γ w hS => by
  obtain ⟨m, hm⟩ := (hv.sat hS).ml
  refine (Tryd.strings_Split s ⟨#[10]⟩ m w (by omega) hm (by decide)).mono fun e w' ⟨he, hw⟩ => ⟨_, he, ?_, ?_⟩
  · have hlen := Lib.splitB_all (⟨#[10]⟩ : ByteArray) (by decide) 0 _ s rfl
    subst hw
    have hb := Lib.countB_le (⟨#[10]⟩ : ByteArray) (by decide) s.size s (Nat.le_refl _)
    have e2 : ((linesOf s).map Value.string).length = Lib.countB s ⟨#[10]⟩ + 1 := by rw [List.length_map]; exact hlen
    refine ⟨(Nat.mul_one _).symm, .inr ⟨w.heap.size, Lib.countB s ⟨#[10]⟩ + 1, ((linesOf s).map Value.string).toArray, ?_, Nat.le_refl _, heap_alloc_new _ _, ?_, ?_, ?_, ?_⟩⟩
    · show Value.slice _ _ _ = Value.slice _ ((linesOf s).map Value.string).length _
      rw [e2]
    · show ((linesOf s).map Value.string).length ≤ _
      omega
    · unfold maxLen; omega
    · rw [List.size_toArray, e2, Nat.mul_one]
    · show List.take (((linesOf s).map Value.string).length * 1) ((linesOf s).map Value.string).toArray.toList = (linesOf s).map Value.string
      rw [Nat.mul_one]
      exact List.take_length
  · subst hw
    exact Below.alloc (Below.refl _ _) (Nat.le_refl _) _
theorem cutK (s : ByteArray) (hs : s.size ≤ 1000000) (hv : Vars w0) : CallOK Tryd.prog w0 No 143 [.x (.a (.v (.string s))), .x (.a (.v (.string ⟨#[35]⟩)))] hp (.t [.a (.v (.string (sb (Lib.cut s.data.toList [35]).1))), .a (.v (.string (sb (Lib.cut s.data.toList [35]).2.1))), .a (.v (.bool (Lib.cut s.data.toList [35]).2.2))]) hp := callOK_v fun γ w hS => by
  obtain ⟨m, hm⟩ := (hv.sat hS).ml
  refine (Tryd.strings_Cut s ⟨#[35]⟩ m w (by omega) hm).mono fun e w' ⟨he, n, hw⟩ => ?_
  have e35 : (⟨#[35]⟩ : ByteArray).data.toList = [35] := rfl
  rw [e35] at he
  refine ⟨he, ?_⟩
  subst hw
  exact below_drewNg w n
theorem fields_any (s : ByteArray) (w : World) (hs : s.size ≤ 1000000) : Calls Tryd.prog 144 #[.string s, .func (.func 141) #[] #[]] w fun e w' => ∃ v', e = .returned v' ∧ Own w' w.heap.size 9 v' ((Lib.goFieldsP blankR s).map Value.string) ∧ Below w.heap.size w w' := by
  refine (Tryd.strings_FieldsFunc_grows 141 #[] (enters_of Tryd.func141 (by kernel_rfl) rfl) blankR s w (by omega) fun W x hx hb => ?_).mono fun e w' ⟨A, he, hA, hO, hB⟩ => ⟨_, he, ?_, hB⟩
  · have := blank_any x W hx
    exact this
  · unfold Own
    rw [List.length_map]
    exact hO
end
set_option maxRecDepth 100000 in
set_option maxHeartbeats 1000000 in
theorem words_sym (s : ByteArray) (w : World) (hs : s.size ≤ 1000000) (hv : Vars w) : Calls Tryd.prog 107 #[.string s] w fun e w' => ∃ (x : List (Nat × List ByteArray) × List (SlV ByteArray) × List Fct) (γ1 : List Nm), (x.1 = wordsF s ∧ x.2.1.map (·.l) = x.1.map (·.2) ∧ ∀ r ∈ x.2.1, rowF r ∈ x.2.2) ∧ e = .returned ((Sv.t [.a (.o 0), .a (.o 1)]).val γ1) ∧
    Sat w No γ1 [.own 3 (.i64 (x.1.map fun y => (y.1 : Int))), .own 113 (.c (vC (x.2.1.map SlV.val))), .abs (fctRep x.2.2)] w' := by
  refine calls_ex (n := 42) (fun x : List (Nat × List ByteArray) × List (SlV ByteArray) × List Fct => x.1 = wordsF s ∧ x.2.1.map (·.l) = x.1.map (·.2) ∧ ∀ r ∈ x.2.1, rowF r ∈ x.2.2) (fun _ => .t [.a (.o 0), .a (.o 1)]) (fun x => [.own 3 (.i64 (x.1.map fun y => (y.1 : Int))), .own 113 (.c (vC (x.2.1.map SlV.val))), .abs (fctRep x.2.2)])
    Tryd.func107 rfl Tryd.ntmps107 [.x (.a (.v (.string s)))] (Sat.init w No) (by simp) ?_
  simp (config := { maxSteps := 1000000 }) only [push_cast, ↓reduceIte, reduceCtorEq, Nat.reduceLT]
  (repeat (refine And.intro (by first | omega | decide) ?_))
  refine callG_x rfl cb142 rfl (splitK s hs hv (by simp (config := { maxSteps := 1000000 }) only [push_cast])) (dOk_lt rfl) (by simp (config := { maxSteps := 1000000 }) only [push_cast]) ?_
  have hLl := lines_len s
  have hLs := lines_size s
  have hW : wordsF s = wordsGo 0 (linesOf s) := rfl
  generalize linesOf s = L at *
  simp (config := { maxSteps := 1000000 }) only [push_cast, ↓reduceIte, Nat.reduceLT]
  refine loop_ghost 5 3 (.i64 []) rfl rfl trivial (by simp (config := { maxSteps := 1000000 }) only [push_cast, Nat.reduceLT]) ?_
  refine loop_ghost 6 113 (.c []) rfl rfl (by simp [Cont.bnd]) (by simp (config := { maxSteps := 1000000 }) only [push_cast, Nat.reduceLT, Nat.reduceAdd]) ?_
  simp (config := { maxSteps := 1000000 }) only [push_cast, Nat.reduceAdd]
  refine loop_fct (by simp (config := { maxSteps := 1000000 }) only [push_cast, Nat.reduceLT, Nat.reduceAdd]) ?_
  simp (config := { maxSteps := 1000000 }) only [push_cast]
  refine loop_rule (ι := Nat × List (Nat × List ByteArray) × List (SlV ByteArray) × List Fct) (fun x => ⟨[(4, .x (.a (.v (.func (.func 141) #[] #[])))), (5, .x (.a (.o 1))), (6, .x (.a (.o 2))), (11, .x (.a (.o 0))), (12, .x (.a (.v (.int .i64 L.length)))), (13, .x (.a (.v (.int .i64 (x.1 : Nat)))))],
      [.own 9 (.vs (L.map Value.string)), .own 3 (.i64 (x.2.1.map fun y => (y.1 : Int))), .own 113 (.c (vC (x.2.2.1.map SlV.val))), .abs (fctRep x.2.2.2)]⟩)
    (fun x => x.1 ≤ L.length ∧ x.2.1.length ≤ x.1 ∧ wordsF s = x.2.1 ++ wordsGo x.1 (L.drop x.1) ∧ x.2.2.1.map (·.l) = x.2.1.map (·.2) ∧ ∀ r ∈ x.2.2.1, rowF r ∈ x.2.2.2) (fun x => L.length - x.1) (0, [], [], []) [0, 1, 2, 3] ⟨Nat.zero_le _, Nat.le_refl _, hW, rfl, fun r h => by cases h⟩ ?_ ?_
  · have e0 : vC [] = [] := vC_nil
    simp (config := { maxSteps := 1000000 }) only [e0, push_cast, ↓Int.cast_ofNat_Int, Int.cast_ofNat_Int, ↓reduceIte, reduceCtorEq, Nat.reduceEqDiff, Nat.reduceLT, Nat.reduceAdd]
    done
  rintro ⟨i, acc, rows, Fs⟩ ⟨hi, hal, hw, hm, hF⟩
  dsimp only at hi hal hw hm hF ⊢
  have hrl : rows.length = acc.length := by rw [← List.length_map (f := fun r : SlV ByteArray => r.l), hm, List.length_map]
  by_cases hlt : (i : Int) < L.length
  · have hil : i < L.length := by omega
    obtain ⟨l, r, hd⟩ : ∃ l r, L.drop i = l :: r := ⟨_, _, List.drop_eq_getElem_cons hil⟩
    have hd1 : L.drop (i + 1) = r := by rw [← List.drop_drop, hd]; rfl
    have hl : L[i]? = some l := by rw [← List.head?_drop, hd]; rfl
    have hx : ix (L.map Value.string) i = .string l := by unfold ix; rw [List.getD_eq_getElem?_getD, List.getElem?_map, hl]; rfl
    have hsz : l.size ≤ 1000000 := Nat.le_trans (hLs l (List.mem_of_getElem? hl)) hs
    have i0 : (0 : Int) ≤ i := by omega
    have nx : (i : Int) + 1 ≤ 9223372036854775807 := by omega
    have nm : -9223372036854775808 ≤ (i : Int) + 1 := by omega
    have hcz : (sb (Lib.cut l.data.toList [35]).1).size ≤ 1000000 := by
      rw [sb_size]
      have := cut_le l.data.toList [35]
      have := size_data l
      omega
    have hwl : (wordsOf l).length ≤ 2000000 := by
      have := (wordsW_len (wordsOf l)).1
      have := wordsOf_le l
      omega
    rw [hd, wordsGo] at hw
    simp (config := { maxSteps := 1000000 }) only [hlt, hil, i0, hx, push_cast, ↓Int.toNat_natCast, ↓reduceIte, Nat.reduceEqDiff, Nat.reduceLT, Nat.reduceAdd]
    (repeat (refine And.intro (by first | omega | decide) ?_))
    refine callG_v rfl cb143 rfl (cutK l hsz hv) (dOk_lt rfl) ?_
    simp (config := { maxSteps := 1000000 }) only [push_cast, ↓reduceIte, Nat.reduceEqDiff, Nat.reduceLT, Nat.reduceAdd]
    (repeat (refine And.intro (by first | omega | decide) ?_))
    refine callG_xF 3 rfl rfl cb144 rfl (fun γ w' hS => fields_any _ w' hcz) (dOk_lt rfl) (by simp (config := { maxSteps := 1000000 }) only [vC_forall, push_cast, Nat.reduceLT, Nat.reduceAdd]) fun A cap hc1 hc2 => ?_
    rw [wordsOf_def, List.length_map] at *
    by_cases he : wordsOf l = []
    · have hz : ¬ (0 : Int) < (wordsOf l).length := by rw [he]; decide
      rw [if_pos he, ← hd1] at hw
      simp (config := { maxSteps := 1000000 }) only [hz, nx, nm, push_cast, ↓reduceIte, Nat.reduceEqDiff, Nat.reduceLT, Nat.reduceAdd, Int.reduceNeg]
      (repeat (refine And.intro (by first | omega | decide) ?_))
      refine loopK_normal (i + 1, acc, rows, Fs ++ [⟨.slice A (wordsOf l).length cap, (wordsOf l).length, (wordsOf l).map Value.string⟩]) [0, 1, 2, 3] ⟨by show i + 1 ≤ _; omega, by show acc.length ≤ i + 1; omega, hw, hm, fun x hx => List.mem_append_left _ (hF x hx)⟩ (by show L.length - (i + 1) < L.length - i; omega) ?_
      simp (config := { maxSteps := 1000000 }) only [push_cast, ↓reduceIte, reduceCtorEq, Nat.reduceEqDiff, Nat.reduceLT, Nat.reduceAdd]
      done
    · have hz : (0 : Int) < (wordsOf l).length := by
        have := List.length_pos_iff.2 he
        omega
      rw [if_neg he, ← hd1] at hw
      have b1 : (acc.length + 1) * 8 ≤ 140737488355328 := by omega
      have b2 : acc.length + 1 ≤ 2 ^ 63 - 1 := by omega
      have b3 : (acc.length + 1) * 24 ≤ 140737488355328 := by omega
      simp (config := { maxSteps := 1000000 }) only [hz, nx, nm, b1, b2, b3, hrl, vC_len, push_cast, ↓reduceIte, Nat.reduceEqDiff, Nat.reduceLT, Nat.reduceLeDiff, Nat.reduceAdd, Int.reduceNeg]
      (repeat (refine And.intro (by first | omega | decide) ?_))
      refine loopK_normal (i + 1, acc ++ [(i + 1, wordsOf l)], rows ++ [(⟨A, cap, wordsOf l⟩ : SlV ByteArray)], Fs ++ [⟨.slice A (wordsOf l).length cap, (wordsOf l).length, (wordsOf l).map Value.string⟩]) [0, 5, 7, 3] ⟨by show i + 1 ≤ _; omega, by show (acc ++ [_]).length ≤ i + 1; rw [List.length_append, List.length_singleton]; omega, by rw [hw]; simp, by rw [List.map_append, List.map_append, hm]; rfl, fun x hx => ?_⟩ (by show L.length - (i + 1) < L.length - i; omega) ?_
      · rcases List.mem_append.1 hx with hx | hx
        · exact List.mem_append_left _ (hF x hx)
        · rw [List.mem_singleton.1 hx]
          exact List.mem_append_right _ (List.mem_singleton.2 rfl)
      · have e1 : vC [SlV.val (⟨A, cap, wordsOf l⟩ : SlV ByteArray)] = [.v (.slice A (wordsOf l).length cap)] := by unfold vC; rfl
        simp (config := { maxSteps := 1000000 }) only [vC_app, e1, List.map_append, List.map_cons, List.map_nil, push_cast, ↓reduceIte, reduceCtorEq, Nat.reduceEqDiff, Nat.reduceLT, Nat.reduceAdd]
        done
  · obtain rfl : i = L.length := by omega
    rw [List.drop_of_length_le (by omega), wordsGo, List.append_nil] at hw
    simp (config := { maxSteps := 1000000 }) only [hlt, push_cast, ↓reduceIte, Nat.reduceEqDiff, Nat.reduceLT, Nat.reduceAdd]
    refine ⟨(acc, rows, Fs), ⟨hw.symm, hm, hF⟩, endsAs [1, 2, 3] ?_⟩
    simp (config := { maxSteps := 1000000 }) only [push_cast, ↓reduceIte, Nat.reduceEqDiff, Nat.reduceLT, Nat.reduceAdd]
    done
theorem words_any (s : ByteArray) (w : World) (hs : s.size ≤ 1000000) (hv : Vars w) : Calls Tryd.prog 107 #[.string s] w fun e w' => ∃ (x : WdR) (γ1 : List Nm), WdQ s x ∧ e = .returned (.tuple #[x.at_.val, x.rows.val]) ∧ Sat w No γ1 [.abs (fctRep x.fs)] w' := by
  refine (words_sym s w hs hv).mono fun e w' ⟨⟨acc, rows, Fs⟩, γ1, ⟨h1, h2, h3⟩, he, hS⟩ => ?_
  dsimp only at h1 h2 h3 hS
  have hl1 := hS.len
  obtain ⟨A1, c1, γ2, a1, b1, eB1, eS1, s1⟩ := hS.ownF (j := 0) (k := 2) (c := .i64 (acc.map fun y => (y.1 : Int))) (vs := (acc.map fun y => (y.1 : Int)).map (Value.int .i64)) (l := Fs) rfl rfl (by decide) (fun _ => rfl)
  obtain ⟨A2, c2, γ3, a2, b2, eB2, eS2, s2⟩ := s1.ownF (j := 1) (k := 2) (c := .c (vC (rows.map SlV.val))) (vs := rows.map SlV.val) rfl rfl (by decide) (fun γ => vC_val γ _)
  obtain ⟨h7, _⟩ := s2.sel (ρ := [2]) (hp0 := [.abs (fctRep (Fs ++ [⟨.slice A1 ((acc.map fun y => (y.1 : Int)).map (Value.int .i64)).length c1, ((acc.map fun y => (y.1 : Int)).map (Value.int .i64)).length, (acc.map fun y => (y.1 : Int)).map (Value.int .i64)⟩] ++ [⟨.slice A2 (rows.map SlV.val).length c2, (rows.map SlV.val).length, rows.map SlV.val⟩]))]) ⟨by simp [Res.ren], trivial⟩ ⟨trivial, trivial⟩ (fun r hr => by rw [List.mem_singleton.1 hr]; trivial)
  have x1 : At.val γ1 (.o 0) = .slice A1 ((acc.map fun y => (y.1 : Int)).map (Value.int .i64)).length c1 := a1
  have x2 : At.val γ1 (.o 1) = .slice A2 (rows.map SlV.val).length c2 := by
    show nmS γ1 1 = _
    rw [← eS1]
    exact a2
  have l1 : ((acc.map fun y => (y.1 : Int)).map (Value.int .i64)).length = (acc.map fun y => (y.1 : Int)).length := List.length_map ..
  have l2 : (rows.map SlV.val).length = rows.length := List.length_map ..
  rw [l1] at x1 h7
  rw [l2] at x2 h7
  refine ⟨⟨⟨A1, c1, acc.map fun y => (y.1 : Int)⟩, ⟨A2, c2, rows⟩, _⟩, _, ⟨by rw [h1], by rw [← h1]; exact h2, ?_, ?_, fun r hr => ?_⟩, ?_, h7⟩
  · exact List.mem_append_left _ (List.mem_append_right _ (List.mem_singleton.2 rfl))
  · exact List.mem_append_right _ (List.mem_singleton.2 rfl)
  · exact List.mem_append_left _ (List.mem_append_left _ (h3 r hr))
  · rw [he]
    show Ending.returned (.tuple #[At.val γ1 (.o 0), At.val γ1 (.o 1)]) = _
    rw [x1, x2]
    rfl
end Go.Proofs.YtiaeollemmkclaaDoor
