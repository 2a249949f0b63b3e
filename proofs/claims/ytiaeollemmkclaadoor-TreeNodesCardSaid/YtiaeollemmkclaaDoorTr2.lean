import Derived.Test.YtiaeollemmkclaaDoorTr1
/- slices.Index, Contains of numbers; layer 22: tree.Under, Group, Below, Nodes. -/
namespace Go.Proofs.YtiaeollemmkclaaDoor
open Go.RowKit
set_option linter.unusedSimpArgs false
set_option linter.unusedVariables false
/-- The place of a number in a list; below 0: it is none of it. -/
def idxN (n : Int) : List Int → Nat → Int
  | [], _ => -1
  | x :: r, k => if n = x then (k : Int) else idxN n r (k + 1)
theorem idxN_mem (n : Int) : ∀ (l : List Int) (k : Nat), (0 ≤ idxN n l k) ↔ n ∈ l
  | [], k => by rw [idxN]; simp
  | x :: r, k => by
    rw [idxN, List.mem_cons]
    by_cases h : n = x
    · rw [if_pos h]; exact ⟨fun _ => .inl h, fun _ => by omega⟩
    · rw [if_neg h, idxN_mem n r (k + 1)]
      exact ⟨.inr, fun e => e.resolve_left h⟩
def memB (n : Int) (l : List Int) : Bool := decide (n ∈ l)
theorem idxN_memB (n : Int) (l : List Int) : memB n l = decide (0 ≤ idxN n l 0) := decide_eq_decide.2 (idxN_mem n l 0).symm
def undF (l : List PlS) (p : Int) (k : Nat) : List Int := ((List.range k).filter fun q => decide ((ix l q).parent = p)).map Int.ofNat
theorem undF_succ (l : List PlS) (p : Int) (k : Nat) : undF l p (k + 1) = undF l p k ++ (if (ix l k).parent = p then [(k : Int)] else []) := by
  unfold undF
  rw [List.range_succ, List.filter_append, List.map_append]
  congr 1
  by_cases h : (ix l k).parent = p
  · simp [h]
  · simp [h]
theorem undF_len (l : List PlS) (p : Int) (k : Nat) : (undF l p k).length ≤ k := by
  unfold undF
  rw [List.length_map]
  have := List.length_filter_le (fun q => decide ((ix l q).parent = p)) (List.range k)
  simpa using this
def beloStep (l : List PlS) (p : Int) (s : List Int) (g : GrS) : List Int := if g.place = p ∨ p ∈ abF l g.place.toNat then eitherF s g.ids else s
def beloTo (c : CfS) (p : Int) (k : Nat) : List Int := (c.groups.take k).foldl (beloStep c.places p) []
theorem beloTo_succ {c : CfS} {p : Int} {k : Nat} (h : k < c.groups.length) : beloTo c p (k + 1) = beloStep c.places p (beloTo c p k) (ix c.groups k) := by
  unfold beloTo
  rw [List.take_add_one, List.getElem?_eq_getElem h, Option.toList_some, List.foldl_append, List.foldl_cons, List.foldl_nil, ix, List.getD_eq_getElem?_getD, List.getElem?_eq_getElem h]
  rfl
theorem beloTo_len (c : CfS) (p : Int) (k : Nat) : (beloTo c p k).length ≤ 64 := by
  unfold beloTo
  suffices ∀ (l : List GrS) (s : List Int), s.length ≤ 64 → (l.foldl (beloStep c.places p) s).length ≤ 64 from this _ _ (by simp)
  intro l
  induction l with
  | nil => exact fun s h => h
  | cons g l ih =>
    intro s h
    refine ih _ ?_
    unfold beloStep
    split
    · exact either_len _ _
    · exact h
theorem grGo_place {n : Int} : ∀ {gs : List GrS} {last : Int} {seen R : List Int}, grGo n gs last seen = some R → ∀ g ∈ gs, last < g.place ∧ g.place < n
  | [], _, _, _, _, g, hg => by cases hg
  | x :: gs, last, seen, R, h, g, hg => by
    rw [grGo] at h
    split at h
    · rename_i hf
      have hx : last < x.place ∧ x.place < n := by
        unfold fitF at hf
        simp only [Bool.and_eq_true, decide_eq_true_eq] at hf
        exact hf.1.1.1.1
      rcases List.mem_cons.1 hg with rfl | hg
      · exact hx
      · have := grGo_place h g hg; omega
    · cases h
theorem cfF_groups {c : CfS} (h : cfF c = true) : ∀ g ∈ c.groups, 0 < g.place ∧ g.place < c.places.length := by
  unfold cfF at h
  simp only [Bool.and_eq_true] at h
  have h4 := h.1.2
  unfold grF at h4
  split at h4
  · cases hg : grGo c.places.length c.groups 0 [] with
    | none => rw [hg] at h4; cases h4
    | some R => exact grGo_place hg
  · cases h4
attribute [local irreducible] Callable CallOK CallG CallM DrawG LoopG symR symM
attribute [local irreducible] cfF okV tcF isP ofP abF idxN memB idxP
section
set_option maxRecDepth 100000 in
theorem indexN_any (l : List Int) (n : Int) (A : Option Addr) (c : Nat) (w : World) (hm : l.length ≤ 1000000) (hR : RdV w w.heap.size A (l.map (Value.int .i64))) :
    Calls Tryd.prog 149 #[.slice A l.length c, .int .i64 n] w fun e w' => e = .returned (.int .i64 (idxN n l 0)) ∧ Below w.heap.size w w' := by
  have F := FM.of hR
  refine calls_v (n := 19) Tryd.func149 rfl Tryd.ntmps149 [.x (.a (.v (.slice A l.length c))), .x (.a (.v (.int .i64 n)))] (by simp) (.x (.a (.v (.int .i64 (idxN n l 0))))) (fun _ => rfl) ?_
  obtain ⟨R, hr⟩ : ∃ R, R = idxN n l 0 := ⟨_, rfl⟩
  rw [← hr]
  simp (config := { maxSteps := 1000000 }) only [undef, push_cast, ↓Int.toNat_natCast, ↓Int.cast_ofNat_Int, Int.cast_ofNat_Int, ↓reduceIte, reduceCtorEq, Nat.reduceEqDiff, Nat.reduceLT, Nat.reduceLeDiff, Nat.reduceAdd, Nat.reduceSub, Nat.reduceMul, Int.reduceNeg, Int.reduceLE, Int.reduceLT, Int.reduceToNat, Int.reduceAdd, Int.reduceSub, Int.reduceMul, Int.reduceEq]
  refine loop_rule (ι := Nat) (fun k => ⟨[(0, .x (.a (.v (.slice A l.length c)))), (1, .x (.a (.v (.int .i64 n)))), (7, .x (.a (.v (.int .i64 l.length)))), (8, .x (.a (.v (.int .i64 k))))], []⟩) (fun k => k ≤ l.length ∧ R = idxN n (l.drop k) k) (fun k => l.length - k) 0 [] ⟨Nat.zero_le _, hr⟩ ?_ ?_
  · simp (config := { maxSteps := 1000000 }) only [push_cast, ↓Int.toNat_natCast, ↓Int.cast_ofNat_Int, Int.cast_ofNat_Int, ↓reduceIte, reduceCtorEq, Nat.reduceEqDiff, Nat.reduceLT, Nat.reduceLeDiff, Nat.reduceAdd, Nat.reduceSub, Nat.reduceMul, Int.reduceNeg, Int.reduceLE, Int.reduceLT, Int.reduceToNat, Int.reduceAdd, Int.reduceSub, Int.reduceMul, Int.reduceEq]
  rintro k ⟨hk, hg⟩
  by_cases hlt : (k : Int) < l.length
  · have hil : k < l.length := by omega
    have i0 : (0 : Int) ≤ k := by omega
    have c0 := F.cell k hil
    have o0 := F.ok k hil
    have hA := F.some_ (by omega)
    have hd : l.drop k = ix l k :: l.drop (k + 1) := by
      rw [List.drop_eq_getElem_cons hil, ix, List.getD_eq_getElem?_getD, List.getElem?_eq_getElem hil]; rfl
    rw [hd, idxN] at hg
    generalize ix l k = x at *
    have nx : (k : Int) + 1 ≤ 9223372036854775807 := by omega
    by_cases h : n = x
    · rw [if_pos h] at hg
      simp (config := { maxSteps := 1000000 }) only [hlt, i0, c0, o0, hA, h, hg, undef, push_cast, ↓Int.toNat_natCast, ↓Int.cast_ofNat_Int, Int.cast_ofNat_Int, ↓reduceIte, reduceCtorEq, Nat.reduceEqDiff, Nat.reduceLT, Nat.reduceLeDiff, Nat.reduceAdd, Nat.reduceSub, Nat.reduceMul, Int.reduceNeg, Int.reduceLE, Int.reduceLT, Int.reduceToNat, Int.reduceAdd, Int.reduceSub, Int.reduceMul, Int.reduceEq]
      done
    · rw [if_neg h] at hg
      simp (config := { maxSteps := 1000000 }) only [hlt, i0, c0, o0, hA, h, undef, push_cast, ↓Int.toNat_natCast, ↓Int.cast_ofNat_Int, Int.cast_ofNat_Int, ↓reduceIte, reduceCtorEq, Nat.reduceEqDiff, Nat.reduceLT, Nat.reduceLeDiff, Nat.reduceAdd, Nat.reduceSub, Nat.reduceMul, Int.reduceNeg, Int.reduceLE, Int.reduceLT, Int.reduceToNat, Int.reduceAdd, Int.reduceSub, Int.reduceMul, Int.reduceEq]
      (repeat (refine And.intro (by first | omega | decide) ?_))
      refine loopK_normal (k + 1) [] ⟨by omega, hg⟩ (by omega) ?_
      simp (config := { maxSteps := 1000000 }) only [push_cast, ↓Int.toNat_natCast, ↓Int.cast_ofNat_Int, Int.cast_ofNat_Int, ↓reduceIte, reduceCtorEq, Nat.reduceEqDiff, Nat.reduceLT, Nat.reduceLeDiff, Nat.reduceAdd, Nat.reduceSub, Nat.reduceMul, Int.reduceNeg, Int.reduceLE, Int.reduceLT, Int.reduceToNat, Int.reduceAdd, Int.reduceSub, Int.reduceMul, Int.reduceEq]
      done
  · obtain rfl : k = l.length := by omega
    rw [List.drop_length, idxN] at hg
    simp (config := { maxSteps := 1000000 }) only [hlt, hg, undef, push_cast, ↓Int.toNat_natCast, ↓Int.cast_ofNat_Int, Int.cast_ofNat_Int, ↓reduceIte, reduceCtorEq, Nat.reduceEqDiff, Nat.reduceLT, Nat.reduceLeDiff, Nat.reduceAdd, Nat.reduceSub, Nat.reduceMul, Int.reduceNeg, Int.reduceLE, Int.reduceLT, Int.reduceToNat, Int.reduceAdd, Int.reduceSub, Int.reduceMul, Int.reduceEq]
    done
set_option maxRecDepth 100000 in
theorem containsN_any (l : List Int) (n : Int) (A : Option Addr) (c : Nat) (w : World) (hm : l.length ≤ 1000000) (hR : RdV w w.heap.size A (l.map (Value.int .i64))) :
    Calls Tryd.prog 123 #[.slice A l.length c, .int .i64 n] w fun e w' => e = .returned (.bool (memB n l)) ∧ Below w.heap.size w w' := by
  refine calls_v (n := 9) Tryd.func123 rfl Tryd.ntmps123 [.x (.a (.v (.slice A l.length c))), .x (.a (.v (.int .i64 n)))] (by simp) (.x (.a (.v (.bool (memB n l))))) (fun _ => rfl) ?_
  have iK : ∀ hp, CallOK Tryd.prog w No 149 [.x (.a (.v (.slice A l.length c))), .x (.a (.v (.int .i64 n)))] hp (.x (.a (.v (.int .i64 (idxN n l 0))))) hp := fun hp => callOK_v fun γ w' hS => indexN_any l n A c w' hm (rd_later hR hS)
  simp (config := { maxSteps := 1000000 }) only [undef, push_cast, ↓Int.toNat_natCast, ↓Int.cast_ofNat_Int, Int.cast_ofNat_Int, ↓reduceIte, reduceCtorEq, Nat.reduceEqDiff, Nat.reduceLT, Nat.reduceLeDiff, Nat.reduceAdd, Nat.reduceSub, Nat.reduceMul, Int.reduceNeg, Int.reduceLE, Int.reduceLT, Int.reduceToNat, Int.reduceAdd, Int.reduceSub, Int.reduceMul, Int.reduceEq]
  (repeat (refine And.intro (by first | omega | decide) ?_))
  refine callG_v rfl cb149 rfl (iK _) (dOk_lt rfl) ?_
  have e := idxN_memB n l
  simp (config := { maxSteps := 1000000 }) only [e, undef, push_cast, ↓Int.toNat_natCast, ↓Int.cast_ofNat_Int, Int.cast_ofNat_Int, ↓reduceIte, reduceCtorEq, Nat.reduceEqDiff, Nat.reduceLT, Nat.reduceLeDiff, Nat.reduceAdd, Nat.reduceSub, Nat.reduceMul, Int.reduceNeg, Int.reduceLE, Int.reduceLT, Int.reduceToNat, Int.reduceAdd, Int.reduceSub, Int.reduceMul, Int.reduceEq]
  done
theorem containsNK {w0 : World} {ow : Nat → Prop} {hp : List Res} {sv : Sv} {l : List Int} (n : Int) (hm : l.length ≤ 1000000) (h : Shows w0 ow hp sv (l.map (Value.int .i64))) : CallOK Tryd.prog w0 ow 123 [sv, .x (.a (.v (.int .i64 n)))] hp (.x (.a (.v (.bool (memB n l))))) hp := callOK_v fun γ w hS => by
  obtain ⟨A, c, e1, b1, r1⟩ := h γ w hS
  rw [List.length_map] at e1
  show Calls _ _ #[sv.val γ, _] w _
  rw [e1]
  exact containsN_any l n A c w hm r1
attribute [local irreducible] undF beloTo
set_option maxRecDepth 100000 in
theorem under_any (c : CfR) (p : Int) (w : World) (hc : c.Ok w) : Calls Tryd.prog 79 #[.agg (cfV c).toArray, .int .i64 p] w fun e w' => ∃ v', e = .returned (.tuple #[v', tcF c.cf p]) ∧ Own w' w.heap.size 3 v' ((ofP c.cf p (undF c.ps.l p c.ps.l.length)).map (Value.int .i64)) ∧ Below w.heap.size w w' := by
  have F := FLm.of plV_len (by decide) hc.prd
  have hpf := hc.pfew
  refine calls_own2 (n := 34) Tryd.func79 rfl Tryd.ntmps79 [.x (.g [.v (.int .i64 c.dim), .v (.slice c.ps.A c.ps.l.length c.ps.c), .v (.slice c.gs.A c.gs.l.length c.gs.c), .v (.int .i64 c.least), .v (.int .i64 c.term)]), .x (.a (.v (.int .i64 p)))] (by simp) 3 (.i64 (ofP c.cf p (undF c.ps.l p c.ps.l.length))) (tcF c.cf p) (fun _ => rfl) ?_
  simp (config := { maxSteps := 1000000 }) only [undef, push_cast, ↓Int.toNat_natCast, ↓Int.cast_ofNat_Int, Int.cast_ofNat_Int, ↓reduceIte, reduceCtorEq, Nat.reduceEqDiff, Nat.reduceLT, Nat.reduceLeDiff, Nat.reduceAdd, Nat.reduceSub, Nat.reduceMul, Int.reduceNeg, Int.reduceLE, Int.reduceLT, Int.reduceToNat, Int.reduceAdd, Int.reduceSub, Int.reduceMul, Int.reduceEq]
  (repeat (refine And.intro (by first | omega | decide) ?_))
  refine callG_v rfl cb87 rfl (checkTR c p hc) (dOk_lt rfl) ?_
  rcases tcF_of c.cf p with ⟨h1, h2⟩ | ⟨h2, n, h1⟩
  · have ho : ofP c.cf p (undF c.ps.l p c.ps.l.length) = undF c.ps.l p c.ps.l.length := by unfold ofP; rw [if_pos h2]
    simp (config := { maxSteps := 1000000 }) only [h1, ho, undef, push_cast, ↓Int.toNat_natCast, ↓Int.cast_ofNat_Int, Int.cast_ofNat_Int, ↓reduceIte, reduceCtorEq, Nat.reduceEqDiff, Nat.reduceLT, Nat.reduceLeDiff, Nat.reduceAdd, Nat.reduceSub, Nat.reduceMul, Int.reduceNeg, Int.reduceLE, Int.reduceLT, Int.reduceToNat, Int.reduceAdd, Int.reduceSub, Int.reduceMul, Int.reduceEq]
    refine loop_ghost 7 3 (.i64 []) rfl rfl trivial (by simp (config := { maxSteps := 1000000 }) only [undef, push_cast, ↓Int.toNat_natCast, ↓Int.cast_ofNat_Int, Int.cast_ofNat_Int, ↓reduceIte, reduceCtorEq, Nat.reduceEqDiff, Nat.reduceLT, Nat.reduceLeDiff, Nat.reduceAdd, Nat.reduceSub, Nat.reduceMul, Int.reduceNeg, Int.reduceLE, Int.reduceLT, Int.reduceToNat, Int.reduceAdd, Int.reduceSub, Int.reduceMul, Int.reduceEq]) ?_
    simp (config := { maxSteps := 1000000 }) only [undef, push_cast, ↓Int.toNat_natCast, ↓Int.cast_ofNat_Int, Int.cast_ofNat_Int, ↓reduceIte, reduceCtorEq, Nat.reduceEqDiff, Nat.reduceLT, Nat.reduceLeDiff, Nat.reduceAdd, Nat.reduceSub, Nat.reduceMul, Int.reduceNeg, Int.reduceLE, Int.reduceLT, Int.reduceToNat, Int.reduceAdd, Int.reduceSub, Int.reduceMul, Int.reduceEq]
    refine loop_rule (ι := Nat) (fun k => ⟨[(1, .x (.a (.v (.int .i64 p)))), (7, .x (.a (.o 0))), (17, .x (.a (.v (.slice c.ps.A c.ps.l.length c.ps.c)))), (18, .x (.a (.v (.int .i64 c.ps.l.length)))), (19, .x (.a (.v (.int .i64 k))))], [.own 3 (.i64 (undF c.ps.l p k))]⟩) (fun k => k ≤ c.ps.l.length) (fun k => c.ps.l.length - k) 0 [1] (Nat.zero_le _) ?_ ?_
    · have e0 : undF c.ps.l p 0 = [] := by unfold undF; rfl
      simp (config := { maxSteps := 1000000 }) only [e0, push_cast, ↓Int.toNat_natCast, ↓Int.cast_ofNat_Int, Int.cast_ofNat_Int, ↓reduceIte, reduceCtorEq, Nat.reduceEqDiff, Nat.reduceLT, Nat.reduceLeDiff, Nat.reduceAdd, Nat.reduceSub, Nat.reduceMul, Int.reduceNeg, Int.reduceLE, Int.reduceLT, Int.reduceToNat, Int.reduceAdd, Int.reduceSub, Int.reduceMul, Int.reduceEq]
    intro k hk
    by_cases hlt : (k : Int) < c.ps.l.length
    · have hil : k < c.ps.l.length := by omega
      have i0 : (0 : Int) ≤ k := by omega
      obtain ⟨w1, w2⟩ := F.whole k hil
      have hA := F.some_ (by omega)
      have hs := undF_succ c.ps.l p k
      have hl := undF_len c.ps.l p k
      have b1 : ((undF c.ps.l p k).length + 1) * 8 ≤ 140737488355328 := by omega
      have b2 : (undF c.ps.l p k).length + 1 ≤ 2 ^ 63 - 1 := by omega
      have nx : (k : Int) + 1 ≤ 9223372036854775807 := by omega
      generalize ix c.ps.l k = x at *
      have w1 : rawL w (pAdd c.ps.A (k * 3)) 3 0 = [.v (.int .i64 x.parent), .v (.int .i64 x.spare), .v (.int .i64 x.need)] := w1
      by_cases h : x.parent = p
      · rw [if_pos h] at hs
        simp (config := { maxSteps := 1000000 }) only [hlt, i0, w1, w2, hA, h, b1, b2, pAdd_add, pAdd_isSome, undef, push_cast, ↓Int.toNat_natCast, ↓Int.cast_ofNat_Int, Int.cast_ofNat_Int, ↓reduceIte, reduceCtorEq, Nat.reduceEqDiff, Nat.reduceLT, Nat.reduceLeDiff, Nat.reduceAdd, Nat.reduceSub, Nat.reduceMul, Int.reduceNeg, Int.reduceLE, Int.reduceLT, Int.reduceToNat, Int.reduceAdd, Int.reduceSub, Int.reduceMul, Int.reduceEq]
        (repeat (refine And.intro (by first | omega | decide) ?_))
        refine loopK_normal (k + 1) [3] (by show k + 1 ≤ _; omega) (by show c.ps.l.length - (k + 1) < c.ps.l.length - k; omega) ?_
        simp (config := { maxSteps := 1000000 }) only [hs, push_cast, ↓Int.toNat_natCast, ↓Int.cast_ofNat_Int, Int.cast_ofNat_Int, ↓reduceIte, reduceCtorEq, Nat.reduceEqDiff, Nat.reduceLT, Nat.reduceLeDiff, Nat.reduceAdd, Nat.reduceSub, Nat.reduceMul, Int.reduceNeg, Int.reduceLE, Int.reduceLT, Int.reduceToNat, Int.reduceAdd, Int.reduceSub, Int.reduceMul, Int.reduceEq]
        done
      · rw [if_neg h, List.append_nil] at hs
        simp (config := { maxSteps := 1000000 }) only [hlt, i0, w1, w2, hA, h, pAdd_add, pAdd_isSome, undef, push_cast, ↓Int.toNat_natCast, ↓Int.cast_ofNat_Int, Int.cast_ofNat_Int, ↓reduceIte, reduceCtorEq, Nat.reduceEqDiff, Nat.reduceLT, Nat.reduceLeDiff, Nat.reduceAdd, Nat.reduceSub, Nat.reduceMul, Int.reduceNeg, Int.reduceLE, Int.reduceLT, Int.reduceToNat, Int.reduceAdd, Int.reduceSub, Int.reduceMul, Int.reduceEq]
        (repeat (refine And.intro (by first | omega | decide) ?_))
        refine loopK_normal (k + 1) [0] (by show k + 1 ≤ _; omega) (by show c.ps.l.length - (k + 1) < c.ps.l.length - k; omega) ?_
        simp (config := { maxSteps := 1000000 }) only [hs, push_cast, ↓Int.toNat_natCast, ↓Int.cast_ofNat_Int, Int.cast_ofNat_Int, ↓reduceIte, reduceCtorEq, Nat.reduceEqDiff, Nat.reduceLT, Nat.reduceLeDiff, Nat.reduceAdd, Nat.reduceSub, Nat.reduceMul, Int.reduceNeg, Int.reduceLE, Int.reduceLT, Int.reduceToNat, Int.reduceAdd, Int.reduceSub, Int.reduceMul, Int.reduceEq]
        done
    · obtain rfl : k = c.ps.l.length := by omega
      simp (config := { maxSteps := 1000000 }) only [hlt, undef, push_cast, ↓Int.toNat_natCast, ↓Int.cast_ofNat_Int, Int.cast_ofNat_Int, ↓reduceIte, reduceCtorEq, Nat.reduceEqDiff, Nat.reduceLT, Nat.reduceLeDiff, Nat.reduceAdd, Nat.reduceSub, Nat.reduceMul, Int.reduceNeg, Int.reduceLE, Int.reduceLT, Int.reduceToNat, Int.reduceAdd, Int.reduceSub, Int.reduceMul, Int.reduceEq]
      done
  · have ho : ofP c.cf p (undF c.ps.l p c.ps.l.length) = [] := by unfold ofP; rw [h2]; rfl
    simp (config := { maxSteps := 1000000 }) only [h1, ho, undef, push_cast, ↓Int.toNat_natCast, ↓Int.cast_ofNat_Int, Int.cast_ofNat_Int, ↓reduceIte, reduceCtorEq, Nat.reduceEqDiff, Nat.reduceLT, Nat.reduceLeDiff, Nat.reduceAdd, Nat.reduceSub, Nat.reduceMul, Int.reduceNeg, Int.reduceLE, Int.reduceLT, Int.reduceToNat, Int.reduceAdd, Int.reduceSub, Int.reduceMul, Int.reduceEq]
    done
theorem underK {w0 : World} {hp : List Res} {s : Sv} {c : CfS} (p : Int) (h : ShowsCf w0 hp s c) (hbr : ∀ r ∈ hp, Res.bnd hp.length r) : CallOK Tryd.prog w0 No 79 [s, .x (.a (.v (.int .i64 p)))] hp (.t [.a (.o hp.length), .a (.v (tcF c p))]) (hp ++ [.own 3 (.i64 (ofP c p (undF c.places p c.places.length)))]) := callOK_own2 hbr trivial fun γ w hS => by
  obtain ⟨a, e, h1, rfl⟩ := h γ w hS
  show Calls _ _ #[s.val γ, _] w _
  rw [e]
  exact under_any a p w h1
/-- The number of the group at a place. -/
def grpF (c : CfS) (p : Int) : Int := if isP c p = true then idxP p c.groups 0 else 0
attribute [local irreducible] grpF
set_option maxRecDepth 100000 in
theorem group_any (c : CfR) (p : Int) (w : World) (hc : c.Ok w) : Calls Tryd.prog 81 #[.agg (cfV c).toArray, .int .i64 p] w fun e w' => e = .returned (.tuple #[.int .i64 (grpF c.cf p), tcF c.cf p]) ∧ Below w.heap.size w w' := by
  have hgf := hc.gfew
  have hgl := hc.glen
  refine calls_v (n := 17) Tryd.func81 rfl Tryd.ntmps81 [.x (.g [.v (.int .i64 c.dim), .v (.slice c.ps.A c.ps.l.length c.ps.c), .v (.slice c.gs.A c.gs.l.length c.gs.c), .v (.int .i64 c.least), .v (.int .i64 c.term)]), .x (.a (.v (.int .i64 p)))] (by simp) (.t [.a (.v (.int .i64 (grpF c.cf p))), .a (.v (tcF c.cf p))]) (fun _ => rfl) ?_
  simp (config := { maxSteps := 1000000 }) only [undef, push_cast, ↓Int.toNat_natCast, ↓Int.cast_ofNat_Int, Int.cast_ofNat_Int, ↓reduceIte, reduceCtorEq, Nat.reduceEqDiff, Nat.reduceLT, Nat.reduceLeDiff, Nat.reduceAdd, Nat.reduceSub, Nat.reduceMul, Int.reduceNeg, Int.reduceLE, Int.reduceLT, Int.reduceToNat, Int.reduceAdd, Int.reduceSub, Int.reduceMul, Int.reduceEq]
  (repeat (refine And.intro (by first | omega | decide) ?_))
  refine callG_v rfl cb87 rfl (checkTR c p hc) (dOk_lt rfl) ?_
  rcases tcF_of c.cf p with ⟨h1, h2⟩ | ⟨h2, n, h1⟩
  · have ho : grpF c.cf p = idxP p (c.gs.l.map GrR.gr) 0 := by unfold grpF; rw [if_pos h2]; rfl
    have cK : ∀ hp, bview hp[1]? = some (3, .c [.v (.int .i64 p)]) → CallOK Tryd.prog w No 124 [.x (.a (.v (.slice c.gs.A c.gs.l.length c.gs.c))), .f (.func 125) [.p 1 0]] hp (.x (.a (.v (.int .i64 (idxP p (c.gs.l.map GrR.gr) 0))))) hp := fun hp h => callOK_v fun γ w' hS => indexG_any c.gs.l c.gs.A c.gs.c _ p w' hgf (rd_later hc.grd hS) (eqPl_group.pure (vr_sat (vs := [.int .i64 p]) hS h rfl))
    simp (config := { maxSteps := 1000000 }) only [h1, ho, undef, push_cast, ↓Int.toNat_natCast, ↓Int.cast_ofNat_Int, Int.cast_ofNat_Int, ↓reduceIte, reduceCtorEq, Nat.reduceEqDiff, Nat.reduceLT, Nat.reduceLeDiff, Nat.reduceAdd, Nat.reduceSub, Nat.reduceMul, Int.reduceNeg, Int.reduceLE, Int.reduceLT, Int.reduceToNat, Int.reduceAdd, Int.reduceSub, Int.reduceMul, Int.reduceEq]
    (repeat (refine And.intro (by first | omega | decide) ?_))
    refine callG_v rfl cb124 rfl (cK _ rfl) (dOk_lt rfl) ?_
    simp (config := { maxSteps := 1000000 }) only [undef, push_cast, ↓Int.toNat_natCast, ↓Int.cast_ofNat_Int, Int.cast_ofNat_Int, ↓reduceIte, reduceCtorEq, Nat.reduceEqDiff, Nat.reduceLT, Nat.reduceLeDiff, Nat.reduceAdd, Nat.reduceSub, Nat.reduceMul, Int.reduceNeg, Int.reduceLE, Int.reduceLT, Int.reduceToNat, Int.reduceAdd, Int.reduceSub, Int.reduceMul, Int.reduceEq]
    done
  · have ho : grpF c.cf p = 0 := by unfold grpF; rw [h2]; rfl
    simp (config := { maxSteps := 1000000 }) only [h1, ho, undef, push_cast, ↓Int.toNat_natCast, ↓Int.cast_ofNat_Int, Int.cast_ofNat_Int, ↓reduceIte, reduceCtorEq, Nat.reduceEqDiff, Nat.reduceLT, Nat.reduceLeDiff, Nat.reduceAdd, Nat.reduceSub, Nat.reduceMul, Int.reduceNeg, Int.reduceLE, Int.reduceLT, Int.reduceToNat, Int.reduceAdd, Int.reduceSub, Int.reduceMul, Int.reduceEq]
    done
theorem groupK {w0 : World} {hp : List Res} {s : Sv} {c : CfS} (p : Int) (h : ShowsCf w0 hp s c) : CallOK Tryd.prog w0 No 81 [s, .x (.a (.v (.int .i64 p)))] hp (.t [.a (.v (.int .i64 (grpF c p))), .a (.v (tcF c p))]) hp := callOK_v fun γ w hS => by
  obtain ⟨a, e, h1, rfl⟩ := h γ w hS
  show Calls _ _ #[s.val γ, _] w _
  rw [e]
  exact group_any a p w h1
set_option maxRecDepth 100000 in
set_option maxHeartbeats 1000000 in
theorem below_any (c : CfR) (p : Int) (w : World) (hc : c.Ok w) : Calls Tryd.prog 80 #[.agg (cfV c).toArray, .int .i64 p] w fun e w' => ∃ v', e = .returned (.tuple #[v', tcF c.cf p]) ∧ Own w' w.heap.size 3 v' ((ofP c.cf p (beloTo c.cf p c.gs.l.length)).map (Value.int .i64)) ∧ Below w.heap.size w w' := by
  have F := FLm.of grV_len (by decide) hc.grd
  have hgf := hc.gfew
  refine calls_own2 (n := 41) Tryd.func80 rfl Tryd.ntmps80 [.x (.g [.v (.int .i64 c.dim), .v (.slice c.ps.A c.ps.l.length c.ps.c), .v (.slice c.gs.A c.gs.l.length c.gs.c), .v (.int .i64 c.least), .v (.int .i64 c.term)]), .x (.a (.v (.int .i64 p)))] (by simp) 3 (.i64 (ofP c.cf p (beloTo c.cf p c.gs.l.length))) (tcF c.cf p) (fun _ => rfl) ?_
  simp (config := { maxSteps := 1000000 }) only [undef, push_cast, ↓Int.toNat_natCast, ↓Int.cast_ofNat_Int, Int.cast_ofNat_Int, ↓reduceIte, reduceCtorEq, Nat.reduceEqDiff, Nat.reduceLT, Nat.reduceLeDiff, Nat.reduceAdd, Nat.reduceSub, Nat.reduceMul, Int.reduceNeg, Int.reduceLE, Int.reduceLT, Int.reduceToNat, Int.reduceAdd, Int.reduceSub, Int.reduceMul, Int.reduceEq]
  (repeat (refine And.intro (by first | omega | decide) ?_))
  refine callG_v rfl cb87 rfl (checkTR c p hc) (dOk_lt rfl) ?_
  rcases tcF_of c.cf p with ⟨h1, h2⟩ | ⟨h2, n, h1⟩
  · have ho : ofP c.cf p (beloTo c.cf p c.gs.l.length) = beloTo c.cf p c.gs.l.length := by unfold ofP; rw [if_pos h2]
    have hcf := (isP_st h2).1
    have hst : StOk c.ps.l := cfF_st hcf
    have hpl := cfF_groups hcf
    simp (config := { maxSteps := 1000000 }) only [h1, ho, undef, push_cast, ↓Int.toNat_natCast, ↓Int.cast_ofNat_Int, Int.cast_ofNat_Int, ↓reduceIte, reduceCtorEq, Nat.reduceEqDiff, Nat.reduceLT, Nat.reduceLeDiff, Nat.reduceAdd, Nat.reduceSub, Nat.reduceMul, Int.reduceNeg, Int.reduceLE, Int.reduceLT, Int.reduceToNat, Int.reduceAdd, Int.reduceSub, Int.reduceMul, Int.reduceEq]
    refine loop_ghost 7 3 (.i64 []) rfl rfl trivial (by simp (config := { maxSteps := 1000000 }) only [undef, push_cast, ↓Int.toNat_natCast, ↓Int.cast_ofNat_Int, Int.cast_ofNat_Int, ↓reduceIte, reduceCtorEq, Nat.reduceEqDiff, Nat.reduceLT, Nat.reduceLeDiff, Nat.reduceAdd, Nat.reduceSub, Nat.reduceMul, Int.reduceNeg, Int.reduceLE, Int.reduceLT, Int.reduceToNat, Int.reduceAdd, Int.reduceSub, Int.reduceMul, Int.reduceEq]) ?_
    simp (config := { maxSteps := 1000000 }) only [undef, push_cast, ↓Int.toNat_natCast, ↓Int.cast_ofNat_Int, Int.cast_ofNat_Int, ↓reduceIte, reduceCtorEq, Nat.reduceEqDiff, Nat.reduceLT, Nat.reduceLeDiff, Nat.reduceAdd, Nat.reduceSub, Nat.reduceMul, Int.reduceNeg, Int.reduceLE, Int.reduceLT, Int.reduceToNat, Int.reduceAdd, Int.reduceSub, Int.reduceMul, Int.reduceEq]
    refine loop_rule (ι := Nat) (fun k => ⟨[(1, .x (.a (.v (.int .i64 p)))), (2, .x (.a (.p 0 0))), (7, .x (.a (.o 1))), (17, .x (.a (.v (.slice c.gs.A c.gs.l.length c.gs.c)))), (18, .x (.a (.v (.int .i64 c.gs.l.length)))), (19, .x (.a (.v (.int .i64 k))))], [.blk 65 (.c [.v (.int .i64 c.dim), .v (.slice c.ps.A c.ps.l.length c.ps.c), .v (.slice c.gs.A c.gs.l.length c.gs.c), .v (.int .i64 c.least), .v (.int .i64 c.term)]), .own 3 (.i64 (beloTo c.cf p k))]⟩) (fun k => k ≤ c.gs.l.length) (fun k => c.gs.l.length - k) 0 [0, 1] (Nat.zero_le _) ?_ ?_
    · have e0 : beloTo c.cf p 0 = [] := by unfold beloTo; rfl
      simp (config := { maxSteps := 1000000 }) only [e0, push_cast, ↓Int.toNat_natCast, ↓Int.cast_ofNat_Int, Int.cast_ofNat_Int, ↓reduceIte, reduceCtorEq, Nat.reduceEqDiff, Nat.reduceLT, Nat.reduceLeDiff, Nat.reduceAdd, Nat.reduceSub, Nat.reduceMul, Int.reduceNeg, Int.reduceLE, Int.reduceLT, Int.reduceToNat, Int.reduceAdd, Int.reduceSub, Int.reduceMul, Int.reduceEq]
    intro k hk
    by_cases hlt : (k : Int) < c.gs.l.length
    · have hil : k < c.gs.l.length := by omega
      have i0 : (0 : Int) ≤ k := by omega
      obtain ⟨w1, w2⟩ := F.whole k hil
      have hA := F.some_ (by omega)
      have hs := beloTo_succ (c := c.cf) (p := p) (k := k) (by show k < (c.gs.l.map GrR.gr).length; simpa using hil)
      rw [show ix c.cf.groups k = (ix c.gs.l k).gr from ix_map' GrR.gr c.gs.l hil] at hs
      have hl := beloTo_len c.cf p k
      have gok := hc.ids _ (ix_mem hil)
      have gpl := hpl (ix c.gs.l k).gr (List.mem_map_of_mem (ix_mem hil))
      have nx : (k : Int) + 1 ≤ 9223372036854775807 := by omega
      generalize ix c.gs.l k = g at *
      have gpl : 0 < g.place ∧ g.place < (c.ps.l.length : Int) := gpl
      have w1 : rawL w (pAdd c.gs.A (k * 3)) 3 0 = [.v (.int .i64 g.place), .v (.slice g.ids.A g.ids.l.length g.ids.c), .v (.int .i64 g.need)] := w1
      have hs : beloTo c.cf p (k + 1) = if g.place = p ∨ p ∈ abF c.ps.l g.place.toNat then eitherF (beloTo c.cf p k) g.ids.l else beloTo c.cf p k := hs
      by_cases h : g.place = p
      · rw [if_pos (.inl h)] at hs
        simp (config := { maxSteps := 1000000 }) only [hlt, i0, w1, w2, hA, h, pAdd_add, pAdd_isSome, undef, push_cast, ↓Int.toNat_natCast, ↓Int.cast_ofNat_Int, Int.cast_ofNat_Int, ↓reduceIte, reduceCtorEq, Nat.reduceEqDiff, Nat.reduceLT, Nat.reduceLeDiff, Nat.reduceAdd, Nat.reduceSub, Nat.reduceMul, Int.reduceNeg, Int.reduceLE, Int.reduceLT, Int.reduceToNat, Int.reduceAdd, Int.reduceSub, Int.reduceMul, Int.reduceEq]
        (repeat (refine And.intro (by first | omega | decide) ?_))
        refine callG_x rfl cb86 rfl (eitherK (by omega) gok.few (shows_own rfl fun _ => rfl) (shows_raw gok.rd _ _ (by simp) gok.len) (by simp only [push_cast, ↓Int.toNat_natCast, ↓Int.cast_ofNat_Int, Int.cast_ofNat_Int, ↓reduceIte, reduceCtorEq, Nat.reduceEqDiff, Nat.reduceLT, Nat.reduceLeDiff, Nat.reduceAdd, Nat.reduceSub, Nat.reduceMul, Int.reduceNeg, Int.reduceLE, Int.reduceLT, Int.reduceToNat, Int.reduceAdd, Int.reduceSub, Int.reduceMul, Int.reduceEq])) (dOk_lt rfl) (by simp only [push_cast, ↓Int.toNat_natCast, ↓Int.cast_ofNat_Int, Int.cast_ofNat_Int, ↓reduceIte, reduceCtorEq, Nat.reduceEqDiff, Nat.reduceLT, Nat.reduceLeDiff, Nat.reduceAdd, Nat.reduceSub, Nat.reduceMul, Int.reduceNeg, Int.reduceLE, Int.reduceLT, Int.reduceToNat, Int.reduceAdd, Int.reduceSub, Int.reduceMul, Int.reduceEq]) ?_
        simp (config := { maxSteps := 1000000 }) only [nx, undef, push_cast, ↓Int.toNat_natCast, ↓Int.cast_ofNat_Int, Int.cast_ofNat_Int, ↓reduceIte, reduceCtorEq, Nat.reduceEqDiff, Nat.reduceLT, Nat.reduceLeDiff, Nat.reduceAdd, Nat.reduceSub, Nat.reduceMul, Int.reduceNeg, Int.reduceLE, Int.reduceLT, Int.reduceToNat, Int.reduceAdd, Int.reduceSub, Int.reduceMul, Int.reduceEq]
        (repeat (refine And.intro (by first | omega | decide) ?_))
        refine loopK_normal (k + 1) [0, 3] (by show k + 1 ≤ _; omega) (by show c.gs.l.length - (k + 1) < c.gs.l.length - k; omega) ?_
        simp (config := { maxSteps := 1000000 }) only [hs, push_cast, ↓Int.toNat_natCast, ↓Int.cast_ofNat_Int, Int.cast_ofNat_Int, ↓reduceIte, reduceCtorEq, Nat.reduceEqDiff, Nat.reduceLT, Nat.reduceLeDiff, Nat.reduceAdd, Nat.reduceSub, Nat.reduceMul, Int.reduceNeg, Int.reduceLE, Int.reduceLT, Int.reduceToNat, Int.reduceAdd, Int.reduceSub, Int.reduceMul, Int.reduceEq]
        done
      · obtain ⟨G, hG⟩ : ∃ G : Nat, g.place = G := ⟨g.place.toNat, by omega⟩
        rw [hG, Int.toNat_natCast] at hs
        rw [hG] at w1 gpl h
        have hal : (abF c.ps.l G).length ≤ 1000000 := by
          rw [abF_up hst (by omega)]
          have := upF_len hst c.ps.l.length (ix c.ps.l G).parent (by
            have := hst.up G (by omega) (by omega); omega) (by
            have := hst.up G (by omega) (by omega); omega)
          have := hst.most
          omega
        simp (config := { maxSteps := 1000000 }) only [hlt, i0, w1, w2, hA, h, pAdd_add, pAdd_isSome, undef, push_cast, ↓Int.toNat_natCast, ↓Int.cast_ofNat_Int, Int.cast_ofNat_Int, ↓reduceIte, reduceCtorEq, Nat.reduceEqDiff, Nat.reduceLT, Nat.reduceLeDiff, Nat.reduceAdd, Nat.reduceSub, Nat.reduceMul, Int.reduceNeg, Int.reduceLE, Int.reduceLT, Int.reduceToNat, Int.reduceAdd, Int.reduceSub, Int.reduceMul, Int.reduceEq]
        (repeat (refine And.intro (by first | omega | decide) ?_))
        refine callG_x rfl cb88 rfl (aboveR c G hc hst (by omega) (by simp only [push_cast, ↓Int.toNat_natCast, ↓Int.cast_ofNat_Int, Int.cast_ofNat_Int, ↓reduceIte, reduceCtorEq, Nat.reduceEqDiff, Nat.reduceLT, Nat.reduceLeDiff, Nat.reduceAdd, Nat.reduceSub, Nat.reduceMul, Int.reduceNeg, Int.reduceLE, Int.reduceLT, Int.reduceToNat, Int.reduceAdd, Int.reduceSub, Int.reduceMul, Int.reduceEq])) (dOk_lt rfl) (by simp only [push_cast, ↓Int.toNat_natCast, ↓Int.cast_ofNat_Int, Int.cast_ofNat_Int, ↓reduceIte, reduceCtorEq, Nat.reduceEqDiff, Nat.reduceLT, Nat.reduceLeDiff, Nat.reduceAdd, Nat.reduceSub, Nat.reduceMul, Int.reduceNeg, Int.reduceLE, Int.reduceLT, Int.reduceToNat, Int.reduceAdd, Int.reduceSub, Int.reduceMul, Int.reduceEq]) ?_
        simp (config := { maxSteps := 1000000 }) only [undef, push_cast, ↓Int.toNat_natCast, ↓Int.cast_ofNat_Int, Int.cast_ofNat_Int, ↓reduceIte, reduceCtorEq, Nat.reduceEqDiff, Nat.reduceLT, Nat.reduceLeDiff, Nat.reduceAdd, Nat.reduceSub, Nat.reduceMul, Int.reduceNeg, Int.reduceLE, Int.reduceLT, Int.reduceToNat, Int.reduceAdd, Int.reduceSub, Int.reduceMul, Int.reduceEq]
        (repeat (refine And.intro (by first | omega | decide) ?_))
        refine callG_v rfl cb123 rfl (containsNK p hal (shows_own rfl fun _ => rfl)) (dOk_lt rfl) ?_
        by_cases hm : p ∈ abF c.ps.l G
        · have hb : memB p (abF c.ps.l G) = true := by unfold memB; exact decide_eq_true hm
          rw [if_pos (.inr hm)] at hs
          simp (config := { maxSteps := 1000000 }) only [hb, undef, push_cast, ↓Int.toNat_natCast, ↓Int.cast_ofNat_Int, Int.cast_ofNat_Int, ↓reduceIte, reduceCtorEq, Nat.reduceEqDiff, Nat.reduceLT, Nat.reduceLeDiff, Nat.reduceAdd, Nat.reduceSub, Nat.reduceMul, Int.reduceNeg, Int.reduceLE, Int.reduceLT, Int.reduceToNat, Int.reduceAdd, Int.reduceSub, Int.reduceMul, Int.reduceEq]
          (repeat (refine And.intro (by first | omega | decide) ?_))
          refine callG_x rfl cb86 rfl (eitherK (by omega) gok.few (shows_own rfl fun _ => rfl) (shows_raw gok.rd _ _ (by simp) gok.len) (by simp only [push_cast, ↓Int.toNat_natCast, ↓Int.cast_ofNat_Int, Int.cast_ofNat_Int, ↓reduceIte, reduceCtorEq, Nat.reduceEqDiff, Nat.reduceLT, Nat.reduceLeDiff, Nat.reduceAdd, Nat.reduceSub, Nat.reduceMul, Int.reduceNeg, Int.reduceLE, Int.reduceLT, Int.reduceToNat, Int.reduceAdd, Int.reduceSub, Int.reduceMul, Int.reduceEq])) (dOk_lt rfl) (by simp only [push_cast, ↓Int.toNat_natCast, ↓Int.cast_ofNat_Int, Int.cast_ofNat_Int, ↓reduceIte, reduceCtorEq, Nat.reduceEqDiff, Nat.reduceLT, Nat.reduceLeDiff, Nat.reduceAdd, Nat.reduceSub, Nat.reduceMul, Int.reduceNeg, Int.reduceLE, Int.reduceLT, Int.reduceToNat, Int.reduceAdd, Int.reduceSub, Int.reduceMul, Int.reduceEq]) ?_
          simp (config := { maxSteps := 1000000 }) only [nx, undef, push_cast, ↓Int.toNat_natCast, ↓Int.cast_ofNat_Int, Int.cast_ofNat_Int, ↓reduceIte, reduceCtorEq, Nat.reduceEqDiff, Nat.reduceLT, Nat.reduceLeDiff, Nat.reduceAdd, Nat.reduceSub, Nat.reduceMul, Int.reduceNeg, Int.reduceLE, Int.reduceLT, Int.reduceToNat, Int.reduceAdd, Int.reduceSub, Int.reduceMul, Int.reduceEq]
          (repeat (refine And.intro (by first | omega | decide) ?_))
          refine loopK_normal (k + 1) [0, 4] (by show k + 1 ≤ _; omega) (by show c.gs.l.length - (k + 1) < c.gs.l.length - k; omega) ?_
          simp (config := { maxSteps := 1000000 }) only [hs, push_cast, ↓Int.toNat_natCast, ↓Int.cast_ofNat_Int, Int.cast_ofNat_Int, ↓reduceIte, reduceCtorEq, Nat.reduceEqDiff, Nat.reduceLT, Nat.reduceLeDiff, Nat.reduceAdd, Nat.reduceSub, Nat.reduceMul, Int.reduceNeg, Int.reduceLE, Int.reduceLT, Int.reduceToNat, Int.reduceAdd, Int.reduceSub, Int.reduceMul, Int.reduceEq]
          done
        · have hb : memB p (abF c.ps.l G) = false := by unfold memB; exact decide_eq_false hm
          rw [if_neg (by intro e; rcases e with e | e; exact h e; exact hm e)] at hs
          simp (config := { maxSteps := 1000000 }) only [hb, nx, undef, push_cast, ↓Int.toNat_natCast, ↓Int.cast_ofNat_Int, Int.cast_ofNat_Int, ↓reduceIte, reduceCtorEq, Nat.reduceEqDiff, Nat.reduceLT, Nat.reduceLeDiff, Nat.reduceAdd, Nat.reduceSub, Nat.reduceMul, Int.reduceNeg, Int.reduceLE, Int.reduceLT, Int.reduceToNat, Int.reduceAdd, Int.reduceSub, Int.reduceMul, Int.reduceEq]
          (repeat (refine And.intro (by first | omega | decide) ?_))
          refine loopK_normal (k + 1) [0, 1] (by show k + 1 ≤ _; omega) (by show c.gs.l.length - (k + 1) < c.gs.l.length - k; omega) ?_
          simp (config := { maxSteps := 1000000 }) only [hs, push_cast, ↓Int.toNat_natCast, ↓Int.cast_ofNat_Int, Int.cast_ofNat_Int, ↓reduceIte, reduceCtorEq, Nat.reduceEqDiff, Nat.reduceLT, Nat.reduceLeDiff, Nat.reduceAdd, Nat.reduceSub, Nat.reduceMul, Int.reduceNeg, Int.reduceLE, Int.reduceLT, Int.reduceToNat, Int.reduceAdd, Int.reduceSub, Int.reduceMul, Int.reduceEq]
          done
    · obtain rfl : k = c.gs.l.length := by omega
      simp (config := { maxSteps := 1000000 }) only [hlt, undef, push_cast, ↓Int.toNat_natCast, ↓Int.cast_ofNat_Int, Int.cast_ofNat_Int, ↓reduceIte, reduceCtorEq, Nat.reduceEqDiff, Nat.reduceLT, Nat.reduceLeDiff, Nat.reduceAdd, Nat.reduceSub, Nat.reduceMul, Int.reduceNeg, Int.reduceLE, Int.reduceLT, Int.reduceToNat, Int.reduceAdd, Int.reduceSub, Int.reduceMul, Int.reduceEq]
      done
  · have ho : ofP c.cf p (beloTo c.cf p c.gs.l.length) = [] := by unfold ofP; rw [h2]; rfl
    simp (config := { maxSteps := 1000000 }) only [h1, ho, undef, push_cast, ↓Int.toNat_natCast, ↓Int.cast_ofNat_Int, Int.cast_ofNat_Int, ↓reduceIte, reduceCtorEq, Nat.reduceEqDiff, Nat.reduceLT, Nat.reduceLeDiff, Nat.reduceAdd, Nat.reduceSub, Nat.reduceMul, Int.reduceNeg, Int.reduceLE, Int.reduceLT, Int.reduceToNat, Int.reduceAdd, Int.reduceSub, Int.reduceMul, Int.reduceEq]
    done
theorem belowK {w0 : World} {hp : List Res} {s : Sv} {c : CfS} (p : Int) (h : ShowsCf w0 hp s c) (hbr : ∀ r ∈ hp, Res.bnd hp.length r) : CallOK Tryd.prog w0 No 80 [s, .x (.a (.v (.int .i64 p)))] hp (.t [.a (.o hp.length), .a (.v (tcF c p))]) (hp ++ [.own 3 (.i64 (ofP c p (beloTo c p c.groups.length)))]) := callOK_own2 hbr trivial fun γ w hS => by
  obtain ⟨a, e, h1, rfl⟩ := h γ w hS
  show Calls _ _ #[s.val γ, _] w _
  rw [e, show a.cf.groups.length = a.gs.l.length from List.length_map ..]
  exact below_any a p w h1
end
end Go.Proofs.YtiaeollemmkclaaDoor
