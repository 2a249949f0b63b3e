import Derived.Test.YtiaeollemmkclaaDoorCf3
/- Layer 21: conf.needed. -/
namespace Go.Proofs.YtiaeollemmkclaaDoor
open Go.RowKit
set_option linter.unusedSimpArgs false
set_option linter.unusedVariables false
/-- How many places stand right below each, of so many places behind the first one. -/
def beTo (l : List PlS) (k : Nat) : List Int := ((l.drop 1).take k).foldl beStep (List.replicate l.length 0)
theorem beTo_zero (l : List PlS) : beTo l 0 = List.replicate l.length 0 := rfl
theorem beTo_succ {l : List PlS} {k : Nat} (h : k + 1 < l.length) : beTo l (k + 1) = (beTo l k).set (ix l (k + 1)).parent.toNat (ix (beTo l k) (ix l (k + 1)).parent.toNat + 1) := by
  unfold beTo
  rw [List.take_add_one, List.getElem?_drop, Nat.add_comm 1 k, List.getElem?_eq_getElem h, Option.toList_some, List.foldl_append, List.foldl_cons, List.foldl_nil, ix, List.getD_eq_getElem?_getD, List.getElem?_eq_getElem h]
  rfl
theorem beTo_all (l : List PlS) : beTo l (l.length - 1) = beF l := by
  unfold beTo beF
  rw [List.take_of_length_le (by simp)]
theorem beTo_len (l : List PlS) : ∀ k, k < l.length → (beTo l k).length = l.length
  | 0, _ => by rw [beTo_zero]; simp
  | k + 1, h => by rw [beTo_succ h, List.length_set, beTo_len l k (by omega)]
theorem beTo_bd (l : List PlS) (j : Nat) : ∀ k, k < l.length → 0 ≤ ix (beTo l k) j ∧ ix (beTo l k) j ≤ k
  | 0, _ => by rw [beTo_zero, ix_rep]; decide
  | k + 1, h => by
    rw [beTo_succ h]
    have h1 := beTo_bd l j k (by omega)
    have hl := beTo_len l k (by omega)
    by_cases e : (ix l (k + 1)).parent.toNat = j
    · subst e
      have h2 := beTo_bd l (ix l (k + 1)).parent.toNat k (by omega)
      by_cases hb : (ix l (k + 1)).parent.toNat < (beTo l k).length
      · rw [ix_set hb]; omega
      · rw [List.set_eq_of_length_le (by omega)]; omega
    · rw [ix_set_ne e]; omega
attribute [local irreducible] Callable CallOK CallG CallM DrawG LoopG symR symM
attribute [local irreducible] wiF eqI idxP atF beTo neGo
section
set_option maxRecDepth 100000 in
set_option maxHeartbeats 1000000 in
theorem needed_any (c : CfR) (w : World) (hc : c.Ok w) (hst : StOk c.ps.l) : Calls Tryd.prog 78 #[.agg (cfV c).toArray] w fun e w' => e = .returned (.bool (neF c.cf)) ∧ Below w.heap.size w w' := by
  have F := FLm.of plV_len (by decide) hc.prd
  have hgf := hc.gfew
  have hgl := hc.glen
  have hpl := hc.plen
  have n2 := hst.least
  have n16 := hst.most
  refine calls_v (n := 60) Tryd.func78 rfl Tryd.ntmps78 [.x (.g [.v (.int .i64 c.dim), .v (.slice c.ps.A c.ps.l.length c.ps.c), .v (.slice c.gs.A c.gs.l.length c.gs.c), .v (.int .i64 c.least), .v (.int .i64 c.term)])] (by simp) (.x (.a (.v (.bool (neF c.cf))))) (fun _ => rfl) ?_
  obtain ⟨q, hq⟩ : ∃ q, q = neF c.cf := ⟨_, rfl⟩
  rw [← hq]
  have hq : q = neGo c.cf (beF c.ps.l) c.ps.l.length 0 := hq
  have hA := F.some_ (by omega)
  have k1 : (c.ps.l.length : Int) ≤ 2 ^ 63 - 1 := by omega
  have k2 : c.ps.l.length ≤ 2 ^ 63 - 1 := by omega
  have k3 : c.ps.l.length * 8 ≤ 140737488355328 := by omega
  have l1 : (1 : Int) ≤ c.ps.l.length := by omega
  have l2 : (c.ps.l.length : Int) ≤ c.ps.c := by omega
  have hcut : pCutN c.ps.A 1 c.ps.c 3 = pAdd c.ps.A 3 := if_neg (by omega)
  have lc : (((c.ps.l.length - 1 : Nat)) : Int) = (c.ps.l.length : Int) - 1 := by omega
  simp (config := { maxSteps := 1000000 }) only [k1, k2, k3, l1, l2, hcut, hA, undef, push_cast, ↓Int.toNat_natCast, ↓Int.cast_ofNat_Int, Int.cast_ofNat_Int, ↓reduceIte, reduceCtorEq, Nat.reduceEqDiff, Nat.reduceLT, Nat.reduceLeDiff, Nat.reduceAdd, Nat.reduceSub, Nat.reduceMul, Int.reduceNeg, Int.reduceLE, Int.reduceLT, Int.reduceToNat, Int.reduceAdd, Int.reduceSub, Int.reduceMul, Int.reduceEq]
  (repeat (refine And.intro (by first | omega | decide) ?_))
  refine loop_rule (ι := Nat) (fun k => ⟨[(1, .x (.a (.p 0 0))), (3, .x (.a (.o 1))), (16, .x (.a (.v (.slice (pAdd c.ps.A 3) (c.ps.l.length - 1) (c.ps.c - 1))))), (17, .x (.a (.v (.int .i64 ((c.ps.l.length - 1 : Nat) : Int))))), (18, .x (.a (.v (.int .i64 k))))],
      [.blk 65 (.c [.v (.int .i64 c.dim), .v (.slice c.ps.A c.ps.l.length c.ps.c), .v (.slice c.gs.A c.gs.l.length c.gs.c), .v (.int .i64 c.least), .v (.int .i64 c.term)]), .own 3 (.i64 (beTo c.ps.l k))]⟩) (fun k => k + 1 ≤ c.ps.l.length) (fun k => c.ps.l.length - k) 0 [0, 1] (by omega) ?_ ?_
  · have e0 := beTo_zero c.ps.l
    simp (config := { maxSteps := 1000000 }) only [e0, push_cast, ↓Int.toNat_natCast, ↓Int.cast_ofNat_Int, Int.cast_ofNat_Int, ↓reduceIte, reduceCtorEq, Nat.reduceEqDiff, Nat.reduceLT, Nat.reduceLeDiff, Nat.reduceAdd, Nat.reduceSub, Nat.reduceMul, Int.reduceNeg, Int.reduceLE, Int.reduceLT, Int.reduceToNat, Int.reduceAdd, Int.reduceSub, Int.reduceMul, Int.reduceEq]
  intro k hk
  by_cases hlt : (k : Int) < ((c.ps.l.length - 1 : Nat) : Int)
  · have hkl : k + 1 < c.ps.l.length := by omega
    have i0 : (0 : Int) ≤ k := by omega
    obtain ⟨w1, w2⟩ := F.whole (k + 1) hkl
    rw [show (k + 1) * 3 = 3 + k * 3 by omega] at w1 w2
    have hup := hst.up (k + 1) (by omega) hkl
    have e1 := beTo_succ hkl
    have el := beTo_len c.ps.l k (by omega)
    generalize ix c.ps.l (k + 1) = p at *
    have w1 : rawL w (pAdd c.ps.A (3 + k * 3)) 3 0 = [.v (.int .i64 p.parent), .v (.int .i64 p.spare), .v (.int .i64 p.need)] := w1
    obtain ⟨P, hP⟩ : ∃ P : Nat, p.parent = P := ⟨p.parent.toNat, by omega⟩
    have eb := beTo_bd c.ps.l P k (by omega)
    rw [hP, Int.toNat_natCast] at e1
    rw [hP] at hup w1
    have P0 : (0 : Int) ≤ P := by omega
    have P1 : (P : Int) < (beTo c.ps.l k).length := by omega
    have vP : -9223372036854775808 ≤ ix (beTo c.ps.l k) P + 1 ∧ ix (beTo c.ps.l k) P + 1 ≤ 9223372036854775807 := by omega
    have nx : (k : Int) + 1 ≤ 9223372036854775807 := by omega
    simp (config := { maxSteps := 1000000 }) only [hlt, i0, w1, w2, hA, pAdd_add, pAdd_isSome, P0, P1, vP, undef, push_cast, ↓Int.toNat_natCast, ↓Int.cast_ofNat_Int, Int.cast_ofNat_Int, ↓reduceIte, reduceCtorEq, Nat.reduceEqDiff, Nat.reduceLT, Nat.reduceLeDiff, Nat.reduceAdd, Nat.reduceSub, Nat.reduceMul, Int.reduceNeg, Int.reduceLE, Int.reduceLT, Int.reduceToNat, Int.reduceAdd, Int.reduceSub, Int.reduceMul, Int.reduceEq]
    (repeat (refine And.intro (by first | omega | decide) ?_))
    refine loopK_normal (k + 1) [0, 1] (by show k + 1 + 1 ≤ _; omega) (by show c.ps.l.length - (k + 1) < c.ps.l.length - k; omega) ?_
    simp (config := { maxSteps := 1000000 }) only [e1, push_cast, ↓Int.toNat_natCast, ↓Int.cast_ofNat_Int, Int.cast_ofNat_Int, ↓reduceIte, reduceCtorEq, Nat.reduceEqDiff, Nat.reduceLT, Nat.reduceLeDiff, Nat.reduceAdd, Nat.reduceSub, Nat.reduceMul, Int.reduceNeg, Int.reduceLE, Int.reduceLT, Int.reduceToNat, Int.reduceAdd, Int.reduceSub, Int.reduceMul, Int.reduceEq]
    done
  · obtain rfl : k = c.ps.l.length - 1 := by omega
    have eb := beTo_all c.ps.l
    have bl := beTo_len c.ps.l _ (show c.ps.l.length - 1 < c.ps.l.length by omega)
    have bb := fun j => beTo_bd c.ps.l j _ (show c.ps.l.length - 1 < c.ps.l.length by omega)
    rw [eb] at bl bb
    simp (config := { maxSteps := 1000000 }) only [hlt, eb, undef, push_cast, ↓Int.toNat_natCast, ↓Int.cast_ofNat_Int, Int.cast_ofNat_Int, ↓reduceIte, reduceCtorEq, Nat.reduceEqDiff, Nat.reduceLT, Nat.reduceLeDiff, Nat.reduceAdd, Nat.reduceSub, Nat.reduceMul, Int.reduceNeg, Int.reduceLE, Int.reduceLT, Int.reduceToNat, Int.reduceAdd, Int.reduceSub, Int.reduceMul, Int.reduceEq]
    refine loop_rule (ι := Nat) (fun i => ⟨[(1, .x (.a (.p 0 0))), (3, .x (.a (.o 1))), (31, .x (.a (.v (.slice c.ps.A c.ps.l.length c.ps.c)))), (32, .x (.a (.v (.int .i64 c.ps.l.length)))), (33, .x (.a (.v (.int .i64 i))))],
      [.blk 65 (.c [.v (.int .i64 c.dim), .v (.slice c.ps.A c.ps.l.length c.ps.c), .v (.slice c.gs.A c.gs.l.length c.gs.c), .v (.int .i64 c.least), .v (.int .i64 c.term)]), .own 3 (.i64 (beF c.ps.l))]⟩) (fun i => i ≤ c.ps.l.length ∧ q = neGo c.cf (beF c.ps.l) (c.ps.l.length - i) i) (fun i => c.ps.l.length - i) 0 [0, 1] ⟨Nat.zero_le _, hq⟩ ?_ ?_
    · simp (config := { maxSteps := 1000000 }) only [push_cast, ↓Int.toNat_natCast, ↓Int.cast_ofNat_Int, Int.cast_ofNat_Int, ↓reduceIte, reduceCtorEq, Nat.reduceEqDiff, Nat.reduceLT, Nat.reduceLeDiff, Nat.reduceAdd, Nat.reduceSub, Nat.reduceMul, Int.reduceNeg, Int.reduceLE, Int.reduceLT, Int.reduceToNat, Int.reduceAdd, Int.reduceSub, Int.reduceMul, Int.reduceEq]
    rintro i ⟨hi, hg⟩
    by_cases hlt2 : (i : Int) < c.ps.l.length
    · have hil : i < c.ps.l.length := by omega
      have i0 : (0 : Int) ≤ i := by omega
      obtain ⟨w1, w2⟩ := F.whole i hil
      rw [show c.ps.l.length - i = (c.ps.l.length - (i + 1)) + 1 by omega, neGo] at hg
      rw [show c.cf.places = c.ps.l from rfl, show c.cf.groups = c.gs.l.map GrR.gr from rfl] at hg
      generalize ix c.ps.l i = p at *
      have w1 : rawL w (pAdd c.ps.A (i * 3)) 3 0 = [.v (.int .i64 p.parent), .v (.int .i64 p.spare), .v (.int .i64 p.need)] := w1
      have cK : ∀ hp, bview hp[2]? = some (3, .c [.v (.int .i64 (i : Int))]) → CallOK Tryd.prog w No 121 [.x (.a (.v (.slice c.gs.A c.gs.l.length c.gs.c))), .f (.func 122) [.p 2 0]] hp (.x (.a (.v (.bool (atF (c.gs.l.map GrR.gr) i))))) hp := fun hp h => callOK_v fun γ w' hS => containsG_any c.gs.l c.gs.A c.gs.c _ i w' hgf hgl (rd_later hc.grd hS) (eqPl_needed.pure (vr_sat (vs := [.int .i64 (i : Int)]) hS h rfl))
      have I1 : (i : Int) < (beF c.ps.l).length := by omega
      have nx : (i : Int) + 1 ≤ 9223372036854775807 := by omega
      simp (config := { maxSteps := 1000000 }) only [hlt2, i0, w1, w2, hA, pAdd_add, pAdd_isSome, undef, push_cast, ↓Int.toNat_natCast, ↓Int.cast_ofNat_Int, Int.cast_ofNat_Int, ↓reduceIte, reduceCtorEq, Nat.reduceEqDiff, Nat.reduceLT, Nat.reduceLeDiff, Nat.reduceAdd, Nat.reduceSub, Nat.reduceMul, Int.reduceNeg, Int.reduceLE, Int.reduceLT, Int.reduceToNat, Int.reduceAdd, Int.reduceSub, Int.reduceMul, Int.reduceEq]
      (repeat (refine And.intro (by first | omega | decide) ?_))
      refine callG_v rfl cb121 rfl (cK _ rfl) (dOk_lt rfl) ?_
      cases hat : atF (c.gs.l.map GrR.gr) i with
      | true =>
        rw [hat] at hg
        by_cases hb : 0 < ix (beF c.ps.l) i
        · rw [if_pos (by rw [decide_eq_true hb])] at hg
          simp (config := { maxSteps := 1000000 }) only [hat, hb, hg, I1, i0, undef, push_cast, ↓Int.toNat_natCast, ↓Int.cast_ofNat_Int, Int.cast_ofNat_Int, ↓reduceIte, reduceCtorEq, Nat.reduceEqDiff, Nat.reduceLT, Nat.reduceLeDiff, Nat.reduceAdd, Nat.reduceSub, Nat.reduceMul, Int.reduceNeg, Int.reduceLE, Int.reduceLT, Int.reduceToNat, Int.reduceAdd, Int.reduceSub, Int.reduceMul, Int.reduceEq]
          all_goals omega
        · rw [if_neg (by rw [decide_eq_false hb]; decide), if_pos rfl] at hg
          simp (config := { maxSteps := 1000000 }) only [hat, hb, I1, i0, undef, push_cast, ↓Int.toNat_natCast, ↓Int.cast_ofNat_Int, Int.cast_ofNat_Int, ↓reduceIte, reduceCtorEq, Nat.reduceEqDiff, Nat.reduceLT, Nat.reduceLeDiff, Nat.reduceAdd, Nat.reduceSub, Nat.reduceMul, Int.reduceNeg, Int.reduceLE, Int.reduceLT, Int.reduceToNat, Int.reduceAdd, Int.reduceSub, Int.reduceMul, Int.reduceEq]
          (repeat (refine And.intro (by first | omega | decide) ?_))
          refine callG_v rfl cb75 rfl (withinK _ _ _) (dOk_lt rfl) ?_
          cases hw : wiF p.need 1 1 with
          | true =>
            rw [hw, if_pos rfl] at hg
            simp (config := { maxSteps := 1000000 }) only [hw, nx, undef, push_cast, ↓Int.toNat_natCast, ↓Int.cast_ofNat_Int, Int.cast_ofNat_Int, ↓reduceIte, reduceCtorEq, Nat.reduceEqDiff, Nat.reduceLT, Nat.reduceLeDiff, Nat.reduceAdd, Nat.reduceSub, Nat.reduceMul, Int.reduceNeg, Int.reduceLE, Int.reduceLT, Int.reduceToNat, Int.reduceAdd, Int.reduceSub, Int.reduceMul, Int.reduceEq]
            (repeat (refine And.intro (by first | omega | decide) ?_))
            refine loopK_normal (i + 1) [0, 1] ⟨by omega, hg⟩ (by omega) ?_
            simp (config := { maxSteps := 1000000 }) only [push_cast, ↓Int.toNat_natCast, ↓Int.cast_ofNat_Int, Int.cast_ofNat_Int, ↓reduceIte, reduceCtorEq, Nat.reduceEqDiff, Nat.reduceLT, Nat.reduceLeDiff, Nat.reduceAdd, Nat.reduceSub, Nat.reduceMul, Int.reduceNeg, Int.reduceLE, Int.reduceLT, Int.reduceToNat, Int.reduceAdd, Int.reduceSub, Int.reduceMul, Int.reduceEq]
            done
          | false =>
            rw [hw, if_neg (by decide)] at hg
            simp (config := { maxSteps := 1000000 }) only [hw, hg, undef, push_cast, ↓Int.toNat_natCast, ↓Int.cast_ofNat_Int, Int.cast_ofNat_Int, ↓reduceIte, reduceCtorEq, Nat.reduceEqDiff, Nat.reduceLT, Nat.reduceLeDiff, Nat.reduceAdd, Nat.reduceSub, Nat.reduceMul, Int.reduceNeg, Int.reduceLE, Int.reduceLT, Int.reduceToNat, Int.reduceAdd, Int.reduceSub, Int.reduceMul, Int.reduceEq]
            done
      | false =>
        rw [hat] at hg
        by_cases hb : 0 < ix (beF c.ps.l) i
        · rw [if_neg (by rw [decide_eq_true hb]; decide)] at hg
          simp only [Bool.false_eq_true, ↓reduceIte] at hg
          simp (config := { maxSteps := 1000000 }) only [hat, hb, I1, i0, undef, push_cast, ↓Int.toNat_natCast, ↓Int.cast_ofNat_Int, Int.cast_ofNat_Int, ↓reduceIte, reduceCtorEq, Nat.reduceEqDiff, Nat.reduceLT, Nat.reduceLeDiff, Nat.reduceAdd, Nat.reduceSub, Nat.reduceMul, Int.reduceNeg, Int.reduceLE, Int.reduceLT, Int.reduceToNat, Int.reduceAdd, Int.reduceSub, Int.reduceMul, Int.reduceEq]
          (repeat (refine And.intro (by first | omega | decide) ?_))
          refine callG_v rfl cb75 rfl (withinK _ _ _) (dOk_lt rfl) ?_
          cases hw : wiF p.need 1 (ix (beF c.ps.l) i) with
          | true =>
            rw [hw, if_pos rfl] at hg
            simp (config := { maxSteps := 1000000 }) only [hw, nx, undef, push_cast, ↓Int.toNat_natCast, ↓Int.cast_ofNat_Int, Int.cast_ofNat_Int, ↓reduceIte, reduceCtorEq, Nat.reduceEqDiff, Nat.reduceLT, Nat.reduceLeDiff, Nat.reduceAdd, Nat.reduceSub, Nat.reduceMul, Int.reduceNeg, Int.reduceLE, Int.reduceLT, Int.reduceToNat, Int.reduceAdd, Int.reduceSub, Int.reduceMul, Int.reduceEq]
            (repeat (refine And.intro (by first | omega | decide) ?_))
            refine loopK_normal (i + 1) [0, 1] ⟨by omega, hg⟩ (by omega) ?_
            simp (config := { maxSteps := 1000000 }) only [push_cast, ↓Int.toNat_natCast, ↓Int.cast_ofNat_Int, Int.cast_ofNat_Int, ↓reduceIte, reduceCtorEq, Nat.reduceEqDiff, Nat.reduceLT, Nat.reduceLeDiff, Nat.reduceAdd, Nat.reduceSub, Nat.reduceMul, Int.reduceNeg, Int.reduceLE, Int.reduceLT, Int.reduceToNat, Int.reduceAdd, Int.reduceSub, Int.reduceMul, Int.reduceEq]
            done
          | false =>
            rw [hw, if_neg (by decide)] at hg
            simp (config := { maxSteps := 1000000 }) only [hw, hg, undef, push_cast, ↓Int.toNat_natCast, ↓Int.cast_ofNat_Int, Int.cast_ofNat_Int, ↓reduceIte, reduceCtorEq, Nat.reduceEqDiff, Nat.reduceLT, Nat.reduceLeDiff, Nat.reduceAdd, Nat.reduceSub, Nat.reduceMul, Int.reduceNeg, Int.reduceLE, Int.reduceLT, Int.reduceToNat, Int.reduceAdd, Int.reduceSub, Int.reduceMul, Int.reduceEq]
            done
        · rw [if_pos (by rw [decide_eq_false hb])] at hg
          simp (config := { maxSteps := 1000000 }) only [hat, hb, hg, I1, i0, undef, push_cast, ↓Int.toNat_natCast, ↓Int.cast_ofNat_Int, Int.cast_ofNat_Int, ↓reduceIte, reduceCtorEq, Nat.reduceEqDiff, Nat.reduceLT, Nat.reduceLeDiff, Nat.reduceAdd, Nat.reduceSub, Nat.reduceMul, Int.reduceNeg, Int.reduceLE, Int.reduceLT, Int.reduceToNat, Int.reduceAdd, Int.reduceSub, Int.reduceMul, Int.reduceEq]
          all_goals omega
    · obtain rfl : i = c.ps.l.length := by omega
      rw [Nat.sub_self, neGo] at hg
      simp (config := { maxSteps := 1000000 }) only [hlt2, hg, undef, push_cast, ↓Int.toNat_natCast, ↓Int.cast_ofNat_Int, Int.cast_ofNat_Int, ↓reduceIte, reduceCtorEq, Nat.reduceEqDiff, Nat.reduceLT, Nat.reduceLeDiff, Nat.reduceAdd, Nat.reduceSub, Nat.reduceMul, Int.reduceNeg, Int.reduceLE, Int.reduceLT, Int.reduceToNat, Int.reduceAdd, Int.reduceSub, Int.reduceMul, Int.reduceEq]
      done
end
end Go.Proofs.YtiaeollemmkclaaDoor
