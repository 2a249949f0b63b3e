import Derived.Test.YtiaeollemmkclaaDoorTr2
import Derived.Test.YtiaeollemmkclaaDoorVs
/- Layer 22: tree.Nodes; law 22's ints. -/
namespace Go.Proofs.YtiaeollemmkclaaDoor
open Go.RowKit
set_option linter.unusedSimpArgs false
set_option linter.unusedVariables false
/-- The nodes at so many places, and so many of the next one. -/
def spTo (l : List PlS) (k : Nat) : List Int := ((List.range k).flatMap (stepsF l)).map nodeN
def stTo (k s : Nat) : List Int := (List.range s).map fun (t : Nat) => 64 + 4 * (k : Int) + (t : Int)
theorem spTo_all (l : List PlS) : spTo l l.length = (spotsF l).map nodeN := rfl
theorem stTo_succ (k s : Nat) : stTo k (s + 1) = stTo k s ++ [64 + 4 * (k : Int) + (s : Int)] := by
  unfold stTo
  rw [List.range_succ, List.map_append]
  rfl
theorem spTo_succ (l : List PlS) (k : Nat) : spTo l (k + 1) = spTo l k ++ stTo k ((ix l k).spare + 1).toNat := by
  unfold spTo stTo
  rw [List.range_succ, List.flatMap_append, List.map_append, List.flatMap_cons, List.flatMap_nil, List.append_nil]
  congr 1
  unfold stepsF
  rw [List.map_map]
  rfl
theorem stTo_len (k s : Nat) : (stTo k s).length = s := by simp [stTo]
theorem spTo_len {l : List PlS} (h : StOk l) : ∀ k, k ≤ l.length → (spTo l k).length ≤ 3 * k
  | 0, _ => Nat.zero_le _
  | k + 1, hk => by
    rw [spTo_succ, List.length_append, stTo_len]
    have := spTo_len h k (by omega)
    have := h.spare k (by omega)
    omega
theorem clients_len (c : CfS) : (clientsF c).length ≤ 64 := by
  unfold clientsF
  split
  · have := allTo_len c.groups c.groups.length
    rwa [allTo_all] at this
  · exact Nat.zero_le _
attribute [local irreducible] Callable CallOK CallG CallM DrawG LoopG symR symM
attribute [local irreducible] cfF okV clientsF spTo stTo
section
set_option maxRecDepth 100000 in
set_option maxHeartbeats 1000000 in
theorem nodes_any (c : CfR) (w : World) (hc : c.Ok w) (hk : cfF c.cf = true) : Calls Tryd.prog 30 #[.agg (cfV c).toArray] w fun e w' => ∃ v', e = .returned (.tuple #[v', .nilIface]) ∧ Own w' w.heap.size 3 v' ((nodesF c.cf).map (Value.int .i64)) ∧ Below w.heap.size w w' := by
  have F := FLm.of plV_len (by decide) hc.prd
  have hst : StOk c.ps.l := cfF_st hk
  have hm := hst.most
  refine calls_own2 (n := 48) Tryd.func30 rfl Tryd.ntmps30 [.x (.g [.v (.int .i64 c.dim), .v (.slice c.ps.A c.ps.l.length c.ps.c), .v (.slice c.gs.A c.gs.l.length c.gs.c), .v (.int .i64 c.least), .v (.int .i64 c.term)])] (by simp) 3 (.i64 (nodesF c.cf)) .nilIface (fun _ => rfl) ?_
  have hT := okV_true 1
  have hN : nodesF c.cf = clientsF c.cf ++ spTo c.ps.l c.ps.l.length := by unfold nodesF; rw [spTo_all]; rfl
  have hcl := clients_len c.cf
  rw [hN]
  simp (config := { maxSteps := 1000000 }) only [undef, push_cast, ↓Int.toNat_natCast, ↓Int.cast_ofNat_Int, Int.cast_ofNat_Int, ↓reduceIte, reduceCtorEq, Nat.reduceEqDiff, Nat.reduceLT, Nat.reduceLeDiff, Nat.reduceAdd, Nat.reduceSub, Nat.reduceMul, Int.reduceNeg, Int.reduceLE, Int.reduceLT, Int.reduceToNat, Int.reduceAdd, Int.reduceSub, Int.reduceMul, Int.reduceEq]
  (repeat (refine And.intro (by first | omega | decide) ?_))
  refine callG_v rfl cb28 rfl (checkCfR c hc) (dOk_lt rfl) ?_
  simp (config := { maxSteps := 1000000 }) only [hk, hT, undef, push_cast, ↓Int.toNat_natCast, ↓Int.cast_ofNat_Int, Int.cast_ofNat_Int, ↓reduceIte, reduceCtorEq, Nat.reduceEqDiff, Nat.reduceLT, Nat.reduceLeDiff, Nat.reduceAdd, Nat.reduceSub, Nat.reduceMul, Int.reduceNeg, Int.reduceLE, Int.reduceLT, Int.reduceToNat, Int.reduceAdd, Int.reduceSub, Int.reduceMul, Int.reduceEq]
  (repeat (refine And.intro (by first | omega | decide) ?_))
  refine callG_x rfl cb33 rfl (clientsR c hc (by simp only [push_cast, ↓Int.toNat_natCast, ↓Int.cast_ofNat_Int, Int.cast_ofNat_Int, ↓reduceIte, reduceCtorEq, Nat.reduceEqDiff, Nat.reduceLT, Nat.reduceLeDiff, Nat.reduceAdd, Nat.reduceSub, Nat.reduceMul, Int.reduceNeg, Int.reduceLE, Int.reduceLT, Int.reduceToNat, Int.reduceAdd, Int.reduceSub, Int.reduceMul, Int.reduceEq])) (dOk_lt rfl) (by simp only [push_cast, ↓Int.toNat_natCast, ↓Int.cast_ofNat_Int, Int.cast_ofNat_Int, ↓reduceIte, reduceCtorEq, Nat.reduceEqDiff, Nat.reduceLT, Nat.reduceLeDiff, Nat.reduceAdd, Nat.reduceSub, Nat.reduceMul, Int.reduceNeg, Int.reduceLE, Int.reduceLT, Int.reduceToNat, Int.reduceAdd, Int.reduceSub, Int.reduceMul, Int.reduceEq]) ?_
  simp (config := { maxSteps := 1000000 }) only [undef, push_cast, ↓Int.toNat_natCast, ↓Int.cast_ofNat_Int, Int.cast_ofNat_Int, ↓reduceIte, reduceCtorEq, Nat.reduceEqDiff, Nat.reduceLT, Nat.reduceLeDiff, Nat.reduceAdd, Nat.reduceSub, Nat.reduceMul, Int.reduceNeg, Int.reduceLE, Int.reduceLT, Int.reduceToNat, Int.reduceAdd, Int.reduceSub, Int.reduceMul, Int.reduceEq]
  refine loop_rule (ι := Nat) (fun k => ⟨[(5, .x (.a (.o 0))), (19, .x (.a (.v (.slice c.ps.A c.ps.l.length c.ps.c)))), (20, .x (.a (.v (.int .i64 c.ps.l.length)))), (21, .x (.a (.v (.int .i64 k))))], [.own 3 (.i64 (clientsF c.cf ++ spTo c.ps.l k))]⟩) (fun k => k ≤ c.ps.l.length) (fun k => c.ps.l.length - k) 0 [1] (Nat.zero_le _) ?_ ?_
  · have e0 : spTo c.ps.l 0 = [] := by unfold spTo; rfl
    simp (config := { maxSteps := 1000000 }) only [e0, List.append_nil, push_cast, ↓Int.toNat_natCast, ↓Int.cast_ofNat_Int, Int.cast_ofNat_Int, ↓reduceIte, reduceCtorEq, Nat.reduceEqDiff, Nat.reduceLT, Nat.reduceLeDiff, Nat.reduceAdd, Nat.reduceSub, Nat.reduceMul, Int.reduceNeg, Int.reduceLE, Int.reduceLT, Int.reduceToNat, Int.reduceAdd, Int.reduceSub, Int.reduceMul, Int.reduceEq]
    done
  intro k hkl
  by_cases hlt : (k : Int) < c.ps.l.length
  · have hil : k < c.ps.l.length := by omega
    have i0 : (0 : Int) ≤ k := by omega
    obtain ⟨w1, w2⟩ := F.whole k hil
    have hA := F.some_ (by omega)
    have hs := spTo_succ c.ps.l k
    have hl := spTo_len hst k (by omega)
    have hsp := hst.spare k hil
    have nx : (k : Int) + 1 ≤ 9223372036854775807 := by omega
    generalize ix c.ps.l k = x at *
    have w1 : rawL w (pAdd c.ps.A (k * 3)) 3 0 = [.v (.int .i64 x.parent), .v (.int .i64 x.spare), .v (.int .i64 x.need)] := w1
    obtain ⟨m, hm2⟩ : ∃ m : Nat, x.spare + 1 = m := ⟨(x.spare + 1).toNat, by omega⟩
    rw [hm2, Int.toNat_natCast] at hs
    have b0 : -9223372036854775808 ≤ x.spare + 1 ∧ x.spare + 1 ≤ 9223372036854775807 := by omega
    simp (config := { maxSteps := 1000000 }) only [hlt, i0, w1, w2, hA, b0, pAdd_add, pAdd_isSome, undef, push_cast, ↓Int.toNat_natCast, ↓Int.cast_ofNat_Int, Int.cast_ofNat_Int, ↓reduceIte, reduceCtorEq, Nat.reduceEqDiff, Nat.reduceLT, Nat.reduceLeDiff, Nat.reduceAdd, Nat.reduceSub, Nat.reduceMul, Int.reduceNeg, Int.reduceLE, Int.reduceLT, Int.reduceToNat, Int.reduceAdd, Int.reduceSub, Int.reduceMul, Int.reduceEq]
    (repeat (refine And.intro (by first | omega | decide) ?_))
    refine loop_rule (ι := Nat) (fun s => ⟨[(5, .x (.a (.o 0))), (6, .x (.a (.v (.int .i64 k)))), (19, .x (.a (.v (.slice c.ps.A c.ps.l.length c.ps.c)))), (20, .x (.a (.v (.int .i64 c.ps.l.length)))), (21, .x (.a (.v (.int .i64 k)))), (28, .x (.a (.v (.int .i64 (x.spare + 1))))), (29, .x (.a (.v (.int .i64 s))))], [.own 3 (.i64 (clientsF c.cf ++ spTo c.ps.l k ++ stTo k s))]⟩) (fun s => s ≤ m) (fun s => m - s) 0 [0] (Nat.zero_le _) ?_ ?_
    · have e0 : stTo k 0 = [] := by unfold stTo; rfl
      simp (config := { maxSteps := 1000000 }) only [e0, List.append_nil, push_cast, ↓Int.toNat_natCast, ↓Int.cast_ofNat_Int, Int.cast_ofNat_Int, ↓reduceIte, reduceCtorEq, Nat.reduceEqDiff, Nat.reduceLT, Nat.reduceLeDiff, Nat.reduceAdd, Nat.reduceSub, Nat.reduceMul, Int.reduceNeg, Int.reduceLE, Int.reduceLT, Int.reduceToNat, Int.reduceAdd, Int.reduceSub, Int.reduceMul, Int.reduceEq]
      done
    intro s hsm
    by_cases hlt2 : (s : Int) < x.spare + 1
    · have hss := stTo_succ k s
      have hsl := stTo_len k s
      have tl : (clientsF c.cf ++ spTo c.ps.l k ++ stTo k s).length ≤ 200 := by rw [List.length_append, List.length_append]; omega
      have hap : clientsF c.cf ++ spTo c.ps.l k ++ stTo k (s + 1) = clientsF c.cf ++ spTo c.ps.l k ++ stTo k s ++ [64 + 4 * (k : Int) + (s : Int)] := by simp only [hss, List.append_assoc]
      have nx2 : (s : Int) + 1 ≤ 9223372036854775807 := by omega
      generalize clientsF c.cf ++ spTo c.ps.l k ++ stTo k s = L at *
      have b1 : (L.length + 1) * 8 ≤ 140737488355328 := by omega
      have b2 : L.length + 1 ≤ 2 ^ 63 - 1 := by omega
      simp (config := { maxSteps := 1000000 }) only [hlt2, undef, push_cast, ↓Int.toNat_natCast, ↓Int.cast_ofNat_Int, Int.cast_ofNat_Int, ↓reduceIte, reduceCtorEq, Nat.reduceEqDiff, Nat.reduceLT, Nat.reduceLeDiff, Nat.reduceAdd, Nat.reduceSub, Nat.reduceMul, Int.reduceNeg, Int.reduceLE, Int.reduceLT, Int.reduceToNat, Int.reduceAdd, Int.reduceSub, Int.reduceMul, Int.reduceEq]
      (repeat (refine And.intro (by first | omega | decide) ?_))
      refine callG_v rfl cb34 rfl (nodeK k s (by omega)) (dOk_lt rfl) ?_
      simp (config := { maxSteps := 1000000 }) only [b1, b2, nx2, undef, push_cast, ↓Int.toNat_natCast, ↓Int.cast_ofNat_Int, Int.cast_ofNat_Int, ↓reduceIte, reduceCtorEq, Nat.reduceEqDiff, Nat.reduceLT, Nat.reduceLeDiff, Nat.reduceAdd, Nat.reduceSub, Nat.reduceMul, Int.reduceNeg, Int.reduceLE, Int.reduceLT, Int.reduceToNat, Int.reduceAdd, Int.reduceSub, Int.reduceMul, Int.reduceEq]
      (repeat (refine And.intro (by first | omega | decide) ?_))
      refine loopK_normal (s + 1) [2] (by show s + 1 ≤ m; omega) (by show m - (s + 1) < m - s; omega) ?_
      simp (config := { maxSteps := 1000000 }) only [hap, push_cast, ↓Int.toNat_natCast, ↓Int.cast_ofNat_Int, Int.cast_ofNat_Int, ↓reduceIte, reduceCtorEq, Nat.reduceEqDiff, Nat.reduceLT, Nat.reduceLeDiff, Nat.reduceAdd, Nat.reduceSub, Nat.reduceMul, Int.reduceNeg, Int.reduceLE, Int.reduceLT, Int.reduceToNat, Int.reduceAdd, Int.reduceSub, Int.reduceMul, Int.reduceEq]
      done
    · obtain rfl : s = m := by omega
      simp (config := { maxSteps := 1000000 }) only [hlt2, nx, undef, push_cast, ↓Int.toNat_natCast, ↓Int.cast_ofNat_Int, Int.cast_ofNat_Int, ↓reduceIte, reduceCtorEq, Nat.reduceEqDiff, Nat.reduceLT, Nat.reduceLeDiff, Nat.reduceAdd, Nat.reduceSub, Nat.reduceMul, Int.reduceNeg, Int.reduceLE, Int.reduceLT, Int.reduceToNat, Int.reduceAdd, Int.reduceSub, Int.reduceMul, Int.reduceEq]
      (repeat (refine And.intro (by first | omega | decide) ?_))
      refine loopK_normal (k + 1) [0] (by show k + 1 ≤ _; omega) (by show c.ps.l.length - (k + 1) < c.ps.l.length - k; omega) ?_
      simp (config := { maxSteps := 1000000 }) only [hs, List.append_assoc, push_cast, ↓Int.toNat_natCast, ↓Int.cast_ofNat_Int, Int.cast_ofNat_Int, ↓reduceIte, reduceCtorEq, Nat.reduceEqDiff, Nat.reduceLT, Nat.reduceLeDiff, Nat.reduceAdd, Nat.reduceSub, Nat.reduceMul, Int.reduceNeg, Int.reduceLE, Int.reduceLT, Int.reduceToNat, Int.reduceAdd, Int.reduceSub, Int.reduceMul, Int.reduceEq]
      done
  · obtain rfl : k = c.ps.l.length := by omega
    simp (config := { maxSteps := 1000000 }) only [hlt, undef, push_cast, ↓Int.toNat_natCast, ↓Int.cast_ofNat_Int, Int.cast_ofNat_Int, ↓reduceIte, reduceCtorEq, Nat.reduceEqDiff, Nat.reduceLT, Nat.reduceLeDiff, Nat.reduceAdd, Nat.reduceSub, Nat.reduceMul, Int.reduceNeg, Int.reduceLE, Int.reduceLT, Int.reduceToNat, Int.reduceAdd, Int.reduceSub, Int.reduceMul, Int.reduceEq]
    done
theorem nodesK {w0 : World} {hp : List Res} {s : Sv} {c : CfS} (hk : cfF c = true) (h : ShowsCf w0 hp s c) (hbr : ∀ r ∈ hp, Res.bnd hp.length r) : CallOK Tryd.prog w0 No 30 [s] hp (.t [.a (.o hp.length), .a (.v .nilIface)]) (hp ++ [.own 3 (.i64 (nodesF c))]) := callOK_own2 hbr trivial fun γ w hS => by
  obtain ⟨a, e, h1, rfl⟩ := h γ w hS
  show Calls _ _ #[s.val γ] w _
  rw [e]
  exact nodes_any a w h1 hk
end
section
variable (a b : List Int) (A : Option Addr) (c : Nat) (A2 : Option Addr) (c2 : Nat) (w : World) (hm : a.length ≤ 100000) (hR : RdV w w.heap.size A (a.map (Value.int .i64))) (hR2 : RdV w w.heap.size A2 (b.map (Value.int .i64)))
include hm hR hR2
set_option maxRecDepth 100000 in
theorem ints22_any : Calls Tryd.prog 82 #[.slice A a.length c, .slice A2 b.length c2] w fun e w' => e = .returned (.bool (decide (a = b))) ∧ Below w.heap.size w w' := by
  have F := FM.of hR
  have G := FM.of hR2
  refine calls_v (n := 26) Tryd.func82 rfl Tryd.ntmps82 [.x (.a (.v (.slice A a.length c))), .x (.a (.v (.slice A2 b.length c2)))] (by simp) (.x (.a (.v (.bool (decide (a = b)))))) (fun _ => rfl) ?_
  by_cases hl : (a.length : Int) = b.length
  · simp only [hl, push_cast, ↓Int.toNat_natCast, ↓Int.cast_ofNat_Int, Int.cast_ofNat_Int, ↓reduceIte, reduceCtorEq, Nat.reduceEqDiff, Nat.reduceLT, Nat.reduceLeDiff, Nat.reduceAdd, Nat.reduceSub, Nat.reduceMul, Int.reduceNeg, Int.reduceLE, Int.reduceLT, Int.reduceToNat, Int.reduceAdd, Int.reduceSub, Int.reduceMul, Int.reduceEq]
    refine loop_rule (ι := Nat) (fun k => ⟨[(0, .x (.a (.v (.slice A a.length c)))), (1, .x (.a (.v (.slice A2 b.length c2)))), (5, .x (.a (.v (.int .i64 k))))], []⟩) (fun k => k ≤ b.length ∧ ∀ j, j < k → ix a j = ix b j) (fun k => b.length - k) 0 [] ⟨by omega, fun j h => by omega⟩ ?_ ?_
    · simp only [push_cast, ↓Int.toNat_natCast, ↓Int.cast_ofNat_Int, Int.cast_ofNat_Int, ↓reduceIte, reduceCtorEq, Nat.reduceEqDiff, Nat.reduceLT, Nat.reduceLeDiff, Nat.reduceAdd, Nat.reduceSub, Nat.reduceMul, Int.reduceNeg, Int.reduceLE, Int.reduceLT, Int.reduceToNat, Int.reduceAdd, Int.reduceSub, Int.reduceMul, Int.reduceEq]
    · rintro k ⟨hk, hj⟩
      by_cases hlt : (k : Int) < a.length
      · have c0 := F.cell k (by omega)
        have o0 := F.ok k (by omega)
        have d0 := G.cell k (by omega)
        have p0 := G.ok k (by omega)
        have hA := F.some_ (by omega)
        have hA2 := G.some_ (by omega)
        have hlb : (k : Int) < b.length := by omega
        by_cases he : ix a k = ix b k
        · simp only [hlt, hlb, undef, push_cast, ↓Int.toNat_natCast, ↓Int.cast_ofNat_Int, Int.cast_ofNat_Int, ↓reduceIte, reduceCtorEq, Nat.reduceEqDiff, Nat.reduceLT, Nat.reduceLeDiff, Nat.reduceAdd, Nat.reduceSub, Nat.reduceMul, Int.reduceNeg, Int.reduceLE, Int.reduceLT, Int.reduceToNat, Int.reduceAdd, Int.reduceSub, Int.reduceMul, Int.reduceEq]
          (repeat (refine And.intro (by first | omega | decide) ?_))
          refine draw_rule [(0, true), (1, true), (2, true), (3, true), (4, true), (5, true), (6, true), (7, true), (8, true)] (by kernel_rfl) (by kernel_rfl) rfl (by kernel_rfl) ?_
          simp only [hlt, hlb, c0, o0, d0, p0, hA, hA2, he, undef, push_cast, ↓Int.toNat_natCast, ↓Int.cast_ofNat_Int, Int.cast_ofNat_Int, ↓reduceIte, reduceCtorEq, Nat.reduceEqDiff, Nat.reduceLT, Nat.reduceLeDiff, Nat.reduceAdd, Nat.reduceSub, Nat.reduceMul, Int.reduceNeg, Int.reduceLE, Int.reduceLT, Int.reduceToNat, Int.reduceAdd, Int.reduceSub, Int.reduceMul, Int.reduceEq]
          (repeat (refine And.intro (by first | omega | decide) ?_))
          refine loopK_normal (k + 1) [] ⟨by omega, fun j h => ?_⟩ (by omega) ?_
          · by_cases e : j = k
            · rw [e]; exact he
            · exact hj j (by omega)
          · simp only [push_cast, ↓Int.toNat_natCast, ↓Int.cast_ofNat_Int, Int.cast_ofNat_Int, ↓reduceIte, reduceCtorEq, Nat.reduceEqDiff, Nat.reduceLT, Nat.reduceLeDiff, Nat.reduceAdd, Nat.reduceSub, Nat.reduceMul, Int.reduceNeg, Int.reduceLE, Int.reduceLT, Int.reduceToNat, Int.reduceAdd, Int.reduceSub, Int.reduceMul, Int.reduceEq]
        · have hne : ¬ a = b := fun e => he (by rw [e])
          simp only [hlt, hlb, undef, push_cast, ↓Int.toNat_natCast, ↓Int.cast_ofNat_Int, Int.cast_ofNat_Int, ↓reduceIte, reduceCtorEq, Nat.reduceEqDiff, Nat.reduceLT, Nat.reduceLeDiff, Nat.reduceAdd, Nat.reduceSub, Nat.reduceMul, Int.reduceNeg, Int.reduceLE, Int.reduceLT, Int.reduceToNat, Int.reduceAdd, Int.reduceSub, Int.reduceMul, Int.reduceEq]
          (repeat (refine And.intro (by first | omega | decide) ?_))
          refine draw_rule [(0, true), (1, true), (2, true), (3, true), (4, true), (5, true), (6, true), (7, true), (8, true)] (by kernel_rfl) (by kernel_rfl) rfl (by kernel_rfl) ?_
          simp only [hlt, hlb, c0, o0, d0, p0, hA, hA2, he, hne, undef, push_cast, ↓Int.toNat_natCast, ↓Int.cast_ofNat_Int, Int.cast_ofNat_Int, ↓reduceIte, reduceCtorEq, Nat.reduceEqDiff, Nat.reduceLT, Nat.reduceLeDiff, Nat.reduceAdd, Nat.reduceSub, Nat.reduceMul, Int.reduceNeg, Int.reduceLE, Int.reduceLT, Int.reduceToNat, Int.reduceAdd, Int.reduceSub, Int.reduceMul, Int.reduceEq]
          all_goals omega
      · have hab : a = b := ext_ix (by omega) fun j h => hj j (by omega)
        have hd : decide (a = b) = true := decide_eq_true hab
        simp only [hlt, hd, undef, push_cast, ↓Int.toNat_natCast, ↓Int.cast_ofNat_Int, Int.cast_ofNat_Int, ↓reduceIte, reduceCtorEq, Nat.reduceEqDiff, Nat.reduceLT, Nat.reduceLeDiff, Nat.reduceAdd, Nat.reduceSub, Nat.reduceMul, Int.reduceNeg, Int.reduceLE, Int.reduceLT, Int.reduceToNat, Int.reduceAdd, Int.reduceSub, Int.reduceMul, Int.reduceEq]
  · have hne := len_ne hl
    simp only [hl, hne, push_cast, ↓Int.toNat_natCast, ↓Int.cast_ofNat_Int, Int.cast_ofNat_Int, ↓reduceIte, reduceCtorEq, Nat.reduceEqDiff, Nat.reduceLT, Nat.reduceLeDiff, Nat.reduceAdd, Nat.reduceSub, Nat.reduceMul, Int.reduceNeg, Int.reduceLE, Int.reduceLT, Int.reduceToNat, Int.reduceAdd, Int.reduceSub, Int.reduceMul, Int.reduceEq]
end
theorem ints22K {w0 : World} {hp : List Res} {s1 s2 : Sv} {a b : List Int} (hm : a.length ≤ 100000) (h1 : Shows w0 No hp s1 (a.map (Value.int .i64))) (h2 : Shows w0 No hp s2 (b.map (Value.int .i64))) : CallOK Tryd.prog w0 No 82 [s1, s2] hp (.x (.a (.v (.bool (decide (a = b)))))) hp := callOK_v fun γ w hS => by
  obtain ⟨A, c, e1, b1, q1⟩ := h1 γ w hS
  obtain ⟨A2, c2, e2, b2, q2⟩ := h2 γ w hS
  rw [List.length_map] at e1 e2
  show Calls _ _ #[s1.val γ, s2.val γ] w _
  rw [e1, e2]
  exact ints22_any a b A c A2 c2 w hm q1 q2
end Go.Proofs.YtiaeollemmkclaaDoor
