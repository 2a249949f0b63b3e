/- Whether a peer stands in a list; what law 25 gives the program, and how it compares numbers. -/
import Derived.Test.YteiifdpikcnbgaaDoorSetA
import Derived.Test.YteiifdpikcnbgaaDoorPrA
import Derived.Test.YteiifdpikcnbgaaDoorVs
import Derived.Test.YteiifdpikcnbgaaDoorDrA
namespace Go.Proofs.YteiifdpikcnbgaaDoor
open Go.RowKit
set_option linter.unusedSimpArgs false
def isP (l : List Pr) (p : Pr) : Bool := decide (p ∈ l)
def posP (l : List Pr) (p : Pr) : Int := firstI (fun i => decide (ix l i = p)) l.length
theorem posP_at {l : List Pr} {p : Pr} {i : Nat} (hi : i < l.length) (h : ix l i = p) (hj : ∀ j, j < i → ¬ ix l j = p) : posP l p = i := firstI_at hi (decide_eq_true h) fun j h => decide_eq_false (hj j h)
theorem posP_no {l : List Pr} {p : Pr} (hj : ∀ j, j < l.length → ¬ ix l j = p) : posP l p = -1 := firstI_no fun j h => decide_eq_false (hj j h)
theorem posP_in (l : List Pr) (p : Pr) : decide (0 ≤ posP l p) = isP l p := by
  unfold isP
  rw [Bool.eq_iff_iff, decide_eq_true_eq, decide_eq_true_eq]
  unfold posP
  rw [firstI_ge]
  constructor
  · rintro ⟨i, hi, h⟩
    rw [← of_decide_eq_true h]; exact ix_mem hi
  · intro h
    obtain ⟨i, hi, e⟩ := mem_ix h
    exact ⟨i, hi, decide_eq_true e⟩
theorem pr_eq (p q : Pr) : (decide (p.1 = q.1) && decide (n64 p.2 = n64 q.2)) = decide (p = q) := by
  obtain ⟨a, b⟩ := p; obtain ⟨c, d⟩ := q
  have h : n64 b = n64 d ↔ b = d := ⟨fun h => UInt64.toNat_inj.1 (Int.ofNat.inj h), fun h => by rw [h]⟩
  simp only [Prod.mk.injEq, Bool.decide_and, h]
attribute [local irreducible] Callable CallOK CallG CallM DrawG LoopG symR symM
set_option maxRecDepth 100000 in
set_option maxHeartbeats 1000000 in
theorem indexP_any (l : List Pr) (p : Pr) (A : Option Addr) (c : Nat) (w : World) (hl : l.length ≤ 1000000) (hR : RdV w w.heap.size A (pvs l)) : Calls Tryd.prog 98 #[.slice A l.length c, .agg #[.int .i64 p.1, vU64 p.2]] w fun e w' => e = .returned (.int .i64 (posP l p)) ∧ Below w.heap.size w w' := by
  have F := FP.of hR
  refine calls_v (n := 19) Tryd.func98 rfl Tryd.ntmps98 [(.x (.a (.v (.slice A l.length c)))), (.x (.g [.v (.int .i64 p.1), .v (vU64 p.2)]))] (by simp) (.x (.a (.v (.int .i64 (posP l p))))) (fun _ => rfl) ?_
  simp only [undef, push_cast, ↓Int.toNat_natCast, ↓Int.cast_ofNat_Int, Int.cast_ofNat_Int, ↓reduceIte, reduceCtorEq, Nat.reduceEqDiff, Nat.reduceLT, Nat.reduceLeDiff, Nat.reduceAdd, Nat.reduceSub, Nat.reduceMul, Int.reduceNeg, Int.reduceLE, Int.reduceLT, Int.reduceToNat, Int.reduceAdd, Int.reduceSub, Int.reduceMul, Int.reduceEq]
  refine loop_rule (ι := Nat) (fun i => ⟨[(0, (.x (.a (.v (.slice A l.length c))))), (3, .x (.a (.p 0 0))), (7, .x (.a (.v (.int .i64 l.length)))), (8, .x (.a (.v (.int .i64 i))))], [.blk 55 (.c [.v (.int .i64 p.1), .v (vU64 p.2)])]⟩) (fun i => i ≤ l.length ∧ ∀ j, j < i → ¬ ix l j = p) (fun i => l.length - i) 0 [0] ⟨by omega, fun j h => by omega⟩ ?_ ?_
  · simp only [push_cast, ↓Int.toNat_natCast, ↓Int.cast_ofNat_Int, Int.cast_ofNat_Int, ↓reduceIte, reduceCtorEq, Nat.reduceEqDiff, Nat.reduceLT, Nat.reduceLeDiff, Nat.reduceAdd, Nat.reduceSub, Nat.reduceMul, Int.reduceNeg, Int.reduceLE, Int.reduceLT, Int.reduceToNat, Int.reduceAdd, Int.reduceSub, Int.reduceMul, Int.reduceEq]
  · rintro i ⟨hi, hj⟩
    by_cases hlt : (i : Int) < l.length
    · have i0 : (0 : Int) ≤ i := by omega
      have c0 := F.c0 i (by omega)
      have c1 := F.c1 i (by omega)
      have o0 := F.ok0 i (by omega)
      have o1 := F.ok1 i (by omega)
      have hA := F.some_ (by omega)
      have he := pr_eq p (ix l i)
      simp only [hlt, undef, push_cast, ↓Int.toNat_natCast, ↓Int.cast_ofNat_Int, Int.cast_ofNat_Int, ↓reduceIte, reduceCtorEq, Nat.reduceEqDiff, Nat.reduceLT, Nat.reduceLeDiff, Nat.reduceAdd, Nat.reduceSub, Nat.reduceMul, Int.reduceNeg, Int.reduceLE, Int.reduceLT, Int.reduceToNat, Int.reduceAdd, Int.reduceSub, Int.reduceMul, Int.reduceEq]
      (repeat (refine And.intro (by first | omega | decide) ?_))
      refine draw_rule [(0, true), (1, true), (2, true), (3, true), (4, true), (5, true)] (by kernel_rfl) (by kernel_rfl) rfl (by kernel_rfl) ?_
      simp only [hlt, i0, c0, c1, o0, o1, hA, he, pAdd_zero, pAdd_add, pAdd_isSome, undef, push_cast, ↓Int.toNat_natCast, ↓Int.cast_ofNat_Int, Int.cast_ofNat_Int, ↓reduceIte, reduceCtorEq, Nat.reduceEqDiff, Nat.reduceLT, Nat.reduceLeDiff, Nat.reduceAdd, Nat.reduceSub, Nat.reduceMul, Int.reduceNeg, Int.reduceLE, Int.reduceLT, Int.reduceToNat, Int.reduceAdd, Int.reduceSub, Int.reduceMul, Int.reduceEq]
      (repeat (refine And.intro (by first | omega | decide) ?_))
      by_cases h : p = ix l i
      · have hp := posP_at (l := l) (p := p) (i := i) (by omega) h.symm hj
        have hd : decide (p = ix l i) = true := decide_eq_true h
        simp only [hd, hp, undef, push_cast, ↓Int.toNat_natCast, ↓Int.cast_ofNat_Int, Int.cast_ofNat_Int, ↓reduceIte, reduceCtorEq, Nat.reduceEqDiff, Nat.reduceLT, Nat.reduceLeDiff, Nat.reduceAdd, Nat.reduceSub, Nat.reduceMul, Int.reduceNeg, Int.reduceLE, Int.reduceLT, Int.reduceToNat, Int.reduceAdd, Int.reduceSub, Int.reduceMul, Int.reduceEq]
      · have hd : decide (p = ix l i) = false := decide_eq_false h
        simp only [hd, undef, push_cast, ↓Int.toNat_natCast, ↓Int.cast_ofNat_Int, Int.cast_ofNat_Int, ↓reduceIte, reduceCtorEq, Nat.reduceEqDiff, Nat.reduceLT, Nat.reduceLeDiff, Nat.reduceAdd, Nat.reduceSub, Nat.reduceMul, Int.reduceNeg, Int.reduceLE, Int.reduceLT, Int.reduceToNat, Int.reduceAdd, Int.reduceSub, Int.reduceMul, Int.reduceEq]
        (repeat (refine And.intro (by first | omega | decide) ?_))
        refine loopK_normal (i + 1) [0] ⟨by omega, fun j hjl => ?_⟩ (by omega) ?_
        · by_cases e : j = i
          · rw [e]; exact fun e => h e.symm
          · exact hj j (by omega)
        · simp only [push_cast, ↓Int.toNat_natCast, ↓Int.cast_ofNat_Int, Int.cast_ofNat_Int, ↓reduceIte, reduceCtorEq, Nat.reduceEqDiff, Nat.reduceLT, Nat.reduceLeDiff, Nat.reduceAdd, Nat.reduceSub, Nat.reduceMul, Int.reduceNeg, Int.reduceLE, Int.reduceLT, Int.reduceToNat, Int.reduceAdd, Int.reduceSub, Int.reduceMul, Int.reduceEq]
    · have hp := posP_no (l := l) (p := p) (fun j h => hj j (by omega))
      simp only [hlt, hp, undef, push_cast, ↓Int.toNat_natCast, ↓Int.cast_ofNat_Int, Int.cast_ofNat_Int, ↓reduceIte, reduceCtorEq, Nat.reduceEqDiff, Nat.reduceLT, Nat.reduceLeDiff, Nat.reduceAdd, Nat.reduceSub, Nat.reduceMul, Int.reduceNeg, Int.reduceLE, Int.reduceLT, Int.reduceToNat, Int.reduceAdd, Int.reduceSub, Int.reduceMul, Int.reduceEq]
theorem indexPOK {w0 : World} {hp : List Res} {sv : Sv} {l : List Pr} (p : Pr) (hl : l.length ≤ 1000000) (h : ShowsR w0 No hp sv l.length (pvs l)) : CallOK Tryd.prog w0 No 98 [sv, (.x (.g [.v (.int .i64 p.1), .v (vU64 p.2)]))] hp (.x (.a (.v (.int .i64 (posP l p))))) hp := callOK_v fun γ w hS => by
  obtain ⟨A, c, e1, b1, r1⟩ := h γ w hS
  show Calls _ _ #[sv.val γ, .agg #[.int .i64 p.1, vU64 p.2]] w _
  rw [e1]
  exact indexP_any l p A c w hl r1
set_option maxRecDepth 100000 in
theorem containsP_any (l : List Pr) (p : Pr) (A : Option Addr) (c : Nat) (w : World) (hl : l.length ≤ 1000000) (hc : l.length ≤ c) (hR : RdV w w.heap.size A (pvs l)) : Calls Tryd.prog 69 #[.slice A l.length c, .agg #[.int .i64 p.1, vU64 p.2]] w fun e w' => e = .returned (.bool (isP l p)) ∧ Below w.heap.size w w' := by
  refine calls_v (n := 9) Tryd.func69 rfl Tryd.ntmps69 [(.x (.a (.v (.slice A l.length c)))), (.x (.g [.v (.int .i64 p.1), .v (vU64 p.2)]))] (by simp) (.x (.a (.v (.bool (isP l p))))) (fun _ => rfl) ?_
  have hp := posP_in l p
  simp only [undef, push_cast, ↓Int.toNat_natCast, ↓Int.cast_ofNat_Int, Int.cast_ofNat_Int, ↓reduceIte, reduceCtorEq, Nat.reduceEqDiff, Nat.reduceLT, Nat.reduceLeDiff, Nat.reduceAdd, Nat.reduceSub, Nat.reduceMul, Int.reduceNeg, Int.reduceLE, Int.reduceLT, Int.reduceToNat, Int.reduceAdd, Int.reduceSub, Int.reduceMul, Int.reduceEq]
  refine callG_v rfl cb98 rfl (indexPOK p hl (showsR_raw hR hc)) (dOk_lt rfl) ?_
  simp only [hp, undef, push_cast, ↓Int.toNat_natCast, ↓Int.cast_ofNat_Int, Int.cast_ofNat_Int, ↓reduceIte, reduceCtorEq, Nat.reduceEqDiff, Nat.reduceLT, Nat.reduceLeDiff, Nat.reduceAdd, Nat.reduceSub, Nat.reduceMul, Int.reduceNeg, Int.reduceLE, Int.reduceLT, Int.reduceToNat, Int.reduceAdd, Int.reduceSub, Int.reduceMul, Int.reduceEq]
theorem containsPOK2 {w0 : World} {hp : List Res} {sv : Sv} {l : List Pr} (p : Pr) (hl : l.length ≤ 1000000) (h : ShowsR w0 No hp sv l.length (pvs l)) : CallOK Tryd.prog w0 No 69 [sv, (.x (.g [.v (.int .i64 p.1), .v (vU64 p.2)]))] hp (.x (.a (.v (.bool (isP l p))))) hp := callOK_v fun γ w hS => by
  obtain ⟨A, c, e1, b1, r1⟩ := h γ w hS
  show Calls _ _ #[sv.val γ, .agg #[.int .i64 p.1, vU64 p.2]] w _
  rw [e1]
  exact containsP_any l p A c w hl b1 r1
/-! ### Law 25's -/
set_option maxRecDepth 100000 in
theorem give25_any (l : List Pr) (A : Option Addr) (c : Nat) (w : World) (hl : l.length ≤ 1000) (hR : RdV w w.heap.size A (pvs l)) : Calls Tryd.prog 28 #[.slice A l.length c] w fun e w' => ∃ γ1, e = .returned ((Sv.x (.a (.o 0))).val γ1) ∧ Sat w No γ1 [.onn 55 2 (.c (pcs l))] w' := by
  have F := FP.of hR
  refine calls_fun (n := 19) Tryd.func28 rfl Tryd.ntmps28 [.x (.a (.v (.slice A l.length c)))] (Sat.init w No) (by simp) _ _ ?_
  simp only [undef, push_cast, ↓Int.toNat_natCast, ↓Int.cast_ofNat_Int, Int.cast_ofNat_Int, ↓reduceIte, reduceCtorEq, Nat.reduceEqDiff, Nat.reduceLT, Nat.reduceLeDiff, Nat.reduceAdd, Nat.reduceSub, Nat.reduceMul, Int.reduceNeg, Int.reduceLE, Int.reduceLT, Int.reduceToNat, Int.reduceAdd, Int.reduceSub, Int.reduceMul, Int.reduceEq]
  refine loop_ghostN 3 55 2 (.c []) (by omega) rfl rfl (by simp only [push_cast, ↓Int.toNat_natCast, ↓Int.cast_ofNat_Int, Int.cast_ofNat_Int, ↓reduceIte, reduceCtorEq, Nat.reduceEqDiff, Nat.reduceLT, Nat.reduceLeDiff, Nat.reduceAdd, Nat.reduceSub, Nat.reduceMul, Int.reduceNeg, Int.reduceLE, Int.reduceLT, Int.reduceToNat, Int.reduceAdd, Int.reduceSub, Int.reduceMul, Int.reduceEq]) ?_
  refine loop_rule (ι := Nat) (fun i => ⟨[(0, .x (.a (.v (.slice A l.length c)))), (3, .x (.a (.o 0))), (4, .x (.a (.v (.int .i64 i))))], [.onn 55 2 (.c (pcs (l.take i)))]⟩) (fun i => i ≤ l.length) (fun i => l.length - i) 0 [0] (by omega) ?_ ?_
  · simp only [List.take_zero, pcs_nil, push_cast, ↓Int.toNat_natCast, ↓Int.cast_ofNat_Int, Int.cast_ofNat_Int, ↓reduceIte, reduceCtorEq, Nat.reduceEqDiff, Nat.reduceLT, Nat.reduceLeDiff, Nat.reduceAdd, Nat.reduceSub, Nat.reduceMul, Int.reduceNeg, Int.reduceLE, Int.reduceLT, Int.reduceToNat, Int.reduceAdd, Int.reduceSub, Int.reduceMul, Int.reduceEq]
  · intro i hi
    by_cases hlt : (i : Int) < l.length
    · have i0 : (0 : Int) ≤ i := by omega
      have c0 := F.c0 i (by omega)
      have c1 := F.c1 i (by omega)
      have o0 := F.ok0 i (by omega)
      have o1 := F.ok1 i (by omega)
      have hA := F.some_ (by omega)
      have hlen : (l.take i).length = i := by rw [List.length_take]; omega
      have ht := pcs_take l i (by omega)
      simp only [hlt, i0, c0, c1, o0, o1, hA, hlen, ht, pAdd_zero, pAdd_add, pAdd_isSome, undef, push_cast, ↓Int.toNat_natCast, ↓Int.cast_ofNat_Int, Int.cast_ofNat_Int, ↓reduceIte, reduceCtorEq, Nat.reduceEqDiff, Nat.reduceLT, Nat.reduceLeDiff, Nat.reduceAdd, Nat.reduceSub, Nat.reduceMul, Int.reduceNeg, Int.reduceLE, Int.reduceLT, Int.reduceToNat, Int.reduceAdd, Int.reduceSub, Int.reduceMul, Int.reduceEq]
      (repeat (refine And.intro (by first | omega | decide) ?_))
      refine loopK_normal (i + 1) [2] (by omega) (by omega) ?_
      simp only [push_cast, ↓Int.toNat_natCast, ↓Int.cast_ofNat_Int, Int.cast_ofNat_Int, ↓reduceIte, reduceCtorEq, Nat.reduceEqDiff, Nat.reduceLT, Nat.reduceLeDiff, Nat.reduceAdd, Nat.reduceSub, Nat.reduceMul, Int.reduceNeg, Int.reduceLE, Int.reduceLT, Int.reduceToNat, Int.reduceAdd, Int.reduceSub, Int.reduceMul, Int.reduceEq]
    · have e : i = l.length := by omega
      subst e
      simp only [hlt, List.take_length, undef, push_cast, ↓Int.toNat_natCast, ↓Int.cast_ofNat_Int, Int.cast_ofNat_Int, ↓reduceIte, reduceCtorEq, Nat.reduceEqDiff, Nat.reduceLT, Nat.reduceLeDiff, Nat.reduceAdd, Nat.reduceSub, Nat.reduceMul, Int.reduceNeg, Int.reduceLE, Int.reduceLT, Int.reduceToNat, Int.reduceAdd, Int.reduceSub, Int.reduceMul, Int.reduceEq]
      refine endsAs [0] ?_
      simp only [push_cast, ↓Int.toNat_natCast, ↓Int.cast_ofNat_Int, Int.cast_ofNat_Int, ↓reduceIte, reduceCtorEq, Nat.reduceEqDiff, Nat.reduceLT, Nat.reduceLeDiff, Nat.reduceAdd, Nat.reduceSub, Nat.reduceMul, Int.reduceNeg, Int.reduceLE, Int.reduceLT, Int.reduceToNat, Int.reduceAdd, Int.reduceSub, Int.reduceMul, Int.reduceEq]
theorem give25OK {w0 : World} {hp : List Res} {sv : Sv} {l : List Pr} (hl : l.length ≤ 1000) (h : ShowsR w0 No hp sv l.length (pvs l)) (hbr : ∀ r ∈ hp, Res.bnd hp.length r) :
    CallOK Tryd.prog w0 No 28 [sv] hp (.x (.a (.o hp.length))) (hp ++ [.onn 55 2 (.c (pcs l))]) := by
  have := callOK_take (P := Tryd.prog) (f := 28) (svs := [sv]) (w0 := w0) (ow := No) (sv1 := .x (.a (.o 0))) (hp1 := [.onn 55 2 (.c (pcs l))]) [] hbr (by simp only [push_cast, ↓Int.toNat_natCast, ↓Int.cast_ofNat_Int, Int.cast_ofNat_Int, ↓reduceIte, reduceCtorEq, Nat.reduceEqDiff, Nat.reduceLT, Nat.reduceLeDiff, Nat.reduceAdd, Nat.reduceSub, Nat.reduceMul, Int.reduceNeg, Int.reduceLE, Int.reduceLT, Int.reduceToNat, Int.reduceAdd, Int.reduceSub, Int.reduceMul, Int.reduceEq]) (by simp only [push_cast, ↓Int.toNat_natCast, ↓Int.cast_ofNat_Int, Int.cast_ofNat_Int, ↓reduceIte, reduceCtorEq, Nat.reduceEqDiff, Nat.reduceLT, Nat.reduceLeDiff, Nat.reduceAdd, Nat.reduceSub, Nat.reduceMul, Int.reduceNeg, Int.reduceLE, Int.reduceLT, Int.reduceToNat, Int.reduceAdd, Int.reduceSub, Int.reduceMul, Int.reduceEq])
    fun γ w hS => ⟨No, fun b h => h.elim, by
      obtain ⟨A, c, e1, b1, r1⟩ := h γ w hS
      show Calls _ _ #[sv.val γ] w _
      rw [e1]
      exact give25_any l A c w hl r1⟩
  simp only [goneAll, shiftL, push_cast, ↓Int.toNat_natCast, ↓Int.cast_ofNat_Int, Int.cast_ofNat_Int, ↓reduceIte, reduceCtorEq, Nat.reduceEqDiff, Nat.reduceLT, Nat.reduceLeDiff, Nat.reduceAdd, Nat.reduceSub, Nat.reduceMul, Int.reduceNeg, Int.reduceLE, Int.reduceLT, Int.reduceToNat, Int.reduceAdd, Int.reduceSub, Int.reduceMul, Int.reduceEq] at this
  exact this
set_option maxRecDepth 100000 in
theorem lot25_any (a b : UInt64) (of an : List UInt64) (A : Option Addr) (c : Nat) (A2 : Option Addr) (c2 : Nat) (w : World) (h1 : of.length ≤ 1000) (h2 : an.length ≤ 1000) (hR : RdV w w.heap.size A (of.map vU64)) (hR2 : RdV w w.heap.size A2 (an.map vU64)) :
    Calls Tryd.prog 27 (List.map (Sv.val []) [.x (.g [.v (vU64 a), .v (vU64 b), .v (.slice A of.length c), .v (.slice A2 an.length c2)])]).toArray w fun e w' => ∃ γ1, e = .returned ((Sv.x (.g [.v (vU64 a), .v (vU64 b), .o 0, .o 1])).val γ1) ∧ Sat w No γ1 [.own 23 (.u64 of), .own 23 (.u64 an)] w' := by
  obtain ⟨e1, k1⟩ := rd64_of (FV.no hR)
  obtain ⟨e2, k2⟩ := rd64_of (FV.no hR2)
  refine calls_fun (n := 16) Tryd.func27 rfl Tryd.ntmps27 [.x (.g [.v (vU64 a), .v (vU64 b), .v (.slice A of.length c), .v (.slice A2 an.length c2)])] (Sat.init w No) (by simp) _ _ ?_
  simp only [undef, push_cast, ↓Int.toNat_natCast, ↓Int.cast_ofNat_Int, Int.cast_ofNat_Int, ↓reduceIte, reduceCtorEq, Nat.reduceEqDiff, Nat.reduceLT, Nat.reduceLeDiff, Nat.reduceAdd, Nat.reduceSub, Nat.reduceMul, Int.reduceNeg, Int.reduceLE, Int.reduceLT, Int.reduceToNat, Int.reduceAdd, Int.reduceSub, Int.reduceMul, Int.reduceEq]
  (repeat (refine And.intro (by first | omega | decide) ?_))
  refine drawV_rule 1 [] (.rd 0 (.rd 1 (.rd 2 (.rd 3 (.rd 5 (.rd 6 (.rd 9 (.rd 10 (.fk 4 (.fk 7 (.wr 8 (.wr 11 (.wr 12 (.wr 13 .nil)))) 8 (.wr 7 (.wr 11 (.wr 12 (.wr 13 .nil))))) 8 (.wr 4 (.wr 7 (.wr 11 (.wr 12 (.wr 13 .nil)))))))))))))) ⟨[(2, .x (.a (.p 1 0)))], [.blk 64 (.c [.v (vU64 a), .v (vU64 b), .v (.slice A of.length c), .v (.slice A2 an.length c2)]), .blk 71 (.c [.v (vU64 a), .v (vU64 b), .o 2, .o 3]), .own 23 (.u64 of), .own 23 (.u64 an)]⟩ (by kernel_rfl) (by kernel_rfl) (by kernel_rfl) (Nat.le_add_left 1 1) ?_ ?_
  · have b1 : of.length * 8 ≤ 140737488355328 := by omega
    have b2 : an.length * 8 ≤ 140737488355328 := by omega
    have b3 : of.length ≤ 2 ^ 63 - 1 := by omega
    have b4 : an.length ≤ 2 ^ 63 - 1 := by omega
    simp only [e1, e2, k1, k2, b1, b2, b3, b4, undef, push_cast, ↓Int.toNat_natCast, ↓Int.cast_ofNat_Int, Int.cast_ofNat_Int, ↓reduceIte, reduceCtorEq, Nat.reduceEqDiff, Nat.reduceLT, Nat.reduceLeDiff, Nat.reduceAdd, Nat.reduceSub, Nat.reduceMul, Int.reduceNeg, Int.reduceLE, Int.reduceLT, Int.reduceToNat, Int.reduceAdd, Int.reduceSub, Int.reduceMul, Int.reduceEq]
    (repeat (refine And.intro (by first | omega | decide) ?_))
    simp only [and_assoc]
    refine ⟨?_, ?_, ?_⟩
    all_goals first
      | (refine leads_le [0, 1, 3, 5] ?_; simp only [push_cast, ↓Int.toNat_natCast, ↓Int.cast_ofNat_Int, Int.cast_ofNat_Int, ↓reduceIte, reduceCtorEq, Nat.reduceEqDiff, Nat.reduceLT, Nat.reduceLeDiff, Nat.reduceAdd, Nat.reduceSub, Nat.reduceMul, Int.reduceNeg, Int.reduceLE, Int.reduceLT, Int.reduceToNat, Int.reduceAdd, Int.reduceSub, Int.reduceMul, Int.reduceEq]; done)
      | (refine leads_le [0, 1, 4, 5] ?_; simp only [push_cast, ↓Int.toNat_natCast, ↓Int.cast_ofNat_Int, Int.cast_ofNat_Int, ↓reduceIte, reduceCtorEq, Nat.reduceEqDiff, Nat.reduceLT, Nat.reduceLeDiff, Nat.reduceAdd, Nat.reduceSub, Nat.reduceMul, Int.reduceNeg, Int.reduceLE, Int.reduceLT, Int.reduceToNat, Int.reduceAdd, Int.reduceSub, Int.reduceMul, Int.reduceEq]; done)
      | (refine leads_le [0, 1, 5, 4] ?_; simp only [push_cast, ↓Int.toNat_natCast, ↓Int.cast_ofNat_Int, Int.cast_ofNat_Int, ↓reduceIte, reduceCtorEq, Nat.reduceEqDiff, Nat.reduceLT, Nat.reduceLeDiff, Nat.reduceAdd, Nat.reduceSub, Nat.reduceMul, Int.reduceNeg, Int.reduceLE, Int.reduceLT, Int.reduceToNat, Int.reduceAdd, Int.reduceSub, Int.reduceMul, Int.reduceEq]; done)
      | (refine leads_le [0, 1, 5, 3] ?_; simp only [push_cast, ↓Int.toNat_natCast, ↓Int.cast_ofNat_Int, Int.cast_ofNat_Int, ↓reduceIte, reduceCtorEq, Nat.reduceEqDiff, Nat.reduceLT, Nat.reduceLeDiff, Nat.reduceAdd, Nat.reduceSub, Nat.reduceMul, Int.reduceNeg, Int.reduceLE, Int.reduceLT, Int.reduceToNat, Int.reduceAdd, Int.reduceSub, Int.reduceMul, Int.reduceEq]; done)
  · simp only [undef, push_cast, ↓Int.toNat_natCast, ↓Int.cast_ofNat_Int, Int.cast_ofNat_Int, ↓reduceIte, reduceCtorEq, Nat.reduceEqDiff, Nat.reduceLT, Nat.reduceLeDiff, Nat.reduceAdd, Nat.reduceSub, Nat.reduceMul, Int.reduceNeg, Int.reduceLE, Int.reduceLT, Int.reduceToNat, Int.reduceAdd, Int.reduceSub, Int.reduceMul, Int.reduceEq]
    (repeat (refine And.intro (by first | omega | decide) ?_))
    refine endsAs [2, 3] ?_
    simp only [push_cast, ↓Int.toNat_natCast, ↓Int.cast_ofNat_Int, Int.cast_ofNat_Int, ↓reduceIte, reduceCtorEq, Nat.reduceEqDiff, Nat.reduceLT, Nat.reduceLeDiff, Nat.reduceAdd, Nat.reduceSub, Nat.reduceMul, Int.reduceNeg, Int.reduceLE, Int.reduceLT, Int.reduceToNat, Int.reduceAdd, Int.reduceSub, Int.reduceMul, Int.reduceEq]
theorem lot25OK {w0 : World} {hp : List Res} {s1 s2 : Sv} {of an : List UInt64} {x1 x2 : At} (a b : UInt64) (hs1 : s1 = .x (.a x1)) (hs2 : s2 = .x (.a x2)) (l1 : of.length ≤ 1000) (l2 : an.length ≤ 1000) (h1 : Shows w0 No hp s1 (of.map vU64)) (h2 : Shows w0 No hp s2 (an.map vU64)) (hbr : ∀ r ∈ hp, Res.bnd hp.length r) :
    CallOK Tryd.prog w0 No 27 [.x (.g [.v (vU64 a), .v (vU64 b), x1, x2])] hp (.x (.g [.v (vU64 a), .v (vU64 b), .o hp.length, .o (hp.length + 1)])) (hp ++ [.own 23 (.u64 of), .own 23 (.u64 an)]) := by
  have := callOK_take (P := Tryd.prog) (f := 27) (svs := [.x (.g [.v (vU64 a), .v (vU64 b), x1, x2])]) (w0 := w0) (ow := No) (sv1 := .x (.g [.v (vU64 a), .v (vU64 b), .o 0, .o 1])) (hp1 := [.own 23 (.u64 of), .own 23 (.u64 an)]) [] hbr (by simp only [push_cast, ↓Int.toNat_natCast, ↓Int.cast_ofNat_Int, Int.cast_ofNat_Int, ↓reduceIte, reduceCtorEq, Nat.reduceEqDiff, Nat.reduceLT, Nat.reduceLeDiff, Nat.reduceAdd, Nat.reduceSub, Nat.reduceMul, Int.reduceNeg, Int.reduceLE, Int.reduceLT, Int.reduceToNat, Int.reduceAdd, Int.reduceSub, Int.reduceMul, Int.reduceEq]) (by simp only [push_cast, ↓Int.toNat_natCast, ↓Int.cast_ofNat_Int, Int.cast_ofNat_Int, ↓reduceIte, reduceCtorEq, Nat.reduceEqDiff, Nat.reduceLT, Nat.reduceLeDiff, Nat.reduceAdd, Nat.reduceSub, Nat.reduceMul, Int.reduceNeg, Int.reduceLE, Int.reduceLT, Int.reduceToNat, Int.reduceAdd, Int.reduceSub, Int.reduceMul, Int.reduceEq])
    fun γ w hS => ⟨No, fun b h => h.elim, by
      obtain ⟨A, c, e1, b1, r1⟩ := h1 γ w hS
      obtain ⟨A2, c2, e2, b2, r2⟩ := h2 γ w hS
      rw [List.length_map] at e1 e2
      subst hs1; subst hs2
      have e1 : x1.val γ = .slice A of.length c := e1
      have e2 : x2.val γ = .slice A2 an.length c2 := e2
      show Calls _ _ #[.agg #[vU64 a, vU64 b, x1.val γ, x2.val γ]] w _
      rw [e1, e2]
      exact lot25_any a b of an A c A2 c2 w l1 l2 r1 r2⟩
  simp only [goneAll, shiftL, push_cast, ↓Int.toNat_natCast, ↓Int.cast_ofNat_Int, Int.cast_ofNat_Int, ↓reduceIte, reduceCtorEq, Nat.reduceEqDiff, Nat.reduceLT, Nat.reduceLeDiff, Nat.reduceAdd, Nat.reduceSub, Nat.reduceMul, Int.reduceNeg, Int.reduceLE, Int.reduceLT, Int.reduceToNat, Int.reduceAdd, Int.reduceSub, Int.reduceMul, Int.reduceEq] at this
  exact this
section
variable (a b : List UInt64) (A : Option Addr) (c : Nat) (A2 : Option Addr) (c2 : Nat) (w : World) (hm : a.length ≤ 100000) (hR : RdV w w.heap.size A (a.map vU64)) (hR2 : RdV w w.heap.size A2 (b.map vU64))
include hm hR hR2
set_option maxRecDepth 100000 in
theorem nums25_any : Calls Tryd.prog 32 #[.slice A a.length c, .slice A2 b.length c2] w fun e w' => e = .returned (.bool (decide (a = b))) ∧ Below w.heap.size w w' := by
  have F := FM.of hR
  have G := FM.of hR2
  refine calls_v (n := 26) Tryd.func32 rfl Tryd.ntmps32 [.x (.a (.v (.slice A a.length c))), .x (.a (.v (.slice A2 b.length c2)))] (by simp) (.x (.a (.v (.bool (decide (a = b)))))) (fun _ => rfl) ?_
  by_cases hl : (a.length : Int) = b.length
  · simp only [hl, push_cast, ↓Int.toNat_natCast, ↓Int.cast_ofNat_Int, Int.cast_ofNat_Int, ↓reduceIte, reduceCtorEq, Nat.reduceEqDiff, Nat.reduceLT, Nat.reduceLeDiff, Nat.reduceAdd, Nat.reduceSub, Nat.reduceMul, Int.reduceNeg, Int.reduceLE, Int.reduceLT, Int.reduceToNat, Int.reduceAdd, Int.reduceSub, Int.reduceMul, Int.reduceEq]
    refine loop_rule (ι := Nat) (fun k => ⟨[(0, .x (.a (.v (.slice A a.length c)))), (1, .x (.a (.v (.slice A2 b.length c2)))), (5, .x (.a (.v (.int .i64 k))))], []⟩) (fun k => k ≤ b.length ∧ ∀ j, j < k → ix a j = ix b j) (fun k => b.length - k) 0 [] ⟨by omega, fun j h => by omega⟩ ?_ ?_
    · simp only [push_cast, ↓Int.toNat_natCast, ↓Int.cast_ofNat_Int, Int.cast_ofNat_Int, ↓reduceIte, reduceCtorEq, Nat.reduceEqDiff, Nat.reduceLT, Nat.reduceLeDiff, Nat.reduceAdd, Nat.reduceSub, Nat.reduceMul, Int.reduceNeg, Int.reduceLE, Int.reduceLT, Int.reduceToNat, Int.reduceAdd, Int.reduceSub, Int.reduceMul, Int.reduceEq]
    · rintro k ⟨hk, hj⟩
      by_cases hlt : (k : Int) < a.length
      · have c0 := F.cell k (by omega)
        have o0 := F.ok k (by omega)
        have d0 := G.cell k (by omega)
        have p0 := G.ok k (by omega)
        have hA := F.some_ (by omega)
        have hA2 := G.some_ (by omega)
        have hlb : (k : Int) < b.length := by omega
        by_cases he : ix a k = ix b k
        · simp only [hlt, hlb, undef, push_cast, ↓Int.toNat_natCast, ↓Int.cast_ofNat_Int, Int.cast_ofNat_Int, ↓reduceIte, reduceCtorEq, Nat.reduceEqDiff, Nat.reduceLT, Nat.reduceLeDiff, Nat.reduceAdd, Nat.reduceSub, Nat.reduceMul, Int.reduceNeg, Int.reduceLE, Int.reduceLT, Int.reduceToNat, Int.reduceAdd, Int.reduceSub, Int.reduceMul, Int.reduceEq]
          (repeat (refine And.intro (by first | omega | decide) ?_))
          refine draw_rule [(0, true), (1, true), (2, true), (3, true), (4, true), (5, true), (6, true), (7, true), (8, true)] (by kernel_rfl) (by kernel_rfl) rfl (by kernel_rfl) ?_
          simp only [hlt, hlb, c0, o0, d0, p0, hA, hA2, he, undef, push_cast, ↓Int.toNat_natCast, ↓Int.cast_ofNat_Int, Int.cast_ofNat_Int, ↓reduceIte, reduceCtorEq, Nat.reduceEqDiff, Nat.reduceLT, Nat.reduceLeDiff, Nat.reduceAdd, Nat.reduceSub, Nat.reduceMul, Int.reduceNeg, Int.reduceLE, Int.reduceLT, Int.reduceToNat, Int.reduceAdd, Int.reduceSub, Int.reduceMul, Int.reduceEq]
          (repeat (refine And.intro (by first | omega | decide) ?_))
          refine loopK_normal (k + 1) [] ⟨by omega, fun j h => ?_⟩ (by omega) ?_
          · by_cases e : j = k
            · rw [e]; exact he
            · exact hj j (by omega)
          · simp only [push_cast, ↓Int.toNat_natCast, ↓Int.cast_ofNat_Int, Int.cast_ofNat_Int, ↓reduceIte, reduceCtorEq, Nat.reduceEqDiff, Nat.reduceLT, Nat.reduceLeDiff, Nat.reduceAdd, Nat.reduceSub, Nat.reduceMul, Int.reduceNeg, Int.reduceLE, Int.reduceLT, Int.reduceToNat, Int.reduceAdd, Int.reduceSub, Int.reduceMul, Int.reduceEq]
        · have hne : ¬ a = b := fun e => he (by rw [e])
          simp only [hlt, hlb, undef, push_cast, ↓Int.toNat_natCast, ↓Int.cast_ofNat_Int, Int.cast_ofNat_Int, ↓reduceIte, reduceCtorEq, Nat.reduceEqDiff, Nat.reduceLT, Nat.reduceLeDiff, Nat.reduceAdd, Nat.reduceSub, Nat.reduceMul, Int.reduceNeg, Int.reduceLE, Int.reduceLT, Int.reduceToNat, Int.reduceAdd, Int.reduceSub, Int.reduceMul, Int.reduceEq]
          (repeat (refine And.intro (by first | omega | decide) ?_))
          refine draw_rule [(0, true), (1, true), (2, true), (3, true), (4, true), (5, true), (6, true), (7, true), (8, true)] (by kernel_rfl) (by kernel_rfl) rfl (by kernel_rfl) ?_
          simp only [hlt, hlb, c0, o0, d0, p0, hA, hA2, he, hne, undef, push_cast, ↓Int.toNat_natCast, ↓Int.cast_ofNat_Int, Int.cast_ofNat_Int, ↓reduceIte, reduceCtorEq, Nat.reduceEqDiff, Nat.reduceLT, Nat.reduceLeDiff, Nat.reduceAdd, Nat.reduceSub, Nat.reduceMul, Int.reduceNeg, Int.reduceLE, Int.reduceLT, Int.reduceToNat, Int.reduceAdd, Int.reduceSub, Int.reduceMul, Int.reduceEq]
          all_goals omega
      · have hab : a = b := ext_ix (by omega) fun j h => hj j (by omega)
        have hd : decide (a = b) = true := decide_eq_true hab
        simp only [hlt, hd, undef, push_cast, ↓Int.toNat_natCast, ↓Int.cast_ofNat_Int, Int.cast_ofNat_Int, ↓reduceIte, reduceCtorEq, Nat.reduceEqDiff, Nat.reduceLT, Nat.reduceLeDiff, Nat.reduceAdd, Nat.reduceSub, Nat.reduceMul, Int.reduceNeg, Int.reduceLE, Int.reduceLT, Int.reduceToNat, Int.reduceAdd, Int.reduceSub, Int.reduceMul, Int.reduceEq]
  · have hne := len_ne hl
    simp only [hl, hne, push_cast, ↓Int.toNat_natCast, ↓Int.cast_ofNat_Int, Int.cast_ofNat_Int, ↓reduceIte, reduceCtorEq, Nat.reduceEqDiff, Nat.reduceLT, Nat.reduceLeDiff, Nat.reduceAdd, Nat.reduceSub, Nat.reduceMul, Int.reduceNeg, Int.reduceLE, Int.reduceLT, Int.reduceToNat, Int.reduceAdd, Int.reduceSub, Int.reduceMul, Int.reduceEq]
end
theorem nums25OK {w0 : World} {hp : List Res} {s1 s2 : Sv} {a b : List UInt64} (hm : a.length ≤ 100000) (h1 : Shows w0 No hp s1 (a.map vU64)) (h2 : Shows w0 No hp s2 (b.map vU64)) : CallOK Tryd.prog w0 No 32 [s1, s2] hp (.x (.a (.v (.bool (decide (a = b)))))) hp := callOK_v fun γ w hS => by
  obtain ⟨A, c, e1, b1, q1⟩ := h1 γ w hS
  obtain ⟨A2, c2, e2, b2, q2⟩ := h2 γ w hS
  rw [List.length_map] at e1 e2
  show Calls _ _ #[s1.val γ, s2.val γ] w _
  rw [e1, e2]
  exact nums25_any a b A c A2 c2 w hm q1 q2
end Go.Proofs.YteiifdpikcnbgaaDoor
