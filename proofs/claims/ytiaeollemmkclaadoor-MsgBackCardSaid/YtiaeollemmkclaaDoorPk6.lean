import Derived.Test.YtiaeollemmkclaaDoorPk5
/- pack.Writer: Num, Nums, Bytes, Sum, Row, each a field more (layer 13). -/
namespace Go.Proofs.YtiaeollemmkclaaDoor
open Go.RowKit
set_option linter.unusedSimpArgs false
set_option linter.unusedVariables false
/-- A field more, in the callee's own world. -/
def WrG (f : FuncId) (args : List Sv) (b : List UInt8) (X : Nat → Prop) (w : World) : Prop := ∀ (r : List (List UInt8)) (n g : Nat) (γ : List Nm), n + b.length ≤ 1000000000 → Sat w X γ [.pin g 47 (.c [.o 1, .v (.int .i64 (n : Int))]), .abs (ChR 125 r)] w →
  Calls Tryd.prog f (List.map (Sv.val γ) (.x (.a (.p 0 0)) :: args)).toArray w fun e w' => ∃ γ1, e = .returned ((Sv.t []).val γ1) ∧ Sat w X γ1 [.pin g 47 (.c [.o 1, .v (.int .i64 ((n + b.length : Nat) : Int))]), .abs (ChR 125 (b :: r))] w'
theorem numsB_snoc (l : List UInt64) (v : UInt64) : numsB (l ++ [v]) = numsB l ++ putV v := by simp [numsB]
theorem rowB_snoc (l : List UInt32) (v : UInt32) : rowB (l ++ [v]) = rowB l ++ b4 v := by simp [rowB]
theorem numsB_len (l : List UInt64) : (numsB l).length ≤ 9 * l.length := by
  induction l with
  | nil => simp [numsB]
  | cons v l ih =>
    have := (putV_length v).2
    simp only [numsB, List.flatMap_cons, List.length_append, List.length_cons] at ih ⊢
    omega
theorem take_ix {α : Type} [Inhabited α] {l : List α} {i : Nat} (h : i < l.length) : l.take (i + 1) = l.take i ++ [ix l i] := by
  rw [List.take_add_one, ix, List.getD_eq_getElem?_getD, List.getElem?_eq_getElem h]
  rfl
theorem b4_eq (v : UInt32) : b4 v = [(shr32 v 24).toUInt8, (shr32 v 16).toUInt8, (shr32 v 8).toUInt8, v.toUInt8] := rfl
theorem u64_ofInt (n : Nat) : UInt64.ofInt (n : Int) = UInt64.ofNat n := by
  apply UInt64.toNat_inj.1
  have e : ((n:Int) % 2 ^ 64).toNat = n % 2 ^ 64 := by omega
  unfold UInt64.ofInt
  rw [UInt64.toNat_ofNat', UInt64.toNat_ofNat', e, Nat.mod_mod]
attribute [local irreducible] Callable CallOK CallG CallM DrawG LoopG symR symM
attribute [local irreducible] putV numsB rowB lenV
section
variable {X : Nat → Prop} {w : World}
set_option maxRecDepth 100000 in
theorem num_any (v : UInt64) : WrG 60 [.x (.a (.v (vU64 v)))] (putV v) X w := fun r n g γ hn hS => by
  refine calls_fun (n := 8) Tryd.func60 rfl Tryd.ntmps60 _ hS (by simp) (.t []) _ ?_
  simp (config := { maxSteps := 1000000 }) only [push_cast, ↓reduceIte, reduceCtorEq, Nat.reduceEqDiff, Nat.reduceLT, Nat.reduceAdd]
  (repeat (refine And.intro (by first | omega | decide) ?_))
  refine callG_x rfl cb110 rfl (numberOfK v (by simp only [push_cast, Nat.reduceLT, Nat.reduceAdd])) (dOk_lt rfl) (by simp only [push_cast, Nat.reduceLT, Nat.reduceAdd]) ?_
  simp (config := { maxSteps := 1000000 }) only [push_cast, ↓reduceIte, Nat.reduceAdd]
  (repeat (refine And.intro (by first | omega | decide) ?_))
  refine callG_rule rfl cb109 rfl (putK (k0 := 0) (k1 := 1) (k2 := 2) (n := n) (r := r) (b := putV v) hn (by decide) (by decide) (by decide) (by simp only [push_cast, Nat.reduceLT, Nat.reduceAdd]) rfl rfl rfl) (dOk_lt rfl) (fun _ => by simp only [push_cast, Nat.reduceLT, Nat.reduceAdd]) ?_
  simp (config := { maxSteps := 1000000 }) only [push_cast, ↓reduceIte, Nat.reduceEqDiff, Nat.reduceLT, Nat.reduceAdd]
  refine endsAs [0, 4] ?_
  simp (config := { maxSteps := 1000000 }) only [push_cast, ↓reduceIte, reduceCtorEq, Nat.reduceLT, Nat.reduceAdd]
set_option maxRecDepth 100000 in
set_option maxHeartbeats 1000000 in
theorem nums_any (l : List UInt64) (A : Option Addr) (c : Nat) (hl : l.length ≤ 10000000) (hR : FW w X A (l.map vU64)) : WrG 61 [.x (.a (.v (.slice A l.length c)))] (lenV l ++ numsB l) X w := fun r n g γ hn hS => by
  have F := FM.fw (f := vU64) hR
  have eL : putV (UInt64.ofNat l.length) = lenV l := by unfold lenV; rfl
  have hv := (putV_length (UInt64.ofNat l.length)).2
  rw [eL] at hv
  refine calls_fun (n := 25) Tryd.func61 rfl Tryd.ntmps61 _ hS (by simp) (.t []) _ ?_
  simp (config := { maxSteps := 1000000 }) only [u64_ofInt, push_cast, ↓reduceIte, reduceCtorEq, Nat.reduceLT, Nat.reduceAdd]
  (repeat (refine And.intro (by first | omega | decide) ?_))
  refine callG_x rfl cb110 rfl (numberOfK (UInt64.ofNat l.length) (by simp only [push_cast, Nat.reduceLT, Nat.reduceAdd])) (dOk_lt rfl) (by simp only [push_cast, Nat.reduceLT, Nat.reduceAdd]) ?_
  rw [eL]
  simp (config := { maxSteps := 1000000 }) only [push_cast, ↓reduceIte, reduceCtorEq, Nat.reduceEqDiff, Nat.reduceLT, Nat.reduceAdd]
  (repeat (refine And.intro (by first | omega | decide) ?_))
  refine loop_rule (ι := Nat) (fun i => ⟨[(0, .x (.a (.p 0 0))), (4, .x (.a (.o 2))), (11, .x (.a (.v (.slice A l.length c)))), (12, .x (.a (.v (.int .i64 l.length)))), (13, .x (.a (.v (.int .i64 i))))], [.pin g 47 (.c [.o 1, .v (.int .i64 (n : Int))]), .abs (ChR 125 r), .own 5 (.u8 (lenV l ++ numsB (l.take i)))]⟩) (fun i => i ≤ l.length) (fun i => l.length - i) 0 [0, 1, 2] (by omega) ?_ ?_
  · have e0 : numsB [] = [] := by simp [numsB]
    simp (config := { maxSteps := 1000000 }) only [List.take_zero, e0, push_cast, ↓Int.cast_ofNat_Int, Int.cast_ofNat_Int, ↓reduceIte, reduceCtorEq, Nat.reduceEqDiff, Nat.reduceLT, Nat.reduceAdd]
  intro i hi
  by_cases hlt : (i : Int) < l.length
  · have i0 : (0 : Int) ≤ i := by omega
    have c0 := F.cell i (by omega)
    have o0 := F.ok i (by omega)
    have hA := F.some_ (by omega)
    have e1 := numsB_snoc (l.take i) (ix l i)
    rw [← take_ix (by omega)] at e1
    have b1 := numsB_len (l.take i)
    have b2 : (l.take i).length = i := by rw [List.length_take]; omega
    have b3 := (putV_length (ix l i)).2
    have b4 : ((lenV l).length + (numsB (l.take i)).length + (putV (ix l i)).length) ≤ 140737488355328 := by omega
    have b5 : ((lenV l).length + (numsB (l.take i)).length + (putV (ix l i)).length) ≤ 2 ^ 63 - 1 := by omega
    simp (config := { maxSteps := 1000000 }) only [hlt, i0, c0, o0, hA, push_cast, ↓Int.toNat_natCast, ↓reduceIte, reduceCtorEq, Nat.reduceEqDiff, Nat.reduceLT, Nat.reduceAdd]
    (repeat (refine And.intro (by first | omega | decide) ?_))
    refine callG_x rfl cb110 rfl (numberOfK (ix l i) (by simp only [push_cast, Nat.reduceLT, Nat.reduceAdd])) (dOk_lt rfl) (by simp only [push_cast, Nat.reduceLT, Nat.reduceAdd]) ?_
    simp (config := { maxSteps := 1000000 }) only [b4, b5, push_cast, ↓reduceIte, reduceCtorEq, Nat.reduceEqDiff, Nat.reduceLT, Nat.reduceAdd, Int.reduceNeg]
    (repeat (refine And.intro (by first | omega | decide) ?_))
    refine loopK_normal (i + 1) [0, 1, 4] (by omega) (by omega) ?_
    simp (config := { maxSteps := 1000000 }) only [e1, List.append_assoc, push_cast, ↓reduceIte, reduceCtorEq, Nat.reduceEqDiff, Nat.reduceLT, Nat.reduceAdd]
    done
  · have e2 : l.take i = l := List.take_of_length_le (by omega)
    simp (config := { maxSteps := 1000000 }) only [hlt, e2, push_cast, ↓reduceIte, reduceCtorEq, Nat.reduceEqDiff, Nat.reduceLT, Nat.reduceAdd]
    (repeat (refine And.intro (by first | omega | decide) ?_))
    refine callG_rule rfl cb109 rfl (putK (k0 := 0) (k1 := 1) (k2 := 2) (n := n) (r := r) (b := lenV l ++ numsB l) hn (by decide) (by decide) (by decide) (by simp only [push_cast, Nat.reduceLT, Nat.reduceAdd]) rfl rfl rfl) (dOk_lt rfl) (fun _ => by simp only [push_cast, Nat.reduceLT, Nat.reduceAdd]) ?_
    simp (config := { maxSteps := 1000000 }) only [push_cast, ↓reduceIte, Nat.reduceEqDiff, Nat.reduceLT, Nat.reduceAdd]
    refine endsAs [0, 4] ?_
    simp (config := { maxSteps := 1000000 }) only [push_cast, ↓reduceIte, reduceCtorEq, Nat.reduceLT, Nat.reduceAdd]
set_option maxRecDepth 100000 in
set_option maxHeartbeats 1000000 in
theorem row_any (l : List UInt32) (A : Option Addr) (c : Nat) (hl : l.length ≤ 10000000) (hR : FW w X A (l.map vU32)) : WrG 64 [.x (.a (.v (.slice A l.length c)))] (lenV l ++ rowB l) X w := fun r n g γ hn hS => by
  have F := FM.fw (f := vU32) hR
  have eL : putV (UInt64.ofNat l.length) = lenV l := by unfold lenV; rfl
  have hv := (putV_length (UInt64.ofNat l.length)).2
  rw [eL] at hv
  refine calls_fun (n := 35) Tryd.func64 rfl Tryd.ntmps64 _ hS (by simp) (.t []) _ ?_
  simp (config := { maxSteps := 1000000 }) only [u64_ofInt, push_cast, ↓reduceIte, reduceCtorEq, Nat.reduceLT, Nat.reduceAdd]
  (repeat (refine And.intro (by first | omega | decide) ?_))
  refine callG_x rfl cb110 rfl (numberOfK (UInt64.ofNat l.length) (by simp only [push_cast, Nat.reduceLT, Nat.reduceAdd])) (dOk_lt rfl) (by simp only [push_cast, Nat.reduceLT, Nat.reduceAdd]) ?_
  rw [eL]
  simp (config := { maxSteps := 1000000 }) only [push_cast, ↓reduceIte, reduceCtorEq, Nat.reduceEqDiff, Nat.reduceLT, Nat.reduceAdd]
  (repeat (refine And.intro (by first | omega | decide) ?_))
  refine loop_rule (ι := Nat) (fun i => ⟨[(0, .x (.a (.p 0 0))), (4, .x (.a (.o 2))), (11, .x (.a (.v (.slice A l.length c)))), (12, .x (.a (.v (.int .i64 l.length)))), (13, .x (.a (.v (.int .i64 i))))], [.pin g 47 (.c [.o 1, .v (.int .i64 (n : Int))]), .abs (ChR 125 r), .own 5 (.u8 (lenV l ++ rowB (l.take i)))]⟩) (fun i => i ≤ l.length) (fun i => l.length - i) 0 [0, 1, 2] (by omega) ?_ ?_
  · have e0 : rowB [] = [] := by simp [rowB]
    simp (config := { maxSteps := 1000000 }) only [List.take_zero, e0, push_cast, ↓Int.cast_ofNat_Int, Int.cast_ofNat_Int, ↓reduceIte, reduceCtorEq, Nat.reduceEqDiff, Nat.reduceLT, Nat.reduceAdd]
  intro i hi
  by_cases hlt : (i : Int) < l.length
  · have i0 : (0 : Int) ≤ i := by omega
    have c0 := F.cell i (by omega)
    have o0 := F.ok i (by omega)
    have hA := F.some_ (by omega)
    have e1 := rowB_snoc (l.take i) (ix l i)
    rw [← take_ix (by omega)] at e1
    have b1 := rowB_length (l.take i)
    have b2 : (l.take i).length = i := by rw [List.length_take]; omega
    have b4 : ((lenV l).length + (rowB (l.take i)).length + 4) ≤ 140737488355328 := by omega
    have b5 : ((lenV l).length + (rowB (l.take i)).length + 4) ≤ 2 ^ 63 - 1 := by omega
    simp (config := { maxSteps := 1000000 }) only [hlt, i0, c0, o0, hA, b4, b5, push_cast, ↓Int.toNat_natCast, ↓reduceIte, reduceCtorEq, Nat.reduceEqDiff, Nat.reduceLT, Nat.reduceLeDiff, Nat.reduceAdd, Int.reduceNeg, Int.reduceLE, Int.reduceToNat]
    (repeat (refine And.intro (by first | omega | decide) ?_))
    refine loopK_normal (i + 1) [0, 1, 4] (by omega) (by omega) ?_
    rw [b4_eq] at e1
    simp (config := { maxSteps := 1000000 }) only [e1, List.append_assoc, push_cast, ↓reduceIte, reduceCtorEq, Nat.reduceEqDiff, Nat.reduceLT, Nat.reduceAdd]
    done
  · have e2 : l.take i = l := List.take_of_length_le (by omega)
    simp (config := { maxSteps := 1000000 }) only [hlt, e2, push_cast, ↓reduceIte, reduceCtorEq, Nat.reduceEqDiff, Nat.reduceLT, Nat.reduceAdd]
    (repeat (refine And.intro (by first | omega | decide) ?_))
    refine callG_rule rfl cb109 rfl (putK (k0 := 0) (k1 := 1) (k2 := 2) (n := n) (r := r) (b := lenV l ++ rowB l) hn (by decide) (by decide) (by decide) (by simp only [push_cast, Nat.reduceLT, Nat.reduceAdd]) rfl rfl rfl) (dOk_lt rfl) (fun _ => by simp only [push_cast, Nat.reduceLT, Nat.reduceAdd]) ?_
    simp (config := { maxSteps := 1000000 }) only [push_cast, ↓reduceIte, Nat.reduceEqDiff, Nat.reduceLT, Nat.reduceAdd]
    refine endsAs [0, 4] ?_
    simp (config := { maxSteps := 1000000 }) only [push_cast, ↓reduceIte, reduceCtorEq, Nat.reduceLT, Nat.reduceAdd]
set_option maxRecDepth 100000 in
set_option maxHeartbeats 1000000 in
theorem sum_any (l : List UInt8) (hl : l.length = 32) : WrG 63 [.x (.a8 l)] l X w := fun r n g γ hn hS => by
  obtain ⟨T, hT⟩ : ∃ T, T = [Res.pin g 47 (.c [.o 1, .v (.int .i64 ((n + l.length : Nat) : Int))]), .abs (ChR 125 (l :: r))] := ⟨_, rfl⟩
  rw [← hT]
  refine calls_fun (n := 12) Tryd.func63 rfl Tryd.ntmps63 _ hS (by simp) (.t []) _ ?_
  simp (config := { maxSteps := 1000000 }) only [push_cast, ↓Int.cast_ofNat_Int, Int.cast_ofNat_Int, ↓reduceIte, reduceCtorEq, Nat.reduceEqDiff, Nat.reduceLT, Nat.reduceAdd, Nat.reduceSub, Int.reduceLE, Int.reduceLT, Int.reduceToNat, Int.reduceMul]
  (repeat (refine And.intro (by first | omega | decide) ?_))
  refine copyG rfl rfl rfl (by simp only [copyS, dstS, Cont.lay, hl, Res.with, push_cast, ↓reduceIte]; rfl) ?_ (dOk_lt rfl) (by simp only [push_cast, Nat.reduceLT, Nat.reduceAdd]) ?_
  · simp (config := { maxSteps := 1000000 }) only [push_cast]
    done
  simp (config := { maxSteps := 1000000 }) only [hl, push_cast, ↓reduceIte, reduceCtorEq, Nat.reduceEqDiff, Nat.reduceLT, Nat.reduceAdd]
  have hz : List.drop 32 (List.replicate 32 (0 : UInt8)) = [] := rfl
  rw [hz, List.append_nil]
  (repeat (refine And.intro (by first | omega | decide) ?_))
  refine callG_rule rfl cb109 rfl (putK (k0 := 0) (k1 := 1) (k2 := 3) (n := n) (r := r) (b := l) hn (by decide) (by decide) (by decide) (by simp only [push_cast, Nat.reduceLT, Nat.reduceAdd]) rfl rfl rfl) (dOk_lt rfl) (fun _ => by simp only [push_cast, Nat.reduceLT, Nat.reduceAdd]) ?_
  subst hT
  clear hl
  simp (config := { maxSteps := 1000000 }) only [push_cast, ↓reduceIte, Nat.reduceEqDiff, Nat.reduceLT, Nat.reduceAdd]
  refine endsAs [0, 5] ?_
  simp (config := { maxSteps := 1000000 }) only [push_cast, ↓reduceIte, reduceCtorEq, Nat.reduceLT, Nat.reduceAdd]
end
end Go.Proofs.YtiaeollemmkclaaDoor
