/- fp.Add, fp.Sub, poly.Eval, and the document's (caucusref01, caucusref03): a curve's value at a place. -/
import Derived.Test.YteiifdpikcnbgaaGreatDoorFpA
import Derived.Test.YteiifdpikcnbgaaGreatDoorShA
namespace Go.Proofs.YteiifdpikcnbgaaGreatDoor
open Go.RowKit
set_option linter.unusedSimpArgs false
def addU (a b : UInt64) : UInt64 := (a % fpP + b % fpP) % fpP
def subU (a b : UInt64) : UInt64 := (a % fpP + fpP - b % fpP) % fpP
theorem subU_eq (a b : UInt64) : subU a b = (a % fpP + (fpP - b % fpP)) % fpP := by
  have h : ∀ x p y : UInt64, x + p - y = x + (p - y) := fun x p y => by rw [UInt64.sub_eq_add_neg, UInt64.sub_eq_add_neg, UInt64.add_assoc]
  unfold subU
  rw [h]
theorem modP_toNat (a : UInt64) : (a % fpP).toNat = a.toNat % 2305843009213693951 := by rw [UInt64.toNat_mod]; rfl
theorem addU_toNat (a b : UInt64) : (addU a b).toNat = (a.toNat + b.toNat) % 2305843009213693951 := by
  unfold addU
  rw [modP_toNat, UInt64.toNat_add, modP_toNat, modP_toNat]
  omega
theorem subU_toNat (a b : UInt64) : (subU a b).toNat = (a.toNat % 2305843009213693951 + (2305843009213693951 - b.toNat % 2305843009213693951)) % 2305843009213693951 := by
  rw [subU_eq, modP_toNat, UInt64.toNat_add, modP_toNat, UInt64.toNat_sub, modP_toNat]
  have : fpP.toNat = 2305843009213693951 := rfl
  omega
def polyN (c : List UInt64) (x : Nat) : Nat := c.foldr (fun a r => a.toNat + x * r) 0
theorem polyN_cons (a : UInt64) (c : List UInt64) (x : Nat) : polyN (a :: c) x = a.toNat + x * polyN c x := rfl
theorem polyN_app (c d : List UInt64) (x : Nat) : polyN (c ++ d) x = polyN c x + x ^ c.length * polyN d x := by
  induction c with
  | nil => simp [polyN]
  | cons a c ih =>
    rw [List.cons_append, polyN_cons, ih, polyN_cons, List.length_cons, Nat.pow_succ, Nat.mul_add, ← Nat.mul_assoc, Nat.mul_comm x (x ^ c.length)]
    omega
def polyU (c : List UInt64) (x : UInt64) : UInt64 := UInt64.ofNat (polyN c x.toNat % 2305843009213693951)
theorem polyU_toNat (c : List UInt64) (x : UInt64) : (polyU c x).toNat = polyN c x.toNat % 2305843009213693951 := by
  unfold polyU
  rw [UInt64.toNat_ofNat']
  omega
theorem polyU_nil (x : UInt64) : polyU [] x = 0 := rfl
/-- From the last number on. -/
theorem polyU_up (c : List UInt64) (x : UInt64) (k : Nat) (h : k < c.length) : addU (fpMul (polyU (c.drop (k + 1)) x) x) (ix c k) = polyU (c.drop k) x := by
  rw [← UInt64.toNat_inj, addU_toNat, fpMul_toNat, polyU_toNat, polyU_toNat, List.drop_eq_getElem_cons h, polyN_cons]
  have e : ix c k = c[k] := by simp [ix, List.getD_eq_getElem?_getD, List.getElem?_eq_getElem h]
  rw [e, Nat.mod_mul_mod, Nat.mod_add_mod, Nat.mul_comm x.toNat, Nat.add_comm]
def pwX (x : UInt64) (k : Nat) : UInt64 := UInt64.ofNat (x.toNat ^ k % 2305843009213693951)
theorem pwX_toNat (x : UInt64) (k : Nat) : (pwX x k).toNat = x.toNat ^ k % 2305843009213693951 := by
  unfold pwX
  rw [UInt64.toNat_ofNat']
  omega
theorem pwX_zero (x : UInt64) : pwX x 0 = 1 := rfl
theorem pwX_succ (x : UInt64) (k : Nat) : fpMul (pwX x k) x = pwX x (k + 1) := by
  rw [← UInt64.toNat_inj, fpMul_toNat, pwX_toNat, pwX_toNat, Nat.mod_mul_mod, Nat.pow_succ]
/-- From the first number on. -/
theorem polyU_on (c : List UInt64) (x : UInt64) (k : Nat) (h : k < c.length) : addU (polyU (c.take k) x) (fpMul (ix c k) (pwX x k)) = polyU (c.take (k + 1)) x := by
  have e : ix c k = c[k] := by simp [ix, List.getD_eq_getElem?_getD, List.getElem?_eq_getElem h]
  have ht : c.take (k + 1) = c.take k ++ [c[k]] := by rw [List.take_add_one, List.getElem?_eq_getElem h]; rfl
  have hl : (c.take k).length = k := by rw [List.length_take]; omega
  rw [← UInt64.toNat_inj, addU_toNat, fpMul_toNat, polyU_toNat, polyU_toNat, pwX_toNat, ht, polyN_app, hl, e, polyN_cons, Nat.mul_mod_mod, Nat.add_mod_mod, Nat.mod_add_mod]
  have : polyN [] x.toNat = 0 := rfl
  rw [this, Nat.mul_zero, Nat.add_zero, Nat.mul_comm (x.toNat ^ k)]
section
variable {w0 : World} {ow : Nat → Prop} {hp : List Res}
set_option maxRecDepth 100000 in
theorem fpAdd_any (a b : UInt64) (w : World) : Calls Tryz.prog 23 #[vU64 a, vU64 b] w fun e w' => e = .returned (vU64 (addU a b)) ∧ Below w.heap.size w w' := by
  refine calls_v (n := 11) Tryz.func23 rfl Tryz.ntmps23 [.x (.a (.v (vU64 a))), .x (.a (.v (vU64 b)))] (by simp) (.x (.a (.v (vU64 (addU a b))))) (fun _ => rfl) ?_
  simp only [push_cast, ↓Int.toNat_natCast, ↓Int.cast_ofNat_Int, Int.cast_ofNat_Int, ↓reduceIte, reduceCtorEq, Nat.reduceEqDiff, Nat.reduceLT, Nat.reduceLeDiff, Nat.reduceAdd, Nat.reduceSub, Nat.reduceMul, Int.reduceNeg, Int.reduceLE, Int.reduceLT, Int.reduceToNat, Int.reduceAdd, Int.reduceSub, Int.reduceMul, Int.reduceEq]
  (repeat (refine And.intro (by first | omega | decide) ?_))
  refine callG_v rfl cb45 rfl (fpOfK _) (dOk_lt rfl) ?_
  simp only [push_cast, ↓Int.toNat_natCast, ↓Int.cast_ofNat_Int, Int.cast_ofNat_Int, ↓reduceIte, reduceCtorEq, Nat.reduceEqDiff, Nat.reduceLT, Nat.reduceLeDiff, Nat.reduceAdd, Nat.reduceSub, Nat.reduceMul, Int.reduceNeg, Int.reduceLE, Int.reduceLT, Int.reduceToNat, Int.reduceAdd, Int.reduceSub, Int.reduceMul, Int.reduceEq]
  (repeat (refine And.intro (by first | omega | decide) ?_))
  refine callG_v rfl cb45 rfl (fpOfK _) (dOk_lt rfl) ?_
  simp only [push_cast, ↓Int.toNat_natCast, ↓Int.cast_ofNat_Int, Int.cast_ofNat_Int, ↓reduceIte, reduceCtorEq, Nat.reduceEqDiff, Nat.reduceLT, Nat.reduceLeDiff, Nat.reduceAdd, Nat.reduceSub, Nat.reduceMul, Int.reduceNeg, Int.reduceLE, Int.reduceLT, Int.reduceToNat, Int.reduceAdd, Int.reduceSub, Int.reduceMul, Int.reduceEq]
  (repeat (refine And.intro (by first | omega | decide) ?_))
  refine callG_v rfl cb45 rfl (fpOfK _) (dOk_lt rfl) ?_
  simp only [push_cast, ↓Int.toNat_natCast, ↓Int.cast_ofNat_Int, Int.cast_ofNat_Int, ↓reduceIte, reduceCtorEq, Nat.reduceEqDiff, Nat.reduceLT, Nat.reduceLeDiff, Nat.reduceAdd, Nat.reduceSub, Nat.reduceMul, Int.reduceNeg, Int.reduceLE, Int.reduceLT, Int.reduceToNat, Int.reduceAdd, Int.reduceSub, Int.reduceMul, Int.reduceEq]
  (repeat (refine And.intro (by first | omega | decide) ?_))
  rfl
set_option maxRecDepth 100000 in
theorem fpSub_any (a b : UInt64) (w : World) : Calls Tryz.prog 25 #[vU64 a, vU64 b] w fun e w' => e = .returned (vU64 (subU a b)) ∧ Below w.heap.size w w' := by
  refine calls_v (n := 12) Tryz.func25 rfl Tryz.ntmps25 [.x (.a (.v (vU64 a))), .x (.a (.v (vU64 b)))] (by simp) (.x (.a (.v (vU64 (subU a b))))) (fun _ => rfl) ?_
  simp only [push_cast, ↓Int.toNat_natCast, ↓Int.cast_ofNat_Int, Int.cast_ofNat_Int, ↓reduceIte, reduceCtorEq, Nat.reduceEqDiff, Nat.reduceLT, Nat.reduceLeDiff, Nat.reduceAdd, Nat.reduceSub, Nat.reduceMul, Int.reduceNeg, Int.reduceLE, Int.reduceLT, Int.reduceToNat, Int.reduceAdd, Int.reduceSub, Int.reduceMul, Int.reduceEq]
  (repeat (refine And.intro (by first | omega | decide) ?_))
  refine callG_v rfl cb45 rfl (fpOfK _) (dOk_lt rfl) ?_
  simp only [push_cast, ↓Int.toNat_natCast, ↓Int.cast_ofNat_Int, Int.cast_ofNat_Int, ↓reduceIte, reduceCtorEq, Nat.reduceEqDiff, Nat.reduceLT, Nat.reduceLeDiff, Nat.reduceAdd, Nat.reduceSub, Nat.reduceMul, Int.reduceNeg, Int.reduceLE, Int.reduceLT, Int.reduceToNat, Int.reduceAdd, Int.reduceSub, Int.reduceMul, Int.reduceEq]
  (repeat (refine And.intro (by first | omega | decide) ?_))
  refine callG_v rfl cb45 rfl (fpOfK _) (dOk_lt rfl) ?_
  simp only [push_cast, ↓Int.toNat_natCast, ↓Int.cast_ofNat_Int, Int.cast_ofNat_Int, ↓reduceIte, reduceCtorEq, Nat.reduceEqDiff, Nat.reduceLT, Nat.reduceLeDiff, Nat.reduceAdd, Nat.reduceSub, Nat.reduceMul, Int.reduceNeg, Int.reduceLE, Int.reduceLT, Int.reduceToNat, Int.reduceAdd, Int.reduceSub, Int.reduceMul, Int.reduceEq]
  (repeat (refine And.intro (by first | omega | decide) ?_))
  refine callG_v rfl cb45 rfl (fpOfK _) (dOk_lt rfl) ?_
  simp only [push_cast, ↓Int.toNat_natCast, ↓Int.cast_ofNat_Int, Int.cast_ofNat_Int, ↓reduceIte, reduceCtorEq, Nat.reduceEqDiff, Nat.reduceLT, Nat.reduceLeDiff, Nat.reduceAdd, Nat.reduceSub, Nat.reduceMul, Int.reduceNeg, Int.reduceLE, Int.reduceLT, Int.reduceToNat, Int.reduceAdd, Int.reduceSub, Int.reduceMul, Int.reduceEq]
  (repeat (refine And.intro (by first | omega | decide) ?_))
  rfl
theorem fpAddK (a b : UInt64) : CallOK Tryz.prog w0 ow 23 [.x (.a (.v (vU64 a))), .x (.a (.v (vU64 b)))] hp (.x (.a (.v (vU64 (addU a b))))) hp := callOK_v fun _ w _ => fpAdd_any a b w
theorem fpSubK (a b : UInt64) : CallOK Tryz.prog w0 ow 25 [.x (.a (.v (vU64 a))), .x (.a (.v (vU64 b)))] hp (.x (.a (.v (vU64 (subU a b))))) hp := callOK_v fun _ w _ => fpSub_any a b w
end
attribute [local irreducible] addU subU polyU pwX fpMul
theorem down_len (k n : Nat) (h : k = n) : (n : Int) - 1 = (k : Int) - 1 := by omega
set_option maxRecDepth 100000 in
set_option maxHeartbeats 1000000 in
theorem polyEval_any (c : List UInt64) (x : UInt64) (A : Option Addr) (m : Nat) (w : World) (hl : c.length ≤ 1000000) (hR : RdV w w.heap.size A (c.map vU64)) : Calls Tryz.prog 24 #[.slice A c.length m, vU64 x] w fun e w' => e = .returned (vU64 (polyU c x)) ∧ Below w.heap.size w w' := by
  have F := FM.of hR
  refine calls_v (n := 23) Tryz.func24 rfl Tryz.ntmps24 [.x (.a (.v (.slice A c.length m))), .x (.a (.v (vU64 x)))] (by simp) (.x (.a (.v (vU64 (polyU c x))))) (fun _ => rfl) ?_
  have r1 : (-9223372036854775808 : Int) ≤ (c.length : Int) - 1 := by omega
  have r2 : (c.length : Int) - 1 ≤ 9223372036854775807 := by omega
  simp only [r1, r2, undef, push_cast, ↓Int.toNat_natCast, ↓Int.cast_ofNat_Int, Int.cast_ofNat_Int, ↓reduceIte, reduceCtorEq, Nat.reduceEqDiff, Nat.reduceLT, Nat.reduceLeDiff, Nat.reduceAdd, Nat.reduceSub, Nat.reduceMul, Int.reduceNeg, Int.reduceLE, Int.reduceLT, Int.reduceToNat, Int.reduceAdd, Int.reduceSub, Int.reduceMul, Int.reduceEq]
  refine loop_rule (ι := Nat) (fun k => ⟨[(0, .x (.a (.v (.slice A c.length m)))), (1, .x (.a (.v (vU64 x)))), (5, .x (.a (.v (vU64 (polyU (c.drop k) x))))), (6, .x (.a (.v (.int .i64 ((k : Int) - 1)))))], []⟩) (fun k => k ≤ c.length) (fun k => k) c.length [] (by omega) ?_ ?_
  · simp only [List.drop_length, polyU_nil, push_cast, ↓Int.toNat_natCast, ↓Int.cast_ofNat_Int, Int.cast_ofNat_Int, ↓reduceIte, reduceCtorEq, Nat.reduceEqDiff, Nat.reduceLT, Nat.reduceLeDiff, Nat.reduceAdd, Nat.reduceSub, Nat.reduceMul, Int.reduceNeg, Int.reduceLE, Int.reduceLT, Int.reduceToNat, Int.reduceAdd, Int.reduceSub, Int.reduceMul, Int.reduceEq]
    rfl
  · intro k hk
    cases k with
    | zero => simp only [List.drop_zero, undef, push_cast, ↓Int.toNat_natCast, ↓Int.cast_ofNat_Int, Int.cast_ofNat_Int, ↓reduceIte, reduceCtorEq, Nat.reduceEqDiff, Nat.reduceLT, Nat.reduceLeDiff, Nat.reduceAdd, Nat.reduceSub, Nat.reduceMul, Int.reduceNeg, Int.reduceLE, Int.reduceLT, Int.reduceToNat, Int.reduceAdd, Int.reduceSub, Int.reduceMul, Int.reduceEq]
    | succ k =>
      have h0 : (0 : Int) ≤ (k : Int) := by omega
      have hd := down_i k
      have hc := F.cell k (by omega)
      have ho := F.ok k (by omega)
      have hA := F.some_ (by omega)
      have hlt : (k : Int) < c.length := by omega
      have hp := polyU_up c x k (by omega)
      simp only [h0, hd, undef, push_cast, ↓Int.toNat_natCast, ↓Int.cast_ofNat_Int, Int.cast_ofNat_Int, ↓reduceIte, reduceCtorEq, Nat.reduceEqDiff, Nat.reduceLT, Nat.reduceLeDiff, Nat.reduceAdd, Nat.reduceSub, Nat.reduceMul, Int.reduceNeg, Int.reduceLE, Int.reduceLT, Int.reduceToNat, Int.reduceAdd, Int.reduceSub, Int.reduceMul, Int.reduceEq]
      (repeat (refine And.intro (by first | omega | decide) ?_))
      refine draw_rule [(0, true), (1, true), (3, true), (4, true), (5, true), (6, true), (2, false), (7, false), (8, true)] (by kernel_rfl) (by kernel_rfl) rfl (by kernel_rfl) ?_
      simp only [h0, hd, hlt, hc, ho, hA, undef, push_cast, ↓Int.toNat_natCast, ↓Int.cast_ofNat_Int, Int.cast_ofNat_Int, ↓reduceIte, reduceCtorEq, Nat.reduceEqDiff, Nat.reduceLT, Nat.reduceLeDiff, Nat.reduceAdd, Nat.reduceSub, Nat.reduceMul, Int.reduceNeg, Int.reduceLE, Int.reduceLT, Int.reduceToNat, Int.reduceAdd, Int.reduceSub, Int.reduceMul, Int.reduceEq]
      (repeat (refine And.intro (by first | omega | decide) ?_))
      refine callM_v rfl cb41 rfl (fpMulK _ _) (dOk_lt rfl) ?_
      simp only [hlt, hc, ho, hA, undef, push_cast, ↓Int.toNat_natCast, ↓Int.cast_ofNat_Int, Int.cast_ofNat_Int, ↓reduceIte, reduceCtorEq, Nat.reduceEqDiff, Nat.reduceLT, Nat.reduceLeDiff, Nat.reduceAdd, Nat.reduceSub, Nat.reduceMul, Int.reduceNeg, Int.reduceLE, Int.reduceLT, Int.reduceToNat, Int.reduceAdd, Int.reduceSub, Int.reduceMul, Int.reduceEq]
      (repeat (refine And.intro (by first | omega | decide) ?_))
      refine callM_v rfl cb23 rfl (fpAddK _ _) (dOk_lt rfl) ?_
      simp only [hp, undef, push_cast, ↓Int.toNat_natCast, ↓Int.cast_ofNat_Int, Int.cast_ofNat_Int, ↓reduceIte, reduceCtorEq, Nat.reduceEqDiff, Nat.reduceLT, Nat.reduceLeDiff, Nat.reduceAdd, Nat.reduceSub, Nat.reduceMul, Int.reduceNeg, Int.reduceLE, Int.reduceLT, Int.reduceToNat, Int.reduceAdd, Int.reduceSub, Int.reduceMul, Int.reduceEq]
      (repeat (refine And.intro (by first | omega | decide) ?_))
      refine loopK_normal k [] (by omega) (by omega) ?_
      simp only [push_cast, ↓Int.toNat_natCast, ↓Int.cast_ofNat_Int, Int.cast_ofNat_Int, ↓reduceIte, reduceCtorEq, Nat.reduceEqDiff, Nat.reduceLT, Nat.reduceLeDiff, Nat.reduceAdd, Nat.reduceSub, Nat.reduceMul, Int.reduceNeg, Int.reduceLE, Int.reduceLT, Int.reduceToNat, Int.reduceAdd, Int.reduceSub, Int.reduceMul, Int.reduceEq]
theorem polyEvalOK {w0 : World} {hp : List Res} {sv : Sv} {c : List UInt64} (x : UInt64) (hl : c.length ≤ 1000000) (h : Shows w0 No hp sv (c.map vU64)) : CallOK Tryz.prog w0 No 24 [sv, .x (.a (.v (vU64 x)))] hp (.x (.a (.v (vU64 (polyU c x))))) hp := callOK_v fun γ w hS => by
  obtain ⟨A, m, e1, b1, r1⟩ := h γ w hS
  rw [List.length_map] at e1
  show Calls _ _ #[sv.val γ, vU64 x] w _
  rw [e1]
  exact polyEval_any c x A m w hl r1
end Go.Proofs.YteiifdpikcnbgaaGreatDoor
