/- The walk of law 33's FateRuns. -/
import Derived.Test.YtohnlajccfnecaaDoorFtc
import Derived.Test.YtohnlajccfnecaaDoorOpn
namespace Go.Proofs.YtohnlajccfnecaaDoor
open Go.RowKit
set_option linter.unusedSimpArgs false
set_option linter.unusedVariables false
instance {α : Type} : Inhabited (Slc α) := ⟨⟨none, 0, []⟩⟩
/-- What is done: with a sum, or for a reason. -/
abbrev Ac := Bool × Slc Int × Slc UInt32 × Int × Unit
def av (p : Ac) : List Value := [.bool p.1] ++ ([p.2.1.val] ++ ([p.2.2.1.val] ++ ([.int .i64 p.2.2.2.1] ++ [])))
theorem av_len (p : Ac) : (av p).length = 4 := rfl
def avs (l : List Ac) : List Value := l.flatMap av
structure AcOk (w : World) (p : Ac) : Prop where
  i : p.2.1.l.length ≤ p.2.1.c
  ir : RdV w w.heap.size p.2.1.A (p.2.1.l.map vI64)
  r : p.2.2.1.l.length ≤ p.2.2.1.c
  rr : RdV w w.heap.size p.2.2.1.A (p.2.2.1.l.map vU32)
structure FA (w0 : World) (A : Option Addr) (l : List Ac) : Prop where
  some_ : 0 < l.length → A.isSome = true
  c0 : ∀ i, i < l.length → cellOf w0 (pAdd A (i * 4)) = .bool (ix l i).1
  c1 : ∀ i, i < l.length → cellOf w0 (pAdd A (i * 4 + 1)) = (ix l i).2.1.val
  c2 : ∀ i, i < l.length → cellOf w0 (pAdd A (i * 4 + 2)) = (ix l i).2.2.1.val
  c3 : ∀ i, i < l.length → cellOf w0 (pAdd A (i * 4 + 3)) = .int .i64 (ix l i).2.2.2.1
  ok : ∀ i j, i < l.length → j < 4 → rawOk w0 No (pAdd A (i * 4 + j))
theorem FA.of {w0 : World} {A : Option Addr} {l : List Ac} (hR : RdV w0 w0.heap.size A (avs l)) : FA w0 A l := by
  have h := FV.no hR
  have g : ∀ i j, i < l.length → j < 4 → (avs l)[i * 4 + j]? = (av (ix l i))[j]? := fun i j hi hj => flat_get av_len l i j hi hj
  refine ⟨fun hp => h.some_ (by unfold avs; rw [flat_len av_len]; omega), fun i hi => (h.cell (i := i * 4) (g i 0 hi (by omega))).1, fun i hi => (h.cell (g i 1 hi (by omega))).1, fun i hi => (h.cell (g i 2 hi (by omega))).1, fun i hi => (h.cell (g i 3 hi (by omega))).1, fun i j hi hj => ?_⟩
  have hg := g i j hi hj
  rw [List.getElem?_eq_getElem (l := av (ix l i)) (by rw [av_len]; exact hj)] at hg
  exact (h.cell hg).2
theorem callG_le {P : Program} {w0 : World} {ow : Nat → Prop} {n : Nat} {ops rest : List Oper} {o : Oper} {s s' : S} {K : S → Prop} (ρ : List Nat) (h : Le ρ s s') (h2 : CallG P w0 ow n ops o rest s' K) : CallG P w0 ow n ops o rest s K := fun a w hf => h2 a w (h.fits hf)
/-- How a fate stands, and what the document says of it. -/
structure FS where
  k : Int
  r : Int
  I : Slc Int
  R : Slc UInt32
structure FS.Ok (w : World) (x : FS) : Prop where
  k : x.k = 0 ∨ x.k = 1 ∨ x.k = 2
  r : x.k = 2 → 0 ≤ x.r ∧ x.r ≤ 4
  z : x.k = 0 → x.r = 0 ∧ x.I.l = [] ∧ x.R.l = []
  e : ¬ x.k = 1 → x.I.l = [] ∧ x.R.l = []
  il : x.I.l.length ≤ 100
  rl : x.R.l.length ≤ 100
  id : ∀ n ∈ x.I.l, 0 ≤ n ∧ n < 64
  ir : RdV w w.heap.size x.I.A (x.I.l.map vI64)
  rr : RdV w w.heap.size x.R.A (x.R.l.map vU32)
  ic : x.I.l.length ≤ x.I.c
  rc : x.R.l.length ≤ x.R.c
theorem setOk_each {l : List Int} (h : setOk l = true) : ∀ n ∈ l, 0 ≤ n ∧ n < 64 := by
  intro n hn
  obtain ⟨i, hi, rfl⟩ := List.getElem_of_mem hn
  have := (setOk_iff.1 h i hi).2
  rwa [show ix l i = l[i] from by simp [ix, List.getD_eq_getElem?_getD, List.getElem?_eq_getElem hi]] at this
def nilSl {α : Type} : Slc α := ⟨none, 0, []⟩
attribute [local irreducible] Callable CallOK CallG CallM DrawG LoopG symR symM
attribute [local irreducible] txtU setOk
set_option maxRecDepth 100000 in
set_option maxHeartbeats 8000000 in
theorem fateRuns_any (l : List Ac) (A : Option Addr) (c : Nat) (w : World) (hR : RdV w w.heap.size A (avs l)) (hA : ∀ p ∈ l, AcOk w p) (ht : TabW w) :
    Calls Tryd.prog 3 (List.map (Sv.val []) [(.x (.a (.v (.slice A l.length c))))]).toArray w fun e w' => e = .returned (.bool true) ∧ Below w.heap.size w w' := by
  have F := FA.of hR
  refine calls_v (n := 156) Tryd.func3 rfl Tryd.ntmps3 [(.x (.a (.v (.slice A l.length c))))] (by simp) (.x (.a (.v (.bool true)))) (fun _ => rfl) ?_
  simp (config := { maxSteps := 1000000 }) only [undef, push_cast, ↓Int.toNat_natCast, ↓Int.cast_ofNat_Int, Int.cast_ofNat_Int, ↓reduceIte, reduceCtorEq, Nat.reduceEqDiff, Nat.reduceLT, Nat.reduceLeDiff, Nat.reduceAdd, Nat.reduceSub, Nat.reduceMul, Int.reduceNeg, Int.reduceLE, Int.reduceLT, Int.reduceToNat, Int.reduceAdd, Int.reduceSub, Int.reduceMul, Int.reduceEq]
  (repeat (refine And.intro (by first | omega | decide) ?_))
  refine callG_v rfl cb7 rfl nilSumK (dOk_lt rfl) ?_
  simp (config := { maxSteps := 1000000 }) only [undef, push_cast, ↓Int.toNat_natCast, ↓Int.cast_ofNat_Int, Int.cast_ofNat_Int, ↓reduceIte, reduceCtorEq, Nat.reduceEqDiff, Nat.reduceLT, Nat.reduceLeDiff, Nat.reduceAdd, Nat.reduceSub, Nat.reduceMul, Int.reduceNeg, Int.reduceLE, Int.reduceLT, Int.reduceToNat, Int.reduceAdd, Int.reduceSub, Int.reduceMul, Int.reduceEq]
  (repeat (refine And.intro (by first | omega | decide) ?_))
  refine callG_v rfl cb8 rfl (nilDoneK _ _) (dOk_lt rfl) ?_
  simp (config := { maxSteps := 1000000 }) only [undef, push_cast, ↓Int.toNat_natCast, ↓Int.cast_ofNat_Int, Int.cast_ofNat_Int, ↓reduceIte, reduceCtorEq, Nat.reduceEqDiff, Nat.reduceLT, Nat.reduceLeDiff, Nat.reduceAdd, Nat.reduceSub, Nat.reduceMul, Int.reduceNeg, Int.reduceLE, Int.reduceLT, Int.reduceToNat, Int.reduceAdd, Int.reduceSub, Int.reduceMul, Int.reduceEq]
  (repeat (refine And.intro (by first | omega | decide) ?_))
  refine callG_v rfl cb9 rfl (nilAbortK 1) (dOk_lt rfl) ?_
  simp (config := { maxSteps := 1000000 }) only [undef, push_cast, ↓Int.toNat_natCast, ↓Int.cast_ofNat_Int, Int.cast_ofNat_Int, ↓reduceIte, reduceCtorEq, Nat.reduceEqDiff, Nat.reduceLT, Nat.reduceLeDiff, Nat.reduceAdd, Nat.reduceSub, Nat.reduceMul, Int.reduceNeg, Int.reduceLE, Int.reduceLT, Int.reduceToNat, Int.reduceAdd, Int.reduceSub, Int.reduceMul, Int.reduceEq]
  (repeat (refine And.intro (by first | omega | decide) ?_))
  refine callG_v rfl cb10 rfl nilKindK (dOk_lt rfl) ?_
  simp (config := { maxSteps := 1000000 }) only [undef, push_cast, ↓Int.toNat_natCast, ↓Int.cast_ofNat_Int, Int.cast_ofNat_Int, ↓reduceIte, reduceCtorEq, Nat.reduceEqDiff, Nat.reduceLT, Nat.reduceLeDiff, Nat.reduceAdd, Nat.reduceSub, Nat.reduceMul, Int.reduceNeg, Int.reduceLE, Int.reduceLT, Int.reduceToNat, Int.reduceAdd, Int.reduceSub, Int.reduceMul, Int.reduceEq]
  (repeat (refine And.intro (by first | omega | decide) ?_))
  refine callG_v rfl cb11 rfl nilReasonK (dOk_lt rfl) ?_
  simp (config := { maxSteps := 1000000 }) only [undef, push_cast, ↓Int.toNat_natCast, ↓Int.cast_ofNat_Int, Int.cast_ofNat_Int, ↓reduceIte, reduceCtorEq, Nat.reduceEqDiff, Nat.reduceLT, Nat.reduceLeDiff, Nat.reduceAdd, Nat.reduceSub, Nat.reduceMul, Int.reduceNeg, Int.reduceLE, Int.reduceLT, Int.reduceToNat, Int.reduceAdd, Int.reduceSub, Int.reduceMul, Int.reduceEq]
  (repeat (refine And.intro (by first | omega | decide) ?_))
  refine callG_v rfl cb12 rfl nilTextK (dOk_lt rfl) ?_
  simp (config := { maxSteps := 1000000 }) only [open_lit, beq_self_eq_true, undef, push_cast, ↓Int.toNat_natCast, ↓Int.cast_ofNat_Int, Int.cast_ofNat_Int, ↓reduceIte, reduceCtorEq, Nat.reduceEqDiff, Nat.reduceLT, Nat.reduceLeDiff, Nat.reduceAdd, Nat.reduceSub, Nat.reduceMul, Int.reduceNeg, Int.reduceLE, Int.reduceLT, Int.reduceToNat, Int.reduceAdd, Int.reduceSub, Int.reduceMul, Int.reduceEq]
  (repeat (refine And.intro (by first | omega | decide) ?_))
  refine loop_ghostC 1 1 33 3 _ (.i64 []) rfl rfl rfl trivial (by simp only [push_cast, ↓Int.toNat_natCast, ↓Int.cast_ofNat_Int, Int.cast_ofNat_Int, ↓reduceIte, reduceCtorEq, Nat.reduceEqDiff, Nat.reduceLT, Nat.reduceLeDiff, Nat.reduceAdd, Nat.reduceSub, Nat.reduceMul, Int.reduceNeg, Int.reduceLE, Int.reduceLT, Int.reduceToNat, Int.reduceAdd, Int.reduceSub, Int.reduceMul, Int.reduceEq]) ?_
  refine loop_ghostC 1 2 33 46 _ (.u32 []) rfl rfl rfl trivial (by simp only [push_cast, ↓Int.toNat_natCast, ↓Int.cast_ofNat_Int, Int.cast_ofNat_Int, ↓reduceIte, reduceCtorEq, Nat.reduceEqDiff, Nat.reduceLT, Nat.reduceLeDiff, Nat.reduceAdd, Nat.reduceSub, Nat.reduceMul, Int.reduceNeg, Int.reduceLE, Int.reduceLT, Int.reduceToNat, Int.reduceAdd, Int.reduceSub, Int.reduceMul, Int.reduceEq]) ?_
  refine loop_rule (ι := Nat × FS) (fun y => ⟨[(0, (.x (.a (.v (.slice A l.length c))))), (7, .x (.a (.p 0 0))), (8, .x (.a (.p 3 0))), (9, .x (.a (.v (.int .i64 y.1))))], [.blk 33 (.c [.v (.int .i64 y.2.k), .o 1, .o 2, .v (.int .i64 y.2.r)]), .own 3 (.i64 y.2.I.l), .own 46 (.u32 y.2.R.l), .blk 35 (.c [.v (.int .i64 y.2.k), .v (.int .i64 y.2.r), .v y.2.I.val, .v y.2.R.val])]⟩)
    (fun y => y.1 ≤ l.length ∧ FS.Ok w y.2) (fun y => l.length - y.1) (0, ⟨0, 0, nilSl, nilSl⟩) [1, 3, 4, 2] ⟨by omega, ?_⟩ ?_ ?_
  · exact ⟨.inl rfl, (fun h => by cases h), fun _ => ⟨rfl, rfl, rfl⟩, fun _ => ⟨rfl, rfl⟩, Nat.zero_le _, Nat.zero_le _, (fun n hn => by cases hn), RdV.nil_, RdV.nil_, Nat.le_refl _, Nat.le_refl _⟩
  · simp (config := { maxSteps := 1000000 }) only [nilSl, Slc.val, push_cast, ↓Int.toNat_natCast, ↓Int.cast_ofNat_Int, Int.cast_ofNat_Int, ↓reduceIte, reduceCtorEq, Nat.reduceEqDiff, Nat.reduceLT, Nat.reduceLeDiff, Nat.reduceAdd, Nat.reduceSub, Nat.reduceMul, Int.reduceNeg, Int.reduceLE, Int.reduceLT, Int.reduceToNat, Int.reduceAdd, Int.reduceSub, Int.reduceMul, Int.reduceEq]
  rintro ⟨i, k, r, I, R⟩ ⟨hi, hx⟩
  have hi : i ≤ l.length := hi
  by_cases hlt : (i : Int) < l.length
  · by_cases h40 : (i : Int) < 40
    · have hil : i < l.length := by omega
      have i0 : (0 : Int) ≤ i := by omega
      have c0 := F.c0 i hil
      have c1 := F.c1 i hil
      have c2 := F.c2 i hil
      have c3 := F.c3 i hil
      have o0 := F.ok i 0 hil (by omega)
      have o1 := F.ok i 1 hil (by omega)
      have o2 := F.ok i 2 hil (by omega)
      have o3 := F.ok i 3 hil (by omega)
      rw [Nat.add_zero] at o0
      have hA0 := F.some_ (by omega)
      have hp := hA (ix l i) (ix_mem hil)
      generalize ix l i = a at *
      obtain ⟨s, I2, R2, n, _⟩ := a
      obtain ⟨p1, p2, p3, p4⟩ := hp
      dsimp only at c0 c1 c2 c3 p1 p2 p3 p4 hx
      by_cases g1 : (100 : Int) < I2.l.length
      · simp (config := { maxSteps := 1000000 }) only [pAdd_zero, pAdd_add, pAdd_isSome, hlt, h40, i0, c0, c1, c2, c3, o0, o1, o2, o3, hA0, g1, Slc.val, undef, push_cast, ↓Int.toNat_natCast, ↓Int.cast_ofNat_Int, Int.cast_ofNat_Int, ↓reduceIte, reduceCtorEq, Nat.reduceEqDiff, Nat.reduceLT, Nat.reduceLeDiff, Nat.reduceAdd, Nat.reduceSub, Nat.reduceMul, Int.reduceNeg, Int.reduceLE, Int.reduceLT, Int.reduceToNat, Int.reduceAdd, Int.reduceSub, Int.reduceMul, Int.reduceEq]
        (repeat (refine And.intro (by first | omega | decide) ?_))
        refine loopK_normal (i + 1, ⟨k, r, I, R⟩) [0, 1, 2, 3] ⟨by show i + 1 ≤ l.length; omega, hx⟩ (by show l.length - (i + 1) < l.length - i; omega) ?_
        simp (config := { maxSteps := 1000000 }) only [Slc.val, push_cast, ↓Int.toNat_natCast, ↓Int.cast_ofNat_Int, Int.cast_ofNat_Int, ↓reduceIte, reduceCtorEq, Nat.reduceEqDiff, Nat.reduceLT, Nat.reduceLeDiff, Nat.reduceAdd, Nat.reduceSub, Nat.reduceMul, Int.reduceNeg, Int.reduceLE, Int.reduceLT, Int.reduceToNat, Int.reduceAdd, Int.reduceSub, Int.reduceMul, Int.reduceEq]
      by_cases g2 : (100 : Int) < R2.l.length
      · simp (config := { maxSteps := 1000000 }) only [pAdd_zero, pAdd_add, pAdd_isSome, hlt, h40, i0, c0, c1, c2, c3, o0, o1, o2, o3, hA0, g1, g2, Slc.val, undef, push_cast, ↓Int.toNat_natCast, ↓Int.cast_ofNat_Int, Int.cast_ofNat_Int, ↓reduceIte, reduceCtorEq, Nat.reduceEqDiff, Nat.reduceLT, Nat.reduceLeDiff, Nat.reduceAdd, Nat.reduceSub, Nat.reduceMul, Int.reduceNeg, Int.reduceLE, Int.reduceLT, Int.reduceToNat, Int.reduceAdd, Int.reduceSub, Int.reduceMul, Int.reduceEq]
        (repeat (refine And.intro (by first | omega | decide) ?_))
        refine loopK_normal (i + 1, ⟨k, r, I, R⟩) [0, 1, 2, 3] ⟨by show i + 1 ≤ l.length; omega, hx⟩ (by show l.length - (i + 1) < l.length - i; omega) ?_
        simp (config := { maxSteps := 1000000 }) only [Slc.val, push_cast, ↓Int.toNat_natCast, ↓Int.cast_ofNat_Int, Int.cast_ofNat_Int, ↓reduceIte, reduceCtorEq, Nat.reduceEqDiff, Nat.reduceLT, Nat.reduceLeDiff, Nat.reduceAdd, Nat.reduceSub, Nat.reduceMul, Int.reduceNeg, Int.reduceLE, Int.reduceLT, Int.reduceToNat, Int.reduceAdd, Int.reduceSub, Int.reduceMul, Int.reduceEq]
      have b1 : I2.l.length ≤ 1000 := by omega
      rcases (show (s = true ∧ doneOk k I2.l R2.l = true) ∨ (s = true ∧ ¬ doneOk k I2.l R2.l = true) ∨ (s = false ∧ abortOk k n = true) ∨ (s = false ∧ abortOk k n = false) from by
        cases s
        · cases h : abortOk k n
          · exact .inr (.inr (.inr ⟨rfl, rfl⟩))
          · exact .inr (.inr (.inl ⟨rfl, rfl⟩))
        · by_cases h : doneOk k I2.l R2.l = true
          · exact .inl ⟨rfl, h⟩
          · exact .inr (.inl ⟨rfl, h⟩)) with ⟨rfl, hd⟩ | ⟨rfl, hd⟩ | ⟨rfl, hd⟩ | ⟨rfl, hd⟩
      · simp (config := { maxSteps := 1000000 }) only [pAdd_zero, pAdd_add, pAdd_isSome, hlt, h40, i0, c0, c1, c2, c3, o0, o1, o2, o3, hA0, g1, g2, Slc.val, undef, push_cast, ↓Int.toNat_natCast, ↓Int.cast_ofNat_Int, Int.cast_ofNat_Int, ↓reduceIte, reduceCtorEq, Nat.reduceEqDiff, Nat.reduceLT, Nat.reduceLeDiff, Nat.reduceAdd, Nat.reduceSub, Nat.reduceMul, Int.reduceNeg, Int.reduceLE, Int.reduceLT, Int.reduceToNat, Int.reduceAdd, Int.reduceSub, Int.reduceMul, Int.reduceEq]
        (repeat (refine And.intro (by first | omega | decide) ?_))
        obtain ⟨rfl, d1, d2, d3⟩ := doneOk_spec.1 hd
        obtain ⟨rfl, e1, e2⟩ := hx.z rfl
        dsimp only at e1 e2
        obtain ⟨y, hy, hx'⟩ : ∃ y : FS, y = ⟨1, 0, I2, R2⟩ ∧ FS.Ok w y := ⟨_, rfl, .inr (.inl rfl), (fun h => by cases h), (fun h => by cases h), (fun h => absurd rfl h), by show I2.l.length ≤ 100; omega, by show R2.l.length ≤ 100; omega, setOk_each d2, p2, p4, p1, p3⟩
        refine callG_v rfl cb13 rfl (rdoneYesK (ids := I.l) (row := R.l) I2.l R2.l I2.A I2.c R2.A R2.c b1 p1 p2 hd) (dOk_lt rfl) ?_
        simp (config := { maxSteps := 1000000 }) only [pAdd_zero, pAdd_add, pAdd_isSome, hlt, h40, i0, c0, c1, c2, c3, o0, o1, o2, o3, hA0, g1, g2, Slc.val, undef, push_cast, ↓Int.toNat_natCast, ↓Int.cast_ofNat_Int, Int.cast_ofNat_Int, ↓reduceIte, reduceCtorEq, Nat.reduceEqDiff, Nat.reduceLT, Nat.reduceLeDiff, Nat.reduceAdd, Nat.reduceSub, Nat.reduceMul, Int.reduceNeg, Int.reduceLE, Int.reduceLT, Int.reduceToNat, Int.reduceAdd, Int.reduceSub, Int.reduceMul, Int.reduceEq]
        (repeat (refine And.intro (by first | omega | decide) ?_))
        refine callG_rule rfl cb8 rfl (doneYesK (k0 := 0) (p := 1) (q := 2) (by decide) (by decide) (by decide) (by simp only [push_cast, ↓Int.toNat_natCast, ↓Int.cast_ofNat_Int, Int.cast_ofNat_Int, ↓reduceIte, reduceCtorEq, Nat.reduceEqDiff, Nat.reduceLT, Nat.reduceLeDiff, Nat.reduceAdd, Nat.reduceSub, Nat.reduceMul, Int.reduceNeg, Int.reduceLE, Int.reduceLT, Int.reduceToNat, Int.reduceAdd, Int.reduceSub, Int.reduceMul, Int.reduceEq]) rfl (by show some (Res.own _ (.i64 I.l)) = _; rw [e1]) (by show some (Res.own _ (.u32 R.l)) = _; rw [e2]) I2.l R2.l hd b1 (far_raw _ p2 _ _ (by simp) p1) (far_raw _ p4 _ _ (by simp) p3)) (dOk_lt rfl) (fun _ => by simp only [Slc.val, push_cast, ↓Int.toNat_natCast, ↓Int.cast_ofNat_Int, Int.cast_ofNat_Int, ↓reduceIte, reduceCtorEq, Nat.reduceEqDiff, Nat.reduceLT, Nat.reduceLeDiff, Nat.reduceAdd, Nat.reduceSub, Nat.reduceMul, Int.reduceNeg, Int.reduceLE, Int.reduceLT, Int.reduceToNat, Int.reduceAdd, Int.reduceSub, Int.reduceMul, Int.reduceEq]) ?_
        simp (config := { maxSteps := 1000000 }) only [pAdd_zero, pAdd_add, pAdd_isSome, hlt, h40, i0, c0, c1, c2, c3, o0, o1, o2, o3, hA0, g1, g2, Slc.val, undef, push_cast, ↓Int.toNat_natCast, ↓Int.cast_ofNat_Int, Int.cast_ofNat_Int, ↓reduceIte, reduceCtorEq, Nat.reduceEqDiff, Nat.reduceLT, Nat.reduceLeDiff, Nat.reduceAdd, Nat.reduceSub, Nat.reduceMul, Int.reduceNeg, Int.reduceLE, Int.reduceLT, Int.reduceToNat, Int.reduceAdd, Int.reduceSub, Int.reduceMul, Int.reduceEq]
        (repeat (refine And.intro (by first | omega | decide) ?_))
        refine callG_le [0, 7, 8, 3] (s' := ⟨[(110, .x (.a (.p 0 0))), (0, (.x (.a (.v (.slice A l.length c))))), (7, .x (.a (.p 0 0))), (8, .x (.a (.p 3 0))), (9, .x (.a (.v (.int .i64 i))))], [.blk 33 (.c [.v (.int .i64 y.k), .o 1, .o 2, .v (.int .i64 y.r)]), .own 3 (.i64 y.I.l), .own 46 (.u32 y.R.l), .blk 35 (.c [.v (.int .i64 y.k), .v (.int .i64 y.r), .v y.I.val, .v y.R.val])]⟩) (by subst hy; simp (config := { maxSteps := 1000000 }) only [Slc.val, e1, e2, push_cast, ↓Int.toNat_natCast, ↓Int.cast_ofNat_Int, Int.cast_ofNat_Int, ↓reduceIte, reduceCtorEq, Nat.reduceEqDiff, Nat.reduceLT, Nat.reduceLeDiff, Nat.reduceAdd, Nat.reduceSub, Nat.reduceMul, Int.reduceNeg, Int.reduceLE, Int.reduceLT, Int.reduceToNat, Int.reduceAdd, Int.reduceSub, Int.reduceMul, Int.reduceEq]) ?_
        clear hy
        obtain ⟨k, r, I, R⟩ := y
        have t1 := hx'.k
        have t2 := hx'.il
        have t3 := hx'.rl
        have tii : decide (I.l = I.l) = true := decide_eq_true rfl
        have trr : decide (R.l = R.l) = true := decide_eq_true rfl
        dsimp only at t1 t2 t3
        simp (config := { maxSteps := 1000000 }) only [Slc.val, undef, push_cast, ↓Int.toNat_natCast, ↓Int.cast_ofNat_Int, Int.cast_ofNat_Int, ↓reduceIte, reduceCtorEq, Nat.reduceEqDiff, Nat.reduceLT, Nat.reduceLeDiff, Nat.reduceAdd, Nat.reduceSub, Nat.reduceMul, Int.reduceNeg, Int.reduceLE, Int.reduceLT, Int.reduceToNat, Int.reduceAdd, Int.reduceSub, Int.reduceMul, Int.reduceEq]
        by_cases k1 : k = 1
        · subst k1
          refine callG_rule rfl cb7 rfl (sumYesK (k0 := 0) (p := 1) (q := 2) (ids := I.l) (row := R.l) (by omega) (by omega) (by simp only [Slc.val, push_cast, ↓Int.toNat_natCast, ↓Int.cast_ofNat_Int, Int.cast_ofNat_Int, ↓reduceIte, reduceCtorEq, Nat.reduceEqDiff, Nat.reduceLT, Nat.reduceLeDiff, Nat.reduceAdd, Nat.reduceSub, Nat.reduceMul, Int.reduceNeg, Int.reduceLE, Int.reduceLT, Int.reduceToNat, Int.reduceAdd, Int.reduceSub, Int.reduceMul, Int.reduceEq]) rfl rfl rfl) (dOk_lt rfl) (fun _ => by simp only [Slc.val, push_cast, ↓Int.toNat_natCast, ↓Int.cast_ofNat_Int, Int.cast_ofNat_Int, ↓reduceIte, reduceCtorEq, Nat.reduceEqDiff, Nat.reduceLT, Nat.reduceLeDiff, Nat.reduceAdd, Nat.reduceSub, Nat.reduceMul, Int.reduceNeg, Int.reduceLE, Int.reduceLT, Int.reduceToNat, Int.reduceAdd, Int.reduceSub, Int.reduceMul, Int.reduceEq]) ?_
          simp (config := { maxSteps := 1000000 }) only [undef, push_cast, ↓Int.toNat_natCast, ↓Int.cast_ofNat_Int, Int.cast_ofNat_Int, ↓reduceIte, reduceCtorEq, Nat.reduceEqDiff, Nat.reduceLT, Nat.reduceLeDiff, Nat.reduceAdd, Nat.reduceSub, Nat.reduceMul, Int.reduceNeg, Int.reduceLE, Int.reduceLT, Int.reduceToNat, Int.reduceAdd, Int.reduceSub, Int.reduceMul, Int.reduceEq]
          refine draw_keep (0 :: 7 :: 8 :: 9 :: 15 :: 16 :: 17 :: 56 :: 57 :: 70 :: 71 :: 72 :: 73 :: 121 :: 122 :: 123 :: 124 :: 125 :: 128 :: 129 :: 130 :: 131 :: 132 :: 135 :: 136 :: 137 :: 138 :: 139 :: 142 :: 143 :: 144 :: 145 :: 146 :: 149 :: 150 :: 151 :: 152 :: 153 :: []) ?_
          simp (config := { maxSteps := 1000000 }) only [undef, push_cast, ↓Int.toNat_natCast, ↓Int.cast_ofNat_Int, Int.cast_ofNat_Int, ↓reduceIte, reduceCtorEq, Nat.reduceEqDiff, Nat.reduceLT, Nat.reduceLeDiff, Nat.reduceAdd, Nat.reduceSub, Nat.reduceMul, Int.reduceNeg, Int.reduceLE, Int.reduceLT, Int.reduceToNat, Int.reduceAdd, Int.reduceSub, Int.reduceMul, Int.reduceEq]
          refine draw_rule ((0, true) :: (2, true) :: (3, true) :: (1, false) :: (4, true) :: (5, true) :: (6, true) :: (8, true) :: (9, true) :: (7, false) :: (10, true) :: (11, true) :: (12, true) :: (13, true) :: (14, true) :: (15, true) :: (16, true) :: (17, true) :: (18, true) :: (19, true) :: (20, true) :: (21, true) :: (22, true) :: (23, false) :: (24, true) :: (25, true) :: (26, true) :: (27, true) :: (28, true) :: (29, true) :: (30, false) :: (31, true) :: (32, true) :: (33, true) :: (34, true) :: (36, true) :: (35, false) :: (37, false) :: (38, true) :: (39, true) :: []) (by kernel_rfl) (by kernel_rfl) rfl (by kernel_rfl) ?_
          simp (config := { maxSteps := 1000000 }) only [undef, push_cast, ↓Int.toNat_natCast, ↓Int.cast_ofNat_Int, Int.cast_ofNat_Int, ↓reduceIte, reduceCtorEq, Nat.reduceEqDiff, Nat.reduceLT, Nat.reduceLeDiff, Nat.reduceAdd, Nat.reduceSub, Nat.reduceMul, Int.reduceNeg, Int.reduceLE, Int.reduceLT, Int.reduceToNat, Int.reduceAdd, Int.reduceSub, Int.reduceMul, Int.reduceEq]
          (repeat (refine And.intro (by first | omega | decide) ?_))
          refine callM_v rfl cb10 rfl (kindK (k0 := 0) (p := 1) (q := 2) (ids := I.l) (row := R.l) rfl rfl rfl) (dOk_lt rfl) ?_
          simp (config := { maxSteps := 1000000 }) only [undef, push_cast, ↓Int.toNat_natCast, ↓Int.cast_ofNat_Int, Int.cast_ofNat_Int, ↓reduceIte, reduceCtorEq, Nat.reduceEqDiff, Nat.reduceLT, Nat.reduceLeDiff, Nat.reduceAdd, Nat.reduceSub, Nat.reduceMul, Int.reduceNeg, Int.reduceLE, Int.reduceLT, Int.reduceToNat, Int.reduceAdd, Int.reduceSub, Int.reduceMul, Int.reduceEq]
          (repeat (refine And.intro (by first | omega | decide) ?_))
          refine callM_v rfl cb11 rfl (reasonK (k0 := 0) (p := 1) (q := 2) (ids := I.l) (row := R.l) rfl rfl rfl) (dOk_lt rfl) ?_
          simp (config := { maxSteps := 1000000 }) only [undef, push_cast, ↓Int.toNat_natCast, ↓Int.cast_ofNat_Int, Int.cast_ofNat_Int, ↓reduceIte, reduceCtorEq, Nat.reduceEqDiff, Nat.reduceLT, Nat.reduceLeDiff, Nat.reduceAdd, Nat.reduceSub, Nat.reduceMul, Int.reduceNeg, Int.reduceLE, Int.reduceLT, Int.reduceToNat, Int.reduceAdd, Int.reduceSub, Int.reduceMul, Int.reduceEq]
          (repeat (refine And.intro (by first | omega | decide) ?_))
          refine callM_v rfl cb15 rfl (ints33OK (a := I.l) (b := I.l) (by omega) (shows_own rfl fun _ => rfl) (shows_raw hx'.ir _ _ (by simp) hx'.ic)) (dOk_lt rfl) ?_
          simp (config := { maxSteps := 1000000 }) only [tii, undef, push_cast, ↓Int.toNat_natCast, ↓Int.cast_ofNat_Int, Int.cast_ofNat_Int, ↓reduceIte, reduceCtorEq, Nat.reduceEqDiff, Nat.reduceLT, Nat.reduceLeDiff, Nat.reduceAdd, Nat.reduceSub, Nat.reduceMul, Int.reduceNeg, Int.reduceLE, Int.reduceLT, Int.reduceToNat, Int.reduceAdd, Int.reduceSub, Int.reduceMul, Int.reduceEq]
          (repeat (refine And.intro (by first | omega | decide) ?_))
          refine callM_v rfl cb16 rfl (refSame32OK (a := R.l) (b := R.l) (by omega) (shows_own rfl fun _ => rfl) (shows_raw hx'.rr _ _ (by simp) hx'.rc)) (dOk_lt rfl) ?_
          simp (config := { maxSteps := 1000000 }) only [trr, undef, push_cast, ↓Int.toNat_natCast, ↓Int.cast_ofNat_Int, Int.cast_ofNat_Int, ↓reduceIte, reduceCtorEq, Nat.reduceEqDiff, Nat.reduceLT, Nat.reduceLeDiff, Nat.reduceAdd, Nat.reduceSub, Nat.reduceMul, Int.reduceNeg, Int.reduceLE, Int.reduceLT, Int.reduceToNat, Int.reduceAdd, Int.reduceSub, Int.reduceMul, Int.reduceEq]
          (repeat (refine And.intro (by first | omega | decide) ?_))
          refine callM_v rfl cb12 rfl (textK (k0 := 0) (p := 1) (q := 2) (ids := I.l) (row := R.l) t2 t3 hx'.id hx'.r ht rfl rfl rfl) (dOk_lt rfl) ?_
          simp (config := { maxSteps := 1000000 }) only [undef, push_cast, ↓Int.toNat_natCast, ↓Int.cast_ofNat_Int, Int.cast_ofNat_Int, ↓reduceIte, reduceCtorEq, Nat.reduceEqDiff, Nat.reduceLT, Nat.reduceLeDiff, Nat.reduceAdd, Nat.reduceSub, Nat.reduceMul, Int.reduceNeg, Int.reduceLE, Int.reduceLT, Int.reduceToNat, Int.reduceAdd, Int.reduceSub, Int.reduceMul, Int.reduceEq]
          (repeat (refine And.intro (by first | omega | decide) ?_))
          refine callM_v rfl cb17 rfl (rtextK (ids := I.l) (row := R.l) t2 t3 hx'.id t1 hx'.r hx'.ir hx'.rr) (dOk_lt rfl) ?_
          simp (config := { maxSteps := 1000000 }) only [beq_self_eq_true, undef, push_cast, ↓Int.toNat_natCast, ↓Int.cast_ofNat_Int, Int.cast_ofNat_Int, ↓reduceIte, reduceCtorEq, Nat.reduceEqDiff, Nat.reduceLT, Nat.reduceLeDiff, Nat.reduceAdd, Nat.reduceSub, Nat.reduceMul, Int.reduceNeg, Int.reduceLE, Int.reduceLT, Int.reduceToNat, Int.reduceAdd, Int.reduceSub, Int.reduceMul, Int.reduceEq]
          (repeat (refine And.intro (by first | omega | decide) ?_))
          refine loopK_normal (i + 1, ⟨1, r, I, R⟩) [0, 1, 2, 3] ⟨by show i + 1 ≤ l.length; omega, hx'⟩ (by show l.length - (i + 1) < l.length - i; omega) ?_
          simp (config := { maxSteps := 1000000 }) only [Slc.val, push_cast, ↓Int.toNat_natCast, ↓Int.cast_ofNat_Int, Int.cast_ofNat_Int, ↓reduceIte, reduceCtorEq, Nat.reduceEqDiff, Nat.reduceLT, Nat.reduceLeDiff, Nat.reduceAdd, Nat.reduceSub, Nat.reduceMul, Int.reduceNeg, Int.reduceLE, Int.reduceLT, Int.reduceToNat, Int.reduceAdd, Int.reduceSub, Int.reduceMul, Int.reduceEq]
        · have hk1 : decide (k = 1) = false := decide_eq_false k1
          obtain ⟨t4, t5⟩ := hx'.e k1
          dsimp only at t4 t5
          refine callG_v rfl cb7 rfl (sumNoK (k0 := 0) (p := 1) (q := 2) (ids := I.l) (row := R.l) k1 rfl rfl rfl) (dOk_lt rfl) ?_
          simp (config := { maxSteps := 1000000 }) only [undef, push_cast, ↓Int.toNat_natCast, ↓Int.cast_ofNat_Int, Int.cast_ofNat_Int, ↓reduceIte, reduceCtorEq, Nat.reduceEqDiff, Nat.reduceLT, Nat.reduceLeDiff, Nat.reduceAdd, Nat.reduceSub, Nat.reduceMul, Int.reduceNeg, Int.reduceLE, Int.reduceLT, Int.reduceToNat, Int.reduceAdd, Int.reduceSub, Int.reduceMul, Int.reduceEq]
          refine draw_keep (0 :: 7 :: 8 :: 9 :: 15 :: 16 :: 17 :: 56 :: 57 :: 70 :: 71 :: 72 :: 73 :: 121 :: 122 :: 123 :: 124 :: 125 :: 128 :: 129 :: 130 :: 131 :: 132 :: 135 :: 136 :: 137 :: 138 :: 139 :: 142 :: 143 :: 144 :: 145 :: 146 :: 149 :: 150 :: 151 :: 152 :: 153 :: []) ?_
          simp (config := { maxSteps := 1000000 }) only [undef, push_cast, ↓Int.toNat_natCast, ↓Int.cast_ofNat_Int, Int.cast_ofNat_Int, ↓reduceIte, reduceCtorEq, Nat.reduceEqDiff, Nat.reduceLT, Nat.reduceLeDiff, Nat.reduceAdd, Nat.reduceSub, Nat.reduceMul, Int.reduceNeg, Int.reduceLE, Int.reduceLT, Int.reduceToNat, Int.reduceAdd, Int.reduceSub, Int.reduceMul, Int.reduceEq]
          refine draw_rule ((0, true) :: (2, true) :: (3, true) :: (1, false) :: (4, true) :: (5, true) :: (6, true) :: (8, true) :: (9, true) :: (7, false) :: (10, true) :: (11, true) :: (12, true) :: (13, true) :: (14, true) :: (15, true) :: (16, true) :: (17, true) :: (18, true) :: (19, true) :: (20, true) :: (21, true) :: (22, true) :: (23, false) :: (24, true) :: (25, true) :: (26, true) :: (27, true) :: (28, true) :: (29, true) :: (30, false) :: (31, true) :: (32, true) :: (33, true) :: (34, true) :: (36, true) :: (35, false) :: (37, false) :: (38, true) :: (39, true) :: []) (by kernel_rfl) (by kernel_rfl) rfl (by kernel_rfl) ?_
          simp (config := { maxSteps := 1000000 }) only [undef, push_cast, ↓Int.toNat_natCast, ↓Int.cast_ofNat_Int, Int.cast_ofNat_Int, ↓reduceIte, reduceCtorEq, Nat.reduceEqDiff, Nat.reduceLT, Nat.reduceLeDiff, Nat.reduceAdd, Nat.reduceSub, Nat.reduceMul, Int.reduceNeg, Int.reduceLE, Int.reduceLT, Int.reduceToNat, Int.reduceAdd, Int.reduceSub, Int.reduceMul, Int.reduceEq]
          (repeat (refine And.intro (by first | omega | decide) ?_))
          refine callM_v rfl cb10 rfl (kindK (k0 := 0) (p := 1) (q := 2) (ids := I.l) (row := R.l) rfl rfl rfl) (dOk_lt rfl) ?_
          simp (config := { maxSteps := 1000000 }) only [undef, push_cast, ↓Int.toNat_natCast, ↓Int.cast_ofNat_Int, Int.cast_ofNat_Int, ↓reduceIte, reduceCtorEq, Nat.reduceEqDiff, Nat.reduceLT, Nat.reduceLeDiff, Nat.reduceAdd, Nat.reduceSub, Nat.reduceMul, Int.reduceNeg, Int.reduceLE, Int.reduceLT, Int.reduceToNat, Int.reduceAdd, Int.reduceSub, Int.reduceMul, Int.reduceEq]
          (repeat (refine And.intro (by first | omega | decide) ?_))
          refine callM_v rfl cb11 rfl (reasonK (k0 := 0) (p := 1) (q := 2) (ids := I.l) (row := R.l) rfl rfl rfl) (dOk_lt rfl) ?_
          simp (config := { maxSteps := 1000000 }) only [hk1, k1, undef, push_cast, ↓Int.toNat_natCast, ↓Int.cast_ofNat_Int, Int.cast_ofNat_Int, ↓reduceIte, reduceCtorEq, Nat.reduceEqDiff, Nat.reduceLT, Nat.reduceLeDiff, Nat.reduceAdd, Nat.reduceSub, Nat.reduceMul, Int.reduceNeg, Int.reduceLE, Int.reduceLT, Int.reduceToNat, Int.reduceAdd, Int.reduceSub, Int.reduceMul, Int.reduceEq]
          (repeat (refine And.intro (by first | omega | decide) ?_))
          have t4e : decide ([] = I.l) = true := decide_eq_true t4.symm
          have t5e : decide ([] = R.l) = true := decide_eq_true t5.symm
          refine callM_v rfl cb15 rfl (ints33OK (a := []) (b := I.l) (by simp) shows_nil (shows_raw hx'.ir _ _ (by simp) hx'.ic)) (dOk_lt rfl) ?_
          simp (config := { maxSteps := 1000000 }) only [t4e, hk1, k1, undef, push_cast, ↓Int.toNat_natCast, ↓Int.cast_ofNat_Int, Int.cast_ofNat_Int, ↓reduceIte, reduceCtorEq, Nat.reduceEqDiff, Nat.reduceLT, Nat.reduceLeDiff, Nat.reduceAdd, Nat.reduceSub, Nat.reduceMul, Int.reduceNeg, Int.reduceLE, Int.reduceLT, Int.reduceToNat, Int.reduceAdd, Int.reduceSub, Int.reduceMul, Int.reduceEq]
          (repeat (refine And.intro (by first | omega | decide) ?_))
          refine callM_v rfl cb16 rfl (refSame32OK (a := []) (b := R.l) (by simp) shows_nil (shows_raw hx'.rr _ _ (by simp) hx'.rc)) (dOk_lt rfl) ?_
          simp (config := { maxSteps := 1000000 }) only [t5e, hk1, k1, undef, push_cast, ↓Int.toNat_natCast, ↓Int.cast_ofNat_Int, Int.cast_ofNat_Int, ↓reduceIte, reduceCtorEq, Nat.reduceEqDiff, Nat.reduceLT, Nat.reduceLeDiff, Nat.reduceAdd, Nat.reduceSub, Nat.reduceMul, Int.reduceNeg, Int.reduceLE, Int.reduceLT, Int.reduceToNat, Int.reduceAdd, Int.reduceSub, Int.reduceMul, Int.reduceEq]
          (repeat (refine And.intro (by first | omega | decide) ?_))
          refine callM_v rfl cb12 rfl (textK (k0 := 0) (p := 1) (q := 2) (ids := I.l) (row := R.l) t2 t3 hx'.id hx'.r ht rfl rfl rfl) (dOk_lt rfl) ?_
          simp (config := { maxSteps := 1000000 }) only [hk1, k1, undef, push_cast, ↓Int.toNat_natCast, ↓Int.cast_ofNat_Int, Int.cast_ofNat_Int, ↓reduceIte, reduceCtorEq, Nat.reduceEqDiff, Nat.reduceLT, Nat.reduceLeDiff, Nat.reduceAdd, Nat.reduceSub, Nat.reduceMul, Int.reduceNeg, Int.reduceLE, Int.reduceLT, Int.reduceToNat, Int.reduceAdd, Int.reduceSub, Int.reduceMul, Int.reduceEq]
          (repeat (refine And.intro (by first | omega | decide) ?_))
          refine callM_v rfl cb17 rfl (rtextK (ids := I.l) (row := R.l) t2 t3 hx'.id t1 hx'.r hx'.ir hx'.rr) (dOk_lt rfl) ?_
          simp (config := { maxSteps := 1000000 }) only [beq_self_eq_true, hk1, k1, undef, push_cast, ↓Int.toNat_natCast, ↓Int.cast_ofNat_Int, Int.cast_ofNat_Int, ↓reduceIte, reduceCtorEq, Nat.reduceEqDiff, Nat.reduceLT, Nat.reduceLeDiff, Nat.reduceAdd, Nat.reduceSub, Nat.reduceMul, Int.reduceNeg, Int.reduceLE, Int.reduceLT, Int.reduceToNat, Int.reduceAdd, Int.reduceSub, Int.reduceMul, Int.reduceEq]
          (repeat (refine And.intro (by first | omega | decide) ?_))
          refine loopK_normal (i + 1, ⟨k, r, I, R⟩) [0, 1, 2, 3] ⟨by show i + 1 ≤ l.length; omega, hx'⟩ (by show l.length - (i + 1) < l.length - i; omega) ?_
          simp (config := { maxSteps := 1000000 }) only [Slc.val, push_cast, ↓Int.toNat_natCast, ↓Int.cast_ofNat_Int, Int.cast_ofNat_Int, ↓reduceIte, reduceCtorEq, Nat.reduceEqDiff, Nat.reduceLT, Nat.reduceLeDiff, Nat.reduceAdd, Nat.reduceSub, Nat.reduceMul, Int.reduceNeg, Int.reduceLE, Int.reduceLT, Int.reduceToNat, Int.reduceAdd, Int.reduceSub, Int.reduceMul, Int.reduceEq]

      · simp (config := { maxSteps := 1000000 }) only [pAdd_zero, pAdd_add, pAdd_isSome, hlt, h40, i0, c0, c1, c2, c3, o0, o1, o2, o3, hA0, g1, g2, Slc.val, undef, push_cast, ↓Int.toNat_natCast, ↓Int.cast_ofNat_Int, Int.cast_ofNat_Int, ↓reduceIte, reduceCtorEq, Nat.reduceEqDiff, Nat.reduceLT, Nat.reduceLeDiff, Nat.reduceAdd, Nat.reduceSub, Nat.reduceMul, Int.reduceNeg, Int.reduceLE, Int.reduceLT, Int.reduceToNat, Int.reduceAdd, Int.reduceSub, Int.reduceMul, Int.reduceEq]
        (repeat (refine And.intro (by first | omega | decide) ?_))
        obtain ⟨y, hy, hx'⟩ : ∃ y : FS, y = ⟨k, r, I, R⟩ ∧ FS.Ok w y := ⟨_, rfl, hx⟩
        refine callG_v rfl cb13 rfl (rdoneNoK (ids := I.l) (row := R.l) I2.l R2.l I2.A I2.c R2.A R2.c b1 p1 p2 hd) (dOk_lt rfl) ?_
        simp (config := { maxSteps := 1000000 }) only [pAdd_zero, pAdd_add, pAdd_isSome, hlt, h40, i0, c0, c1, c2, c3, o0, o1, o2, o3, hA0, g1, g2, Slc.val, undef, push_cast, ↓Int.toNat_natCast, ↓Int.cast_ofNat_Int, Int.cast_ofNat_Int, ↓reduceIte, reduceCtorEq, Nat.reduceEqDiff, Nat.reduceLT, Nat.reduceLeDiff, Nat.reduceAdd, Nat.reduceSub, Nat.reduceMul, Int.reduceNeg, Int.reduceLE, Int.reduceLT, Int.reduceToNat, Int.reduceAdd, Int.reduceSub, Int.reduceMul, Int.reduceEq]
        (repeat (refine And.intro (by first | omega | decide) ?_))
        refine callG_v rfl cb8 rfl (doneNoK (k0 := 0) (p := 1) (q := 2) I2.l R2.l b1 hd (shows_raw p2 _ _ (by simp) p1) (shows_raw p4 _ _ (by simp) p3) rfl rfl rfl) (dOk_lt rfl) ?_
        simp (config := { maxSteps := 1000000 }) only [pAdd_zero, pAdd_add, pAdd_isSome, hlt, h40, i0, c0, c1, c2, c3, o0, o1, o2, o3, hA0, g1, g2, Slc.val, undef, push_cast, ↓Int.toNat_natCast, ↓Int.cast_ofNat_Int, Int.cast_ofNat_Int, ↓reduceIte, reduceCtorEq, Nat.reduceEqDiff, Nat.reduceLT, Nat.reduceLeDiff, Nat.reduceAdd, Nat.reduceSub, Nat.reduceMul, Int.reduceNeg, Int.reduceLE, Int.reduceLT, Int.reduceToNat, Int.reduceAdd, Int.reduceSub, Int.reduceMul, Int.reduceEq]
        (repeat (refine And.intro (by first | omega | decide) ?_))
        refine callG_le [0, 1, 2, 3] (s' := ⟨[(110, .x (.a (.p 0 0))), (0, (.x (.a (.v (.slice A l.length c))))), (7, .x (.a (.p 0 0))), (8, .x (.a (.p 3 0))), (9, .x (.a (.v (.int .i64 i))))], [.blk 33 (.c [.v (.int .i64 y.k), .o 1, .o 2, .v (.int .i64 y.r)]), .own 3 (.i64 y.I.l), .own 46 (.u32 y.R.l), .blk 35 (.c [.v (.int .i64 y.k), .v (.int .i64 y.r), .v y.I.val, .v y.R.val])]⟩) (by subst hy; simp (config := { maxSteps := 1000000 }) only [Slc.val, push_cast, ↓Int.toNat_natCast, ↓Int.cast_ofNat_Int, Int.cast_ofNat_Int, ↓reduceIte, reduceCtorEq, Nat.reduceEqDiff, Nat.reduceLT, Nat.reduceLeDiff, Nat.reduceAdd, Nat.reduceSub, Nat.reduceMul, Int.reduceNeg, Int.reduceLE, Int.reduceLT, Int.reduceToNat, Int.reduceAdd, Int.reduceSub, Int.reduceMul, Int.reduceEq]) ?_
        clear hy
        obtain ⟨k, r, I, R⟩ := y
        have t1 := hx'.k
        have t2 := hx'.il
        have t3 := hx'.rl
        have tii : decide (I.l = I.l) = true := decide_eq_true rfl
        have trr : decide (R.l = R.l) = true := decide_eq_true rfl
        dsimp only at t1 t2 t3
        simp (config := { maxSteps := 1000000 }) only [Slc.val, undef, push_cast, ↓Int.toNat_natCast, ↓Int.cast_ofNat_Int, Int.cast_ofNat_Int, ↓reduceIte, reduceCtorEq, Nat.reduceEqDiff, Nat.reduceLT, Nat.reduceLeDiff, Nat.reduceAdd, Nat.reduceSub, Nat.reduceMul, Int.reduceNeg, Int.reduceLE, Int.reduceLT, Int.reduceToNat, Int.reduceAdd, Int.reduceSub, Int.reduceMul, Int.reduceEq]
        by_cases k1 : k = 1
        · subst k1
          refine callG_rule rfl cb7 rfl (sumYesK (k0 := 0) (p := 1) (q := 2) (ids := I.l) (row := R.l) (by omega) (by omega) (by simp only [Slc.val, push_cast, ↓Int.toNat_natCast, ↓Int.cast_ofNat_Int, Int.cast_ofNat_Int, ↓reduceIte, reduceCtorEq, Nat.reduceEqDiff, Nat.reduceLT, Nat.reduceLeDiff, Nat.reduceAdd, Nat.reduceSub, Nat.reduceMul, Int.reduceNeg, Int.reduceLE, Int.reduceLT, Int.reduceToNat, Int.reduceAdd, Int.reduceSub, Int.reduceMul, Int.reduceEq]) rfl rfl rfl) (dOk_lt rfl) (fun _ => by simp only [Slc.val, push_cast, ↓Int.toNat_natCast, ↓Int.cast_ofNat_Int, Int.cast_ofNat_Int, ↓reduceIte, reduceCtorEq, Nat.reduceEqDiff, Nat.reduceLT, Nat.reduceLeDiff, Nat.reduceAdd, Nat.reduceSub, Nat.reduceMul, Int.reduceNeg, Int.reduceLE, Int.reduceLT, Int.reduceToNat, Int.reduceAdd, Int.reduceSub, Int.reduceMul, Int.reduceEq]) ?_
          simp (config := { maxSteps := 1000000 }) only [undef, push_cast, ↓Int.toNat_natCast, ↓Int.cast_ofNat_Int, Int.cast_ofNat_Int, ↓reduceIte, reduceCtorEq, Nat.reduceEqDiff, Nat.reduceLT, Nat.reduceLeDiff, Nat.reduceAdd, Nat.reduceSub, Nat.reduceMul, Int.reduceNeg, Int.reduceLE, Int.reduceLT, Int.reduceToNat, Int.reduceAdd, Int.reduceSub, Int.reduceMul, Int.reduceEq]
          refine draw_keep (0 :: 7 :: 8 :: 9 :: 15 :: 16 :: 17 :: 56 :: 57 :: 70 :: 71 :: 72 :: 73 :: 121 :: 122 :: 123 :: 124 :: 125 :: 128 :: 129 :: 130 :: 131 :: 132 :: 135 :: 136 :: 137 :: 138 :: 139 :: 142 :: 143 :: 144 :: 145 :: 146 :: 149 :: 150 :: 151 :: 152 :: 153 :: []) ?_
          simp (config := { maxSteps := 1000000 }) only [undef, push_cast, ↓Int.toNat_natCast, ↓Int.cast_ofNat_Int, Int.cast_ofNat_Int, ↓reduceIte, reduceCtorEq, Nat.reduceEqDiff, Nat.reduceLT, Nat.reduceLeDiff, Nat.reduceAdd, Nat.reduceSub, Nat.reduceMul, Int.reduceNeg, Int.reduceLE, Int.reduceLT, Int.reduceToNat, Int.reduceAdd, Int.reduceSub, Int.reduceMul, Int.reduceEq]
          refine draw_rule ((0, true) :: (2, true) :: (3, true) :: (1, false) :: (4, true) :: (5, true) :: (6, true) :: (8, true) :: (9, true) :: (7, false) :: (10, true) :: (11, true) :: (12, true) :: (13, true) :: (14, true) :: (15, true) :: (16, true) :: (17, true) :: (18, true) :: (19, true) :: (20, true) :: (21, true) :: (22, true) :: (23, false) :: (24, true) :: (25, true) :: (26, true) :: (27, true) :: (28, true) :: (29, true) :: (30, false) :: (31, true) :: (32, true) :: (33, true) :: (34, true) :: (36, true) :: (35, false) :: (37, false) :: (38, true) :: (39, true) :: []) (by kernel_rfl) (by kernel_rfl) rfl (by kernel_rfl) ?_
          simp (config := { maxSteps := 1000000 }) only [undef, push_cast, ↓Int.toNat_natCast, ↓Int.cast_ofNat_Int, Int.cast_ofNat_Int, ↓reduceIte, reduceCtorEq, Nat.reduceEqDiff, Nat.reduceLT, Nat.reduceLeDiff, Nat.reduceAdd, Nat.reduceSub, Nat.reduceMul, Int.reduceNeg, Int.reduceLE, Int.reduceLT, Int.reduceToNat, Int.reduceAdd, Int.reduceSub, Int.reduceMul, Int.reduceEq]
          (repeat (refine And.intro (by first | omega | decide) ?_))
          refine callM_v rfl cb10 rfl (kindK (k0 := 0) (p := 1) (q := 2) (ids := I.l) (row := R.l) rfl rfl rfl) (dOk_lt rfl) ?_
          simp (config := { maxSteps := 1000000 }) only [undef, push_cast, ↓Int.toNat_natCast, ↓Int.cast_ofNat_Int, Int.cast_ofNat_Int, ↓reduceIte, reduceCtorEq, Nat.reduceEqDiff, Nat.reduceLT, Nat.reduceLeDiff, Nat.reduceAdd, Nat.reduceSub, Nat.reduceMul, Int.reduceNeg, Int.reduceLE, Int.reduceLT, Int.reduceToNat, Int.reduceAdd, Int.reduceSub, Int.reduceMul, Int.reduceEq]
          (repeat (refine And.intro (by first | omega | decide) ?_))
          refine callM_v rfl cb11 rfl (reasonK (k0 := 0) (p := 1) (q := 2) (ids := I.l) (row := R.l) rfl rfl rfl) (dOk_lt rfl) ?_
          simp (config := { maxSteps := 1000000 }) only [undef, push_cast, ↓Int.toNat_natCast, ↓Int.cast_ofNat_Int, Int.cast_ofNat_Int, ↓reduceIte, reduceCtorEq, Nat.reduceEqDiff, Nat.reduceLT, Nat.reduceLeDiff, Nat.reduceAdd, Nat.reduceSub, Nat.reduceMul, Int.reduceNeg, Int.reduceLE, Int.reduceLT, Int.reduceToNat, Int.reduceAdd, Int.reduceSub, Int.reduceMul, Int.reduceEq]
          (repeat (refine And.intro (by first | omega | decide) ?_))
          refine callM_v rfl cb15 rfl (ints33OK (a := I.l) (b := I.l) (by omega) (shows_own rfl fun _ => rfl) (shows_raw hx'.ir _ _ (by simp) hx'.ic)) (dOk_lt rfl) ?_
          simp (config := { maxSteps := 1000000 }) only [tii, undef, push_cast, ↓Int.toNat_natCast, ↓Int.cast_ofNat_Int, Int.cast_ofNat_Int, ↓reduceIte, reduceCtorEq, Nat.reduceEqDiff, Nat.reduceLT, Nat.reduceLeDiff, Nat.reduceAdd, Nat.reduceSub, Nat.reduceMul, Int.reduceNeg, Int.reduceLE, Int.reduceLT, Int.reduceToNat, Int.reduceAdd, Int.reduceSub, Int.reduceMul, Int.reduceEq]
          (repeat (refine And.intro (by first | omega | decide) ?_))
          refine callM_v rfl cb16 rfl (refSame32OK (a := R.l) (b := R.l) (by omega) (shows_own rfl fun _ => rfl) (shows_raw hx'.rr _ _ (by simp) hx'.rc)) (dOk_lt rfl) ?_
          simp (config := { maxSteps := 1000000 }) only [trr, undef, push_cast, ↓Int.toNat_natCast, ↓Int.cast_ofNat_Int, Int.cast_ofNat_Int, ↓reduceIte, reduceCtorEq, Nat.reduceEqDiff, Nat.reduceLT, Nat.reduceLeDiff, Nat.reduceAdd, Nat.reduceSub, Nat.reduceMul, Int.reduceNeg, Int.reduceLE, Int.reduceLT, Int.reduceToNat, Int.reduceAdd, Int.reduceSub, Int.reduceMul, Int.reduceEq]
          (repeat (refine And.intro (by first | omega | decide) ?_))
          refine callM_v rfl cb12 rfl (textK (k0 := 0) (p := 1) (q := 2) (ids := I.l) (row := R.l) t2 t3 hx'.id hx'.r ht rfl rfl rfl) (dOk_lt rfl) ?_
          simp (config := { maxSteps := 1000000 }) only [undef, push_cast, ↓Int.toNat_natCast, ↓Int.cast_ofNat_Int, Int.cast_ofNat_Int, ↓reduceIte, reduceCtorEq, Nat.reduceEqDiff, Nat.reduceLT, Nat.reduceLeDiff, Nat.reduceAdd, Nat.reduceSub, Nat.reduceMul, Int.reduceNeg, Int.reduceLE, Int.reduceLT, Int.reduceToNat, Int.reduceAdd, Int.reduceSub, Int.reduceMul, Int.reduceEq]
          (repeat (refine And.intro (by first | omega | decide) ?_))
          refine callM_v rfl cb17 rfl (rtextK (ids := I.l) (row := R.l) t2 t3 hx'.id t1 hx'.r hx'.ir hx'.rr) (dOk_lt rfl) ?_
          simp (config := { maxSteps := 1000000 }) only [beq_self_eq_true, undef, push_cast, ↓Int.toNat_natCast, ↓Int.cast_ofNat_Int, Int.cast_ofNat_Int, ↓reduceIte, reduceCtorEq, Nat.reduceEqDiff, Nat.reduceLT, Nat.reduceLeDiff, Nat.reduceAdd, Nat.reduceSub, Nat.reduceMul, Int.reduceNeg, Int.reduceLE, Int.reduceLT, Int.reduceToNat, Int.reduceAdd, Int.reduceSub, Int.reduceMul, Int.reduceEq]
          (repeat (refine And.intro (by first | omega | decide) ?_))
          refine loopK_normal (i + 1, ⟨1, r, I, R⟩) [0, 1, 2, 3] ⟨by show i + 1 ≤ l.length; omega, hx'⟩ (by show l.length - (i + 1) < l.length - i; omega) ?_
          simp (config := { maxSteps := 1000000 }) only [Slc.val, push_cast, ↓Int.toNat_natCast, ↓Int.cast_ofNat_Int, Int.cast_ofNat_Int, ↓reduceIte, reduceCtorEq, Nat.reduceEqDiff, Nat.reduceLT, Nat.reduceLeDiff, Nat.reduceAdd, Nat.reduceSub, Nat.reduceMul, Int.reduceNeg, Int.reduceLE, Int.reduceLT, Int.reduceToNat, Int.reduceAdd, Int.reduceSub, Int.reduceMul, Int.reduceEq]
        · have hk1 : decide (k = 1) = false := decide_eq_false k1
          obtain ⟨t4, t5⟩ := hx'.e k1
          dsimp only at t4 t5
          refine callG_v rfl cb7 rfl (sumNoK (k0 := 0) (p := 1) (q := 2) (ids := I.l) (row := R.l) k1 rfl rfl rfl) (dOk_lt rfl) ?_
          simp (config := { maxSteps := 1000000 }) only [undef, push_cast, ↓Int.toNat_natCast, ↓Int.cast_ofNat_Int, Int.cast_ofNat_Int, ↓reduceIte, reduceCtorEq, Nat.reduceEqDiff, Nat.reduceLT, Nat.reduceLeDiff, Nat.reduceAdd, Nat.reduceSub, Nat.reduceMul, Int.reduceNeg, Int.reduceLE, Int.reduceLT, Int.reduceToNat, Int.reduceAdd, Int.reduceSub, Int.reduceMul, Int.reduceEq]
          refine draw_keep (0 :: 7 :: 8 :: 9 :: 15 :: 16 :: 17 :: 56 :: 57 :: 70 :: 71 :: 72 :: 73 :: 121 :: 122 :: 123 :: 124 :: 125 :: 128 :: 129 :: 130 :: 131 :: 132 :: 135 :: 136 :: 137 :: 138 :: 139 :: 142 :: 143 :: 144 :: 145 :: 146 :: 149 :: 150 :: 151 :: 152 :: 153 :: []) ?_
          simp (config := { maxSteps := 1000000 }) only [undef, push_cast, ↓Int.toNat_natCast, ↓Int.cast_ofNat_Int, Int.cast_ofNat_Int, ↓reduceIte, reduceCtorEq, Nat.reduceEqDiff, Nat.reduceLT, Nat.reduceLeDiff, Nat.reduceAdd, Nat.reduceSub, Nat.reduceMul, Int.reduceNeg, Int.reduceLE, Int.reduceLT, Int.reduceToNat, Int.reduceAdd, Int.reduceSub, Int.reduceMul, Int.reduceEq]
          refine draw_rule ((0, true) :: (2, true) :: (3, true) :: (1, false) :: (4, true) :: (5, true) :: (6, true) :: (8, true) :: (9, true) :: (7, false) :: (10, true) :: (11, true) :: (12, true) :: (13, true) :: (14, true) :: (15, true) :: (16, true) :: (17, true) :: (18, true) :: (19, true) :: (20, true) :: (21, true) :: (22, true) :: (23, false) :: (24, true) :: (25, true) :: (26, true) :: (27, true) :: (28, true) :: (29, true) :: (30, false) :: (31, true) :: (32, true) :: (33, true) :: (34, true) :: (36, true) :: (35, false) :: (37, false) :: (38, true) :: (39, true) :: []) (by kernel_rfl) (by kernel_rfl) rfl (by kernel_rfl) ?_
          simp (config := { maxSteps := 1000000 }) only [undef, push_cast, ↓Int.toNat_natCast, ↓Int.cast_ofNat_Int, Int.cast_ofNat_Int, ↓reduceIte, reduceCtorEq, Nat.reduceEqDiff, Nat.reduceLT, Nat.reduceLeDiff, Nat.reduceAdd, Nat.reduceSub, Nat.reduceMul, Int.reduceNeg, Int.reduceLE, Int.reduceLT, Int.reduceToNat, Int.reduceAdd, Int.reduceSub, Int.reduceMul, Int.reduceEq]
          (repeat (refine And.intro (by first | omega | decide) ?_))
          refine callM_v rfl cb10 rfl (kindK (k0 := 0) (p := 1) (q := 2) (ids := I.l) (row := R.l) rfl rfl rfl) (dOk_lt rfl) ?_
          simp (config := { maxSteps := 1000000 }) only [undef, push_cast, ↓Int.toNat_natCast, ↓Int.cast_ofNat_Int, Int.cast_ofNat_Int, ↓reduceIte, reduceCtorEq, Nat.reduceEqDiff, Nat.reduceLT, Nat.reduceLeDiff, Nat.reduceAdd, Nat.reduceSub, Nat.reduceMul, Int.reduceNeg, Int.reduceLE, Int.reduceLT, Int.reduceToNat, Int.reduceAdd, Int.reduceSub, Int.reduceMul, Int.reduceEq]
          (repeat (refine And.intro (by first | omega | decide) ?_))
          refine callM_v rfl cb11 rfl (reasonK (k0 := 0) (p := 1) (q := 2) (ids := I.l) (row := R.l) rfl rfl rfl) (dOk_lt rfl) ?_
          simp (config := { maxSteps := 1000000 }) only [hk1, k1, undef, push_cast, ↓Int.toNat_natCast, ↓Int.cast_ofNat_Int, Int.cast_ofNat_Int, ↓reduceIte, reduceCtorEq, Nat.reduceEqDiff, Nat.reduceLT, Nat.reduceLeDiff, Nat.reduceAdd, Nat.reduceSub, Nat.reduceMul, Int.reduceNeg, Int.reduceLE, Int.reduceLT, Int.reduceToNat, Int.reduceAdd, Int.reduceSub, Int.reduceMul, Int.reduceEq]
          (repeat (refine And.intro (by first | omega | decide) ?_))
          have t4e : decide ([] = I.l) = true := decide_eq_true t4.symm
          have t5e : decide ([] = R.l) = true := decide_eq_true t5.symm
          refine callM_v rfl cb15 rfl (ints33OK (a := []) (b := I.l) (by simp) shows_nil (shows_raw hx'.ir _ _ (by simp) hx'.ic)) (dOk_lt rfl) ?_
          simp (config := { maxSteps := 1000000 }) only [t4e, hk1, k1, undef, push_cast, ↓Int.toNat_natCast, ↓Int.cast_ofNat_Int, Int.cast_ofNat_Int, ↓reduceIte, reduceCtorEq, Nat.reduceEqDiff, Nat.reduceLT, Nat.reduceLeDiff, Nat.reduceAdd, Nat.reduceSub, Nat.reduceMul, Int.reduceNeg, Int.reduceLE, Int.reduceLT, Int.reduceToNat, Int.reduceAdd, Int.reduceSub, Int.reduceMul, Int.reduceEq]
          (repeat (refine And.intro (by first | omega | decide) ?_))
          refine callM_v rfl cb16 rfl (refSame32OK (a := []) (b := R.l) (by simp) shows_nil (shows_raw hx'.rr _ _ (by simp) hx'.rc)) (dOk_lt rfl) ?_
          simp (config := { maxSteps := 1000000 }) only [t5e, hk1, k1, undef, push_cast, ↓Int.toNat_natCast, ↓Int.cast_ofNat_Int, Int.cast_ofNat_Int, ↓reduceIte, reduceCtorEq, Nat.reduceEqDiff, Nat.reduceLT, Nat.reduceLeDiff, Nat.reduceAdd, Nat.reduceSub, Nat.reduceMul, Int.reduceNeg, Int.reduceLE, Int.reduceLT, Int.reduceToNat, Int.reduceAdd, Int.reduceSub, Int.reduceMul, Int.reduceEq]
          (repeat (refine And.intro (by first | omega | decide) ?_))
          refine callM_v rfl cb12 rfl (textK (k0 := 0) (p := 1) (q := 2) (ids := I.l) (row := R.l) t2 t3 hx'.id hx'.r ht rfl rfl rfl) (dOk_lt rfl) ?_
          simp (config := { maxSteps := 1000000 }) only [hk1, k1, undef, push_cast, ↓Int.toNat_natCast, ↓Int.cast_ofNat_Int, Int.cast_ofNat_Int, ↓reduceIte, reduceCtorEq, Nat.reduceEqDiff, Nat.reduceLT, Nat.reduceLeDiff, Nat.reduceAdd, Nat.reduceSub, Nat.reduceMul, Int.reduceNeg, Int.reduceLE, Int.reduceLT, Int.reduceToNat, Int.reduceAdd, Int.reduceSub, Int.reduceMul, Int.reduceEq]
          (repeat (refine And.intro (by first | omega | decide) ?_))
          refine callM_v rfl cb17 rfl (rtextK (ids := I.l) (row := R.l) t2 t3 hx'.id t1 hx'.r hx'.ir hx'.rr) (dOk_lt rfl) ?_
          simp (config := { maxSteps := 1000000 }) only [beq_self_eq_true, hk1, k1, undef, push_cast, ↓Int.toNat_natCast, ↓Int.cast_ofNat_Int, Int.cast_ofNat_Int, ↓reduceIte, reduceCtorEq, Nat.reduceEqDiff, Nat.reduceLT, Nat.reduceLeDiff, Nat.reduceAdd, Nat.reduceSub, Nat.reduceMul, Int.reduceNeg, Int.reduceLE, Int.reduceLT, Int.reduceToNat, Int.reduceAdd, Int.reduceSub, Int.reduceMul, Int.reduceEq]
          (repeat (refine And.intro (by first | omega | decide) ?_))
          refine loopK_normal (i + 1, ⟨k, r, I, R⟩) [0, 1, 2, 3] ⟨by show i + 1 ≤ l.length; omega, hx'⟩ (by show l.length - (i + 1) < l.length - i; omega) ?_
          simp (config := { maxSteps := 1000000 }) only [Slc.val, push_cast, ↓Int.toNat_natCast, ↓Int.cast_ofNat_Int, Int.cast_ofNat_Int, ↓reduceIte, reduceCtorEq, Nat.reduceEqDiff, Nat.reduceLT, Nat.reduceLeDiff, Nat.reduceAdd, Nat.reduceSub, Nat.reduceMul, Int.reduceNeg, Int.reduceLE, Int.reduceLT, Int.reduceToNat, Int.reduceAdd, Int.reduceSub, Int.reduceMul, Int.reduceEq]

      · simp (config := { maxSteps := 1000000 }) only [pAdd_zero, pAdd_add, pAdd_isSome, hlt, h40, i0, c0, c1, c2, c3, o0, o1, o2, o3, hA0, g1, g2, Slc.val, undef, push_cast, ↓Int.toNat_natCast, ↓Int.cast_ofNat_Int, Int.cast_ofNat_Int, ↓reduceIte, reduceCtorEq, Nat.reduceEqDiff, Nat.reduceLT, Nat.reduceLeDiff, Nat.reduceAdd, Nat.reduceSub, Nat.reduceMul, Int.reduceNeg, Int.reduceLE, Int.reduceLT, Int.reduceToNat, Int.reduceAdd, Int.reduceSub, Int.reduceMul, Int.reduceEq]
        (repeat (refine And.intro (by first | omega | decide) ?_))
        obtain ⟨rfl, d1, d2⟩ := abortOk_spec.1 hd
        obtain ⟨rfl, e1, e2⟩ := hx.z rfl
        dsimp only at e1 e2
        obtain ⟨y, hy, hx'⟩ : ∃ y : FS, y = ⟨2, n, nilSl, nilSl⟩ ∧ FS.Ok w y := ⟨_, rfl, .inr (.inr rfl), (fun _ => ⟨by show 0 ≤ n; omega, d2⟩), (fun h => by cases h), (fun _ => ⟨rfl, rfl⟩), Nat.zero_le _, Nat.zero_le _, (fun n hn => by cases hn), RdV.nil_, RdV.nil_, Nat.le_refl _, Nat.le_refl _⟩
        refine callG_v rfl cb14 rfl (rabortYesK (ids := I.l) (row := R.l) n hd) (dOk_lt rfl) ?_
        simp (config := { maxSteps := 1000000 }) only [pAdd_zero, pAdd_add, pAdd_isSome, hlt, h40, i0, c0, c1, c2, c3, o0, o1, o2, o3, hA0, g1, g2, Slc.val, undef, push_cast, ↓Int.toNat_natCast, ↓Int.cast_ofNat_Int, Int.cast_ofNat_Int, ↓reduceIte, reduceCtorEq, Nat.reduceEqDiff, Nat.reduceLT, Nat.reduceLeDiff, Nat.reduceAdd, Nat.reduceSub, Nat.reduceMul, Int.reduceNeg, Int.reduceLE, Int.reduceLT, Int.reduceToNat, Int.reduceAdd, Int.reduceSub, Int.reduceMul, Int.reduceEq]
        (repeat (refine And.intro (by first | omega | decide) ?_))
        refine callG_rule rfl cb9 rfl (abortYesK (k0 := 0) (p := 1) (q := 2) (by decide) (by decide) (by decide) (by simp only [push_cast, ↓Int.toNat_natCast, ↓Int.cast_ofNat_Int, Int.cast_ofNat_Int, ↓reduceIte, reduceCtorEq, Nat.reduceEqDiff, Nat.reduceLT, Nat.reduceLeDiff, Nat.reduceAdd, Nat.reduceSub, Nat.reduceMul, Int.reduceNeg, Int.reduceLE, Int.reduceLT, Int.reduceToNat, Int.reduceAdd, Int.reduceSub, Int.reduceMul, Int.reduceEq]) rfl (by show some (Res.own _ (.i64 I.l)) = _; rw [e1]) (by show some (Res.own _ (.u32 R.l)) = _; rw [e2]) n d1 d2) (dOk_lt rfl) (fun _ => by simp only [Slc.val, push_cast, ↓Int.toNat_natCast, ↓Int.cast_ofNat_Int, Int.cast_ofNat_Int, ↓reduceIte, reduceCtorEq, Nat.reduceEqDiff, Nat.reduceLT, Nat.reduceLeDiff, Nat.reduceAdd, Nat.reduceSub, Nat.reduceMul, Int.reduceNeg, Int.reduceLE, Int.reduceLT, Int.reduceToNat, Int.reduceAdd, Int.reduceSub, Int.reduceMul, Int.reduceEq]) ?_
        simp (config := { maxSteps := 1000000 }) only [pAdd_zero, pAdd_add, pAdd_isSome, hlt, h40, i0, c0, c1, c2, c3, o0, o1, o2, o3, hA0, g1, g2, Slc.val, undef, push_cast, ↓Int.toNat_natCast, ↓Int.cast_ofNat_Int, Int.cast_ofNat_Int, ↓reduceIte, reduceCtorEq, Nat.reduceEqDiff, Nat.reduceLT, Nat.reduceLeDiff, Nat.reduceAdd, Nat.reduceSub, Nat.reduceMul, Int.reduceNeg, Int.reduceLE, Int.reduceLT, Int.reduceToNat, Int.reduceAdd, Int.reduceSub, Int.reduceMul, Int.reduceEq]
        (repeat (refine And.intro (by first | omega | decide) ?_))
        refine callG_le [0, 7, 8, 3] (s' := ⟨[(110, .x (.a (.p 0 0))), (0, (.x (.a (.v (.slice A l.length c))))), (7, .x (.a (.p 0 0))), (8, .x (.a (.p 3 0))), (9, .x (.a (.v (.int .i64 i))))], [.blk 33 (.c [.v (.int .i64 y.k), .o 1, .o 2, .v (.int .i64 y.r)]), .own 3 (.i64 y.I.l), .own 46 (.u32 y.R.l), .blk 35 (.c [.v (.int .i64 y.k), .v (.int .i64 y.r), .v y.I.val, .v y.R.val])]⟩) (by subst hy; simp (config := { maxSteps := 1000000 }) only [Slc.val, nilSl, e1, e2, push_cast, ↓Int.toNat_natCast, ↓Int.cast_ofNat_Int, Int.cast_ofNat_Int, ↓reduceIte, reduceCtorEq, Nat.reduceEqDiff, Nat.reduceLT, Nat.reduceLeDiff, Nat.reduceAdd, Nat.reduceSub, Nat.reduceMul, Int.reduceNeg, Int.reduceLE, Int.reduceLT, Int.reduceToNat, Int.reduceAdd, Int.reduceSub, Int.reduceMul, Int.reduceEq]) ?_
        clear hy
        obtain ⟨k, r, I, R⟩ := y
        have t1 := hx'.k
        have t2 := hx'.il
        have t3 := hx'.rl
        have tii : decide (I.l = I.l) = true := decide_eq_true rfl
        have trr : decide (R.l = R.l) = true := decide_eq_true rfl
        dsimp only at t1 t2 t3
        simp (config := { maxSteps := 1000000 }) only [Slc.val, undef, push_cast, ↓Int.toNat_natCast, ↓Int.cast_ofNat_Int, Int.cast_ofNat_Int, ↓reduceIte, reduceCtorEq, Nat.reduceEqDiff, Nat.reduceLT, Nat.reduceLeDiff, Nat.reduceAdd, Nat.reduceSub, Nat.reduceMul, Int.reduceNeg, Int.reduceLE, Int.reduceLT, Int.reduceToNat, Int.reduceAdd, Int.reduceSub, Int.reduceMul, Int.reduceEq]
        by_cases k1 : k = 1
        · subst k1
          refine callG_rule rfl cb7 rfl (sumYesK (k0 := 0) (p := 1) (q := 2) (ids := I.l) (row := R.l) (by omega) (by omega) (by simp only [Slc.val, push_cast, ↓Int.toNat_natCast, ↓Int.cast_ofNat_Int, Int.cast_ofNat_Int, ↓reduceIte, reduceCtorEq, Nat.reduceEqDiff, Nat.reduceLT, Nat.reduceLeDiff, Nat.reduceAdd, Nat.reduceSub, Nat.reduceMul, Int.reduceNeg, Int.reduceLE, Int.reduceLT, Int.reduceToNat, Int.reduceAdd, Int.reduceSub, Int.reduceMul, Int.reduceEq]) rfl rfl rfl) (dOk_lt rfl) (fun _ => by simp only [Slc.val, push_cast, ↓Int.toNat_natCast, ↓Int.cast_ofNat_Int, Int.cast_ofNat_Int, ↓reduceIte, reduceCtorEq, Nat.reduceEqDiff, Nat.reduceLT, Nat.reduceLeDiff, Nat.reduceAdd, Nat.reduceSub, Nat.reduceMul, Int.reduceNeg, Int.reduceLE, Int.reduceLT, Int.reduceToNat, Int.reduceAdd, Int.reduceSub, Int.reduceMul, Int.reduceEq]) ?_
          simp (config := { maxSteps := 1000000 }) only [undef, push_cast, ↓Int.toNat_natCast, ↓Int.cast_ofNat_Int, Int.cast_ofNat_Int, ↓reduceIte, reduceCtorEq, Nat.reduceEqDiff, Nat.reduceLT, Nat.reduceLeDiff, Nat.reduceAdd, Nat.reduceSub, Nat.reduceMul, Int.reduceNeg, Int.reduceLE, Int.reduceLT, Int.reduceToNat, Int.reduceAdd, Int.reduceSub, Int.reduceMul, Int.reduceEq]
          refine draw_keep (0 :: 7 :: 8 :: 9 :: 15 :: 16 :: 17 :: 56 :: 57 :: 70 :: 71 :: 72 :: 73 :: 121 :: 122 :: 123 :: 124 :: 125 :: 128 :: 129 :: 130 :: 131 :: 132 :: 135 :: 136 :: 137 :: 138 :: 139 :: 142 :: 143 :: 144 :: 145 :: 146 :: 149 :: 150 :: 151 :: 152 :: 153 :: []) ?_
          simp (config := { maxSteps := 1000000 }) only [undef, push_cast, ↓Int.toNat_natCast, ↓Int.cast_ofNat_Int, Int.cast_ofNat_Int, ↓reduceIte, reduceCtorEq, Nat.reduceEqDiff, Nat.reduceLT, Nat.reduceLeDiff, Nat.reduceAdd, Nat.reduceSub, Nat.reduceMul, Int.reduceNeg, Int.reduceLE, Int.reduceLT, Int.reduceToNat, Int.reduceAdd, Int.reduceSub, Int.reduceMul, Int.reduceEq]
          refine draw_rule ((0, true) :: (2, true) :: (3, true) :: (1, false) :: (4, true) :: (5, true) :: (6, true) :: (8, true) :: (9, true) :: (7, false) :: (10, true) :: (11, true) :: (12, true) :: (13, true) :: (14, true) :: (15, true) :: (16, true) :: (17, true) :: (18, true) :: (19, true) :: (20, true) :: (21, true) :: (22, true) :: (23, false) :: (24, true) :: (25, true) :: (26, true) :: (27, true) :: (28, true) :: (29, true) :: (30, false) :: (31, true) :: (32, true) :: (33, true) :: (34, true) :: (36, true) :: (35, false) :: (37, false) :: (38, true) :: (39, true) :: []) (by kernel_rfl) (by kernel_rfl) rfl (by kernel_rfl) ?_
          simp (config := { maxSteps := 1000000 }) only [undef, push_cast, ↓Int.toNat_natCast, ↓Int.cast_ofNat_Int, Int.cast_ofNat_Int, ↓reduceIte, reduceCtorEq, Nat.reduceEqDiff, Nat.reduceLT, Nat.reduceLeDiff, Nat.reduceAdd, Nat.reduceSub, Nat.reduceMul, Int.reduceNeg, Int.reduceLE, Int.reduceLT, Int.reduceToNat, Int.reduceAdd, Int.reduceSub, Int.reduceMul, Int.reduceEq]
          (repeat (refine And.intro (by first | omega | decide) ?_))
          refine callM_v rfl cb10 rfl (kindK (k0 := 0) (p := 1) (q := 2) (ids := I.l) (row := R.l) rfl rfl rfl) (dOk_lt rfl) ?_
          simp (config := { maxSteps := 1000000 }) only [undef, push_cast, ↓Int.toNat_natCast, ↓Int.cast_ofNat_Int, Int.cast_ofNat_Int, ↓reduceIte, reduceCtorEq, Nat.reduceEqDiff, Nat.reduceLT, Nat.reduceLeDiff, Nat.reduceAdd, Nat.reduceSub, Nat.reduceMul, Int.reduceNeg, Int.reduceLE, Int.reduceLT, Int.reduceToNat, Int.reduceAdd, Int.reduceSub, Int.reduceMul, Int.reduceEq]
          (repeat (refine And.intro (by first | omega | decide) ?_))
          refine callM_v rfl cb11 rfl (reasonK (k0 := 0) (p := 1) (q := 2) (ids := I.l) (row := R.l) rfl rfl rfl) (dOk_lt rfl) ?_
          simp (config := { maxSteps := 1000000 }) only [undef, push_cast, ↓Int.toNat_natCast, ↓Int.cast_ofNat_Int, Int.cast_ofNat_Int, ↓reduceIte, reduceCtorEq, Nat.reduceEqDiff, Nat.reduceLT, Nat.reduceLeDiff, Nat.reduceAdd, Nat.reduceSub, Nat.reduceMul, Int.reduceNeg, Int.reduceLE, Int.reduceLT, Int.reduceToNat, Int.reduceAdd, Int.reduceSub, Int.reduceMul, Int.reduceEq]
          (repeat (refine And.intro (by first | omega | decide) ?_))
          refine callM_v rfl cb15 rfl (ints33OK (a := I.l) (b := I.l) (by omega) (shows_own rfl fun _ => rfl) (shows_raw hx'.ir _ _ (by simp) hx'.ic)) (dOk_lt rfl) ?_
          simp (config := { maxSteps := 1000000 }) only [tii, undef, push_cast, ↓Int.toNat_natCast, ↓Int.cast_ofNat_Int, Int.cast_ofNat_Int, ↓reduceIte, reduceCtorEq, Nat.reduceEqDiff, Nat.reduceLT, Nat.reduceLeDiff, Nat.reduceAdd, Nat.reduceSub, Nat.reduceMul, Int.reduceNeg, Int.reduceLE, Int.reduceLT, Int.reduceToNat, Int.reduceAdd, Int.reduceSub, Int.reduceMul, Int.reduceEq]
          (repeat (refine And.intro (by first | omega | decide) ?_))
          refine callM_v rfl cb16 rfl (refSame32OK (a := R.l) (b := R.l) (by omega) (shows_own rfl fun _ => rfl) (shows_raw hx'.rr _ _ (by simp) hx'.rc)) (dOk_lt rfl) ?_
          simp (config := { maxSteps := 1000000 }) only [trr, undef, push_cast, ↓Int.toNat_natCast, ↓Int.cast_ofNat_Int, Int.cast_ofNat_Int, ↓reduceIte, reduceCtorEq, Nat.reduceEqDiff, Nat.reduceLT, Nat.reduceLeDiff, Nat.reduceAdd, Nat.reduceSub, Nat.reduceMul, Int.reduceNeg, Int.reduceLE, Int.reduceLT, Int.reduceToNat, Int.reduceAdd, Int.reduceSub, Int.reduceMul, Int.reduceEq]
          (repeat (refine And.intro (by first | omega | decide) ?_))
          refine callM_v rfl cb12 rfl (textK (k0 := 0) (p := 1) (q := 2) (ids := I.l) (row := R.l) t2 t3 hx'.id hx'.r ht rfl rfl rfl) (dOk_lt rfl) ?_
          simp (config := { maxSteps := 1000000 }) only [undef, push_cast, ↓Int.toNat_natCast, ↓Int.cast_ofNat_Int, Int.cast_ofNat_Int, ↓reduceIte, reduceCtorEq, Nat.reduceEqDiff, Nat.reduceLT, Nat.reduceLeDiff, Nat.reduceAdd, Nat.reduceSub, Nat.reduceMul, Int.reduceNeg, Int.reduceLE, Int.reduceLT, Int.reduceToNat, Int.reduceAdd, Int.reduceSub, Int.reduceMul, Int.reduceEq]
          (repeat (refine And.intro (by first | omega | decide) ?_))
          refine callM_v rfl cb17 rfl (rtextK (ids := I.l) (row := R.l) t2 t3 hx'.id t1 hx'.r hx'.ir hx'.rr) (dOk_lt rfl) ?_
          simp (config := { maxSteps := 1000000 }) only [beq_self_eq_true, undef, push_cast, ↓Int.toNat_natCast, ↓Int.cast_ofNat_Int, Int.cast_ofNat_Int, ↓reduceIte, reduceCtorEq, Nat.reduceEqDiff, Nat.reduceLT, Nat.reduceLeDiff, Nat.reduceAdd, Nat.reduceSub, Nat.reduceMul, Int.reduceNeg, Int.reduceLE, Int.reduceLT, Int.reduceToNat, Int.reduceAdd, Int.reduceSub, Int.reduceMul, Int.reduceEq]
          (repeat (refine And.intro (by first | omega | decide) ?_))
          refine loopK_normal (i + 1, ⟨1, r, I, R⟩) [0, 1, 2, 3] ⟨by show i + 1 ≤ l.length; omega, hx'⟩ (by show l.length - (i + 1) < l.length - i; omega) ?_
          simp (config := { maxSteps := 1000000 }) only [Slc.val, push_cast, ↓Int.toNat_natCast, ↓Int.cast_ofNat_Int, Int.cast_ofNat_Int, ↓reduceIte, reduceCtorEq, Nat.reduceEqDiff, Nat.reduceLT, Nat.reduceLeDiff, Nat.reduceAdd, Nat.reduceSub, Nat.reduceMul, Int.reduceNeg, Int.reduceLE, Int.reduceLT, Int.reduceToNat, Int.reduceAdd, Int.reduceSub, Int.reduceMul, Int.reduceEq]
        · have hk1 : decide (k = 1) = false := decide_eq_false k1
          obtain ⟨t4, t5⟩ := hx'.e k1
          dsimp only at t4 t5
          refine callG_v rfl cb7 rfl (sumNoK (k0 := 0) (p := 1) (q := 2) (ids := I.l) (row := R.l) k1 rfl rfl rfl) (dOk_lt rfl) ?_
          simp (config := { maxSteps := 1000000 }) only [undef, push_cast, ↓Int.toNat_natCast, ↓Int.cast_ofNat_Int, Int.cast_ofNat_Int, ↓reduceIte, reduceCtorEq, Nat.reduceEqDiff, Nat.reduceLT, Nat.reduceLeDiff, Nat.reduceAdd, Nat.reduceSub, Nat.reduceMul, Int.reduceNeg, Int.reduceLE, Int.reduceLT, Int.reduceToNat, Int.reduceAdd, Int.reduceSub, Int.reduceMul, Int.reduceEq]
          refine draw_keep (0 :: 7 :: 8 :: 9 :: 15 :: 16 :: 17 :: 56 :: 57 :: 70 :: 71 :: 72 :: 73 :: 121 :: 122 :: 123 :: 124 :: 125 :: 128 :: 129 :: 130 :: 131 :: 132 :: 135 :: 136 :: 137 :: 138 :: 139 :: 142 :: 143 :: 144 :: 145 :: 146 :: 149 :: 150 :: 151 :: 152 :: 153 :: []) ?_
          simp (config := { maxSteps := 1000000 }) only [undef, push_cast, ↓Int.toNat_natCast, ↓Int.cast_ofNat_Int, Int.cast_ofNat_Int, ↓reduceIte, reduceCtorEq, Nat.reduceEqDiff, Nat.reduceLT, Nat.reduceLeDiff, Nat.reduceAdd, Nat.reduceSub, Nat.reduceMul, Int.reduceNeg, Int.reduceLE, Int.reduceLT, Int.reduceToNat, Int.reduceAdd, Int.reduceSub, Int.reduceMul, Int.reduceEq]
          refine draw_rule ((0, true) :: (2, true) :: (3, true) :: (1, false) :: (4, true) :: (5, true) :: (6, true) :: (8, true) :: (9, true) :: (7, false) :: (10, true) :: (11, true) :: (12, true) :: (13, true) :: (14, true) :: (15, true) :: (16, true) :: (17, true) :: (18, true) :: (19, true) :: (20, true) :: (21, true) :: (22, true) :: (23, false) :: (24, true) :: (25, true) :: (26, true) :: (27, true) :: (28, true) :: (29, true) :: (30, false) :: (31, true) :: (32, true) :: (33, true) :: (34, true) :: (36, true) :: (35, false) :: (37, false) :: (38, true) :: (39, true) :: []) (by kernel_rfl) (by kernel_rfl) rfl (by kernel_rfl) ?_
          simp (config := { maxSteps := 1000000 }) only [undef, push_cast, ↓Int.toNat_natCast, ↓Int.cast_ofNat_Int, Int.cast_ofNat_Int, ↓reduceIte, reduceCtorEq, Nat.reduceEqDiff, Nat.reduceLT, Nat.reduceLeDiff, Nat.reduceAdd, Nat.reduceSub, Nat.reduceMul, Int.reduceNeg, Int.reduceLE, Int.reduceLT, Int.reduceToNat, Int.reduceAdd, Int.reduceSub, Int.reduceMul, Int.reduceEq]
          (repeat (refine And.intro (by first | omega | decide) ?_))
          refine callM_v rfl cb10 rfl (kindK (k0 := 0) (p := 1) (q := 2) (ids := I.l) (row := R.l) rfl rfl rfl) (dOk_lt rfl) ?_
          simp (config := { maxSteps := 1000000 }) only [undef, push_cast, ↓Int.toNat_natCast, ↓Int.cast_ofNat_Int, Int.cast_ofNat_Int, ↓reduceIte, reduceCtorEq, Nat.reduceEqDiff, Nat.reduceLT, Nat.reduceLeDiff, Nat.reduceAdd, Nat.reduceSub, Nat.reduceMul, Int.reduceNeg, Int.reduceLE, Int.reduceLT, Int.reduceToNat, Int.reduceAdd, Int.reduceSub, Int.reduceMul, Int.reduceEq]
          (repeat (refine And.intro (by first | omega | decide) ?_))
          refine callM_v rfl cb11 rfl (reasonK (k0 := 0) (p := 1) (q := 2) (ids := I.l) (row := R.l) rfl rfl rfl) (dOk_lt rfl) ?_
          simp (config := { maxSteps := 1000000 }) only [hk1, k1, undef, push_cast, ↓Int.toNat_natCast, ↓Int.cast_ofNat_Int, Int.cast_ofNat_Int, ↓reduceIte, reduceCtorEq, Nat.reduceEqDiff, Nat.reduceLT, Nat.reduceLeDiff, Nat.reduceAdd, Nat.reduceSub, Nat.reduceMul, Int.reduceNeg, Int.reduceLE, Int.reduceLT, Int.reduceToNat, Int.reduceAdd, Int.reduceSub, Int.reduceMul, Int.reduceEq]
          (repeat (refine And.intro (by first | omega | decide) ?_))
          have t4e : decide ([] = I.l) = true := decide_eq_true t4.symm
          have t5e : decide ([] = R.l) = true := decide_eq_true t5.symm
          refine callM_v rfl cb15 rfl (ints33OK (a := []) (b := I.l) (by simp) shows_nil (shows_raw hx'.ir _ _ (by simp) hx'.ic)) (dOk_lt rfl) ?_
          simp (config := { maxSteps := 1000000 }) only [t4e, hk1, k1, undef, push_cast, ↓Int.toNat_natCast, ↓Int.cast_ofNat_Int, Int.cast_ofNat_Int, ↓reduceIte, reduceCtorEq, Nat.reduceEqDiff, Nat.reduceLT, Nat.reduceLeDiff, Nat.reduceAdd, Nat.reduceSub, Nat.reduceMul, Int.reduceNeg, Int.reduceLE, Int.reduceLT, Int.reduceToNat, Int.reduceAdd, Int.reduceSub, Int.reduceMul, Int.reduceEq]
          (repeat (refine And.intro (by first | omega | decide) ?_))
          refine callM_v rfl cb16 rfl (refSame32OK (a := []) (b := R.l) (by simp) shows_nil (shows_raw hx'.rr _ _ (by simp) hx'.rc)) (dOk_lt rfl) ?_
          simp (config := { maxSteps := 1000000 }) only [t5e, hk1, k1, undef, push_cast, ↓Int.toNat_natCast, ↓Int.cast_ofNat_Int, Int.cast_ofNat_Int, ↓reduceIte, reduceCtorEq, Nat.reduceEqDiff, Nat.reduceLT, Nat.reduceLeDiff, Nat.reduceAdd, Nat.reduceSub, Nat.reduceMul, Int.reduceNeg, Int.reduceLE, Int.reduceLT, Int.reduceToNat, Int.reduceAdd, Int.reduceSub, Int.reduceMul, Int.reduceEq]
          (repeat (refine And.intro (by first | omega | decide) ?_))
          refine callM_v rfl cb12 rfl (textK (k0 := 0) (p := 1) (q := 2) (ids := I.l) (row := R.l) t2 t3 hx'.id hx'.r ht rfl rfl rfl) (dOk_lt rfl) ?_
          simp (config := { maxSteps := 1000000 }) only [hk1, k1, undef, push_cast, ↓Int.toNat_natCast, ↓Int.cast_ofNat_Int, Int.cast_ofNat_Int, ↓reduceIte, reduceCtorEq, Nat.reduceEqDiff, Nat.reduceLT, Nat.reduceLeDiff, Nat.reduceAdd, Nat.reduceSub, Nat.reduceMul, Int.reduceNeg, Int.reduceLE, Int.reduceLT, Int.reduceToNat, Int.reduceAdd, Int.reduceSub, Int.reduceMul, Int.reduceEq]
          (repeat (refine And.intro (by first | omega | decide) ?_))
          refine callM_v rfl cb17 rfl (rtextK (ids := I.l) (row := R.l) t2 t3 hx'.id t1 hx'.r hx'.ir hx'.rr) (dOk_lt rfl) ?_
          simp (config := { maxSteps := 1000000 }) only [beq_self_eq_true, hk1, k1, undef, push_cast, ↓Int.toNat_natCast, ↓Int.cast_ofNat_Int, Int.cast_ofNat_Int, ↓reduceIte, reduceCtorEq, Nat.reduceEqDiff, Nat.reduceLT, Nat.reduceLeDiff, Nat.reduceAdd, Nat.reduceSub, Nat.reduceMul, Int.reduceNeg, Int.reduceLE, Int.reduceLT, Int.reduceToNat, Int.reduceAdd, Int.reduceSub, Int.reduceMul, Int.reduceEq]
          (repeat (refine And.intro (by first | omega | decide) ?_))
          refine loopK_normal (i + 1, ⟨k, r, I, R⟩) [0, 1, 2, 3] ⟨by show i + 1 ≤ l.length; omega, hx'⟩ (by show l.length - (i + 1) < l.length - i; omega) ?_
          simp (config := { maxSteps := 1000000 }) only [Slc.val, push_cast, ↓Int.toNat_natCast, ↓Int.cast_ofNat_Int, Int.cast_ofNat_Int, ↓reduceIte, reduceCtorEq, Nat.reduceEqDiff, Nat.reduceLT, Nat.reduceLeDiff, Nat.reduceAdd, Nat.reduceSub, Nat.reduceMul, Int.reduceNeg, Int.reduceLE, Int.reduceLT, Int.reduceToNat, Int.reduceAdd, Int.reduceSub, Int.reduceMul, Int.reduceEq]

      · simp (config := { maxSteps := 1000000 }) only [pAdd_zero, pAdd_add, pAdd_isSome, hlt, h40, i0, c0, c1, c2, c3, o0, o1, o2, o3, hA0, g1, g2, Slc.val, undef, push_cast, ↓Int.toNat_natCast, ↓Int.cast_ofNat_Int, Int.cast_ofNat_Int, ↓reduceIte, reduceCtorEq, Nat.reduceEqDiff, Nat.reduceLT, Nat.reduceLeDiff, Nat.reduceAdd, Nat.reduceSub, Nat.reduceMul, Int.reduceNeg, Int.reduceLE, Int.reduceLT, Int.reduceToNat, Int.reduceAdd, Int.reduceSub, Int.reduceMul, Int.reduceEq]
        (repeat (refine And.intro (by first | omega | decide) ?_))
        obtain ⟨y, hy, hx'⟩ : ∃ y : FS, y = ⟨k, r, I, R⟩ ∧ FS.Ok w y := ⟨_, rfl, hx⟩
        refine callG_v rfl cb14 rfl (rabortNoK (ids := I.l) (row := R.l) n hd) (dOk_lt rfl) ?_
        simp (config := { maxSteps := 1000000 }) only [pAdd_zero, pAdd_add, pAdd_isSome, hlt, h40, i0, c0, c1, c2, c3, o0, o1, o2, o3, hA0, g1, g2, Slc.val, undef, push_cast, ↓Int.toNat_natCast, ↓Int.cast_ofNat_Int, Int.cast_ofNat_Int, ↓reduceIte, reduceCtorEq, Nat.reduceEqDiff, Nat.reduceLT, Nat.reduceLeDiff, Nat.reduceAdd, Nat.reduceSub, Nat.reduceMul, Int.reduceNeg, Int.reduceLE, Int.reduceLT, Int.reduceToNat, Int.reduceAdd, Int.reduceSub, Int.reduceMul, Int.reduceEq]
        (repeat (refine And.intro (by first | omega | decide) ?_))
        refine callG_v rfl cb9 rfl (abortNoK (k0 := 0) (p := 1) (q := 2) n hd rfl rfl rfl) (dOk_lt rfl) ?_
        simp (config := { maxSteps := 1000000 }) only [pAdd_zero, pAdd_add, pAdd_isSome, hlt, h40, i0, c0, c1, c2, c3, o0, o1, o2, o3, hA0, g1, g2, Slc.val, undef, push_cast, ↓Int.toNat_natCast, ↓Int.cast_ofNat_Int, Int.cast_ofNat_Int, ↓reduceIte, reduceCtorEq, Nat.reduceEqDiff, Nat.reduceLT, Nat.reduceLeDiff, Nat.reduceAdd, Nat.reduceSub, Nat.reduceMul, Int.reduceNeg, Int.reduceLE, Int.reduceLT, Int.reduceToNat, Int.reduceAdd, Int.reduceSub, Int.reduceMul, Int.reduceEq]
        (repeat (refine And.intro (by first | omega | decide) ?_))
        refine callG_le [0, 1, 2, 3] (s' := ⟨[(110, .x (.a (.p 0 0))), (0, (.x (.a (.v (.slice A l.length c))))), (7, .x (.a (.p 0 0))), (8, .x (.a (.p 3 0))), (9, .x (.a (.v (.int .i64 i))))], [.blk 33 (.c [.v (.int .i64 y.k), .o 1, .o 2, .v (.int .i64 y.r)]), .own 3 (.i64 y.I.l), .own 46 (.u32 y.R.l), .blk 35 (.c [.v (.int .i64 y.k), .v (.int .i64 y.r), .v y.I.val, .v y.R.val])]⟩) (by subst hy; simp (config := { maxSteps := 1000000 }) only [Slc.val, push_cast, ↓Int.toNat_natCast, ↓Int.cast_ofNat_Int, Int.cast_ofNat_Int, ↓reduceIte, reduceCtorEq, Nat.reduceEqDiff, Nat.reduceLT, Nat.reduceLeDiff, Nat.reduceAdd, Nat.reduceSub, Nat.reduceMul, Int.reduceNeg, Int.reduceLE, Int.reduceLT, Int.reduceToNat, Int.reduceAdd, Int.reduceSub, Int.reduceMul, Int.reduceEq]) ?_
        clear hy
        obtain ⟨k, r, I, R⟩ := y
        have t1 := hx'.k
        have t2 := hx'.il
        have t3 := hx'.rl
        have tii : decide (I.l = I.l) = true := decide_eq_true rfl
        have trr : decide (R.l = R.l) = true := decide_eq_true rfl
        dsimp only at t1 t2 t3
        simp (config := { maxSteps := 1000000 }) only [Slc.val, undef, push_cast, ↓Int.toNat_natCast, ↓Int.cast_ofNat_Int, Int.cast_ofNat_Int, ↓reduceIte, reduceCtorEq, Nat.reduceEqDiff, Nat.reduceLT, Nat.reduceLeDiff, Nat.reduceAdd, Nat.reduceSub, Nat.reduceMul, Int.reduceNeg, Int.reduceLE, Int.reduceLT, Int.reduceToNat, Int.reduceAdd, Int.reduceSub, Int.reduceMul, Int.reduceEq]
        by_cases k1 : k = 1
        · subst k1
          refine callG_rule rfl cb7 rfl (sumYesK (k0 := 0) (p := 1) (q := 2) (ids := I.l) (row := R.l) (by omega) (by omega) (by simp only [Slc.val, push_cast, ↓Int.toNat_natCast, ↓Int.cast_ofNat_Int, Int.cast_ofNat_Int, ↓reduceIte, reduceCtorEq, Nat.reduceEqDiff, Nat.reduceLT, Nat.reduceLeDiff, Nat.reduceAdd, Nat.reduceSub, Nat.reduceMul, Int.reduceNeg, Int.reduceLE, Int.reduceLT, Int.reduceToNat, Int.reduceAdd, Int.reduceSub, Int.reduceMul, Int.reduceEq]) rfl rfl rfl) (dOk_lt rfl) (fun _ => by simp only [Slc.val, push_cast, ↓Int.toNat_natCast, ↓Int.cast_ofNat_Int, Int.cast_ofNat_Int, ↓reduceIte, reduceCtorEq, Nat.reduceEqDiff, Nat.reduceLT, Nat.reduceLeDiff, Nat.reduceAdd, Nat.reduceSub, Nat.reduceMul, Int.reduceNeg, Int.reduceLE, Int.reduceLT, Int.reduceToNat, Int.reduceAdd, Int.reduceSub, Int.reduceMul, Int.reduceEq]) ?_
          simp (config := { maxSteps := 1000000 }) only [undef, push_cast, ↓Int.toNat_natCast, ↓Int.cast_ofNat_Int, Int.cast_ofNat_Int, ↓reduceIte, reduceCtorEq, Nat.reduceEqDiff, Nat.reduceLT, Nat.reduceLeDiff, Nat.reduceAdd, Nat.reduceSub, Nat.reduceMul, Int.reduceNeg, Int.reduceLE, Int.reduceLT, Int.reduceToNat, Int.reduceAdd, Int.reduceSub, Int.reduceMul, Int.reduceEq]
          refine draw_keep (0 :: 7 :: 8 :: 9 :: 15 :: 16 :: 17 :: 56 :: 57 :: 70 :: 71 :: 72 :: 73 :: 121 :: 122 :: 123 :: 124 :: 125 :: 128 :: 129 :: 130 :: 131 :: 132 :: 135 :: 136 :: 137 :: 138 :: 139 :: 142 :: 143 :: 144 :: 145 :: 146 :: 149 :: 150 :: 151 :: 152 :: 153 :: []) ?_
          simp (config := { maxSteps := 1000000 }) only [undef, push_cast, ↓Int.toNat_natCast, ↓Int.cast_ofNat_Int, Int.cast_ofNat_Int, ↓reduceIte, reduceCtorEq, Nat.reduceEqDiff, Nat.reduceLT, Nat.reduceLeDiff, Nat.reduceAdd, Nat.reduceSub, Nat.reduceMul, Int.reduceNeg, Int.reduceLE, Int.reduceLT, Int.reduceToNat, Int.reduceAdd, Int.reduceSub, Int.reduceMul, Int.reduceEq]
          refine draw_rule ((0, true) :: (2, true) :: (3, true) :: (1, false) :: (4, true) :: (5, true) :: (6, true) :: (8, true) :: (9, true) :: (7, false) :: (10, true) :: (11, true) :: (12, true) :: (13, true) :: (14, true) :: (15, true) :: (16, true) :: (17, true) :: (18, true) :: (19, true) :: (20, true) :: (21, true) :: (22, true) :: (23, false) :: (24, true) :: (25, true) :: (26, true) :: (27, true) :: (28, true) :: (29, true) :: (30, false) :: (31, true) :: (32, true) :: (33, true) :: (34, true) :: (36, true) :: (35, false) :: (37, false) :: (38, true) :: (39, true) :: []) (by kernel_rfl) (by kernel_rfl) rfl (by kernel_rfl) ?_
          simp (config := { maxSteps := 1000000 }) only [undef, push_cast, ↓Int.toNat_natCast, ↓Int.cast_ofNat_Int, Int.cast_ofNat_Int, ↓reduceIte, reduceCtorEq, Nat.reduceEqDiff, Nat.reduceLT, Nat.reduceLeDiff, Nat.reduceAdd, Nat.reduceSub, Nat.reduceMul, Int.reduceNeg, Int.reduceLE, Int.reduceLT, Int.reduceToNat, Int.reduceAdd, Int.reduceSub, Int.reduceMul, Int.reduceEq]
          (repeat (refine And.intro (by first | omega | decide) ?_))
          refine callM_v rfl cb10 rfl (kindK (k0 := 0) (p := 1) (q := 2) (ids := I.l) (row := R.l) rfl rfl rfl) (dOk_lt rfl) ?_
          simp (config := { maxSteps := 1000000 }) only [undef, push_cast, ↓Int.toNat_natCast, ↓Int.cast_ofNat_Int, Int.cast_ofNat_Int, ↓reduceIte, reduceCtorEq, Nat.reduceEqDiff, Nat.reduceLT, Nat.reduceLeDiff, Nat.reduceAdd, Nat.reduceSub, Nat.reduceMul, Int.reduceNeg, Int.reduceLE, Int.reduceLT, Int.reduceToNat, Int.reduceAdd, Int.reduceSub, Int.reduceMul, Int.reduceEq]
          (repeat (refine And.intro (by first | omega | decide) ?_))
          refine callM_v rfl cb11 rfl (reasonK (k0 := 0) (p := 1) (q := 2) (ids := I.l) (row := R.l) rfl rfl rfl) (dOk_lt rfl) ?_
          simp (config := { maxSteps := 1000000 }) only [undef, push_cast, ↓Int.toNat_natCast, ↓Int.cast_ofNat_Int, Int.cast_ofNat_Int, ↓reduceIte, reduceCtorEq, Nat.reduceEqDiff, Nat.reduceLT, Nat.reduceLeDiff, Nat.reduceAdd, Nat.reduceSub, Nat.reduceMul, Int.reduceNeg, Int.reduceLE, Int.reduceLT, Int.reduceToNat, Int.reduceAdd, Int.reduceSub, Int.reduceMul, Int.reduceEq]
          (repeat (refine And.intro (by first | omega | decide) ?_))
          refine callM_v rfl cb15 rfl (ints33OK (a := I.l) (b := I.l) (by omega) (shows_own rfl fun _ => rfl) (shows_raw hx'.ir _ _ (by simp) hx'.ic)) (dOk_lt rfl) ?_
          simp (config := { maxSteps := 1000000 }) only [tii, undef, push_cast, ↓Int.toNat_natCast, ↓Int.cast_ofNat_Int, Int.cast_ofNat_Int, ↓reduceIte, reduceCtorEq, Nat.reduceEqDiff, Nat.reduceLT, Nat.reduceLeDiff, Nat.reduceAdd, Nat.reduceSub, Nat.reduceMul, Int.reduceNeg, Int.reduceLE, Int.reduceLT, Int.reduceToNat, Int.reduceAdd, Int.reduceSub, Int.reduceMul, Int.reduceEq]
          (repeat (refine And.intro (by first | omega | decide) ?_))
          refine callM_v rfl cb16 rfl (refSame32OK (a := R.l) (b := R.l) (by omega) (shows_own rfl fun _ => rfl) (shows_raw hx'.rr _ _ (by simp) hx'.rc)) (dOk_lt rfl) ?_
          simp (config := { maxSteps := 1000000 }) only [trr, undef, push_cast, ↓Int.toNat_natCast, ↓Int.cast_ofNat_Int, Int.cast_ofNat_Int, ↓reduceIte, reduceCtorEq, Nat.reduceEqDiff, Nat.reduceLT, Nat.reduceLeDiff, Nat.reduceAdd, Nat.reduceSub, Nat.reduceMul, Int.reduceNeg, Int.reduceLE, Int.reduceLT, Int.reduceToNat, Int.reduceAdd, Int.reduceSub, Int.reduceMul, Int.reduceEq]
          (repeat (refine And.intro (by first | omega | decide) ?_))
          refine callM_v rfl cb12 rfl (textK (k0 := 0) (p := 1) (q := 2) (ids := I.l) (row := R.l) t2 t3 hx'.id hx'.r ht rfl rfl rfl) (dOk_lt rfl) ?_
          simp (config := { maxSteps := 1000000 }) only [undef, push_cast, ↓Int.toNat_natCast, ↓Int.cast_ofNat_Int, Int.cast_ofNat_Int, ↓reduceIte, reduceCtorEq, Nat.reduceEqDiff, Nat.reduceLT, Nat.reduceLeDiff, Nat.reduceAdd, Nat.reduceSub, Nat.reduceMul, Int.reduceNeg, Int.reduceLE, Int.reduceLT, Int.reduceToNat, Int.reduceAdd, Int.reduceSub, Int.reduceMul, Int.reduceEq]
          (repeat (refine And.intro (by first | omega | decide) ?_))
          refine callM_v rfl cb17 rfl (rtextK (ids := I.l) (row := R.l) t2 t3 hx'.id t1 hx'.r hx'.ir hx'.rr) (dOk_lt rfl) ?_
          simp (config := { maxSteps := 1000000 }) only [beq_self_eq_true, undef, push_cast, ↓Int.toNat_natCast, ↓Int.cast_ofNat_Int, Int.cast_ofNat_Int, ↓reduceIte, reduceCtorEq, Nat.reduceEqDiff, Nat.reduceLT, Nat.reduceLeDiff, Nat.reduceAdd, Nat.reduceSub, Nat.reduceMul, Int.reduceNeg, Int.reduceLE, Int.reduceLT, Int.reduceToNat, Int.reduceAdd, Int.reduceSub, Int.reduceMul, Int.reduceEq]
          (repeat (refine And.intro (by first | omega | decide) ?_))
          refine loopK_normal (i + 1, ⟨1, r, I, R⟩) [0, 1, 2, 3] ⟨by show i + 1 ≤ l.length; omega, hx'⟩ (by show l.length - (i + 1) < l.length - i; omega) ?_
          simp (config := { maxSteps := 1000000 }) only [Slc.val, push_cast, ↓Int.toNat_natCast, ↓Int.cast_ofNat_Int, Int.cast_ofNat_Int, ↓reduceIte, reduceCtorEq, Nat.reduceEqDiff, Nat.reduceLT, Nat.reduceLeDiff, Nat.reduceAdd, Nat.reduceSub, Nat.reduceMul, Int.reduceNeg, Int.reduceLE, Int.reduceLT, Int.reduceToNat, Int.reduceAdd, Int.reduceSub, Int.reduceMul, Int.reduceEq]
        · have hk1 : decide (k = 1) = false := decide_eq_false k1
          obtain ⟨t4, t5⟩ := hx'.e k1
          dsimp only at t4 t5
          refine callG_v rfl cb7 rfl (sumNoK (k0 := 0) (p := 1) (q := 2) (ids := I.l) (row := R.l) k1 rfl rfl rfl) (dOk_lt rfl) ?_
          simp (config := { maxSteps := 1000000 }) only [undef, push_cast, ↓Int.toNat_natCast, ↓Int.cast_ofNat_Int, Int.cast_ofNat_Int, ↓reduceIte, reduceCtorEq, Nat.reduceEqDiff, Nat.reduceLT, Nat.reduceLeDiff, Nat.reduceAdd, Nat.reduceSub, Nat.reduceMul, Int.reduceNeg, Int.reduceLE, Int.reduceLT, Int.reduceToNat, Int.reduceAdd, Int.reduceSub, Int.reduceMul, Int.reduceEq]
          refine draw_keep (0 :: 7 :: 8 :: 9 :: 15 :: 16 :: 17 :: 56 :: 57 :: 70 :: 71 :: 72 :: 73 :: 121 :: 122 :: 123 :: 124 :: 125 :: 128 :: 129 :: 130 :: 131 :: 132 :: 135 :: 136 :: 137 :: 138 :: 139 :: 142 :: 143 :: 144 :: 145 :: 146 :: 149 :: 150 :: 151 :: 152 :: 153 :: []) ?_
          simp (config := { maxSteps := 1000000 }) only [undef, push_cast, ↓Int.toNat_natCast, ↓Int.cast_ofNat_Int, Int.cast_ofNat_Int, ↓reduceIte, reduceCtorEq, Nat.reduceEqDiff, Nat.reduceLT, Nat.reduceLeDiff, Nat.reduceAdd, Nat.reduceSub, Nat.reduceMul, Int.reduceNeg, Int.reduceLE, Int.reduceLT, Int.reduceToNat, Int.reduceAdd, Int.reduceSub, Int.reduceMul, Int.reduceEq]
          refine draw_rule ((0, true) :: (2, true) :: (3, true) :: (1, false) :: (4, true) :: (5, true) :: (6, true) :: (8, true) :: (9, true) :: (7, false) :: (10, true) :: (11, true) :: (12, true) :: (13, true) :: (14, true) :: (15, true) :: (16, true) :: (17, true) :: (18, true) :: (19, true) :: (20, true) :: (21, true) :: (22, true) :: (23, false) :: (24, true) :: (25, true) :: (26, true) :: (27, true) :: (28, true) :: (29, true) :: (30, false) :: (31, true) :: (32, true) :: (33, true) :: (34, true) :: (36, true) :: (35, false) :: (37, false) :: (38, true) :: (39, true) :: []) (by kernel_rfl) (by kernel_rfl) rfl (by kernel_rfl) ?_
          simp (config := { maxSteps := 1000000 }) only [undef, push_cast, ↓Int.toNat_natCast, ↓Int.cast_ofNat_Int, Int.cast_ofNat_Int, ↓reduceIte, reduceCtorEq, Nat.reduceEqDiff, Nat.reduceLT, Nat.reduceLeDiff, Nat.reduceAdd, Nat.reduceSub, Nat.reduceMul, Int.reduceNeg, Int.reduceLE, Int.reduceLT, Int.reduceToNat, Int.reduceAdd, Int.reduceSub, Int.reduceMul, Int.reduceEq]
          (repeat (refine And.intro (by first | omega | decide) ?_))
          refine callM_v rfl cb10 rfl (kindK (k0 := 0) (p := 1) (q := 2) (ids := I.l) (row := R.l) rfl rfl rfl) (dOk_lt rfl) ?_
          simp (config := { maxSteps := 1000000 }) only [undef, push_cast, ↓Int.toNat_natCast, ↓Int.cast_ofNat_Int, Int.cast_ofNat_Int, ↓reduceIte, reduceCtorEq, Nat.reduceEqDiff, Nat.reduceLT, Nat.reduceLeDiff, Nat.reduceAdd, Nat.reduceSub, Nat.reduceMul, Int.reduceNeg, Int.reduceLE, Int.reduceLT, Int.reduceToNat, Int.reduceAdd, Int.reduceSub, Int.reduceMul, Int.reduceEq]
          (repeat (refine And.intro (by first | omega | decide) ?_))
          refine callM_v rfl cb11 rfl (reasonK (k0 := 0) (p := 1) (q := 2) (ids := I.l) (row := R.l) rfl rfl rfl) (dOk_lt rfl) ?_
          simp (config := { maxSteps := 1000000 }) only [hk1, k1, undef, push_cast, ↓Int.toNat_natCast, ↓Int.cast_ofNat_Int, Int.cast_ofNat_Int, ↓reduceIte, reduceCtorEq, Nat.reduceEqDiff, Nat.reduceLT, Nat.reduceLeDiff, Nat.reduceAdd, Nat.reduceSub, Nat.reduceMul, Int.reduceNeg, Int.reduceLE, Int.reduceLT, Int.reduceToNat, Int.reduceAdd, Int.reduceSub, Int.reduceMul, Int.reduceEq]
          (repeat (refine And.intro (by first | omega | decide) ?_))
          have t4e : decide ([] = I.l) = true := decide_eq_true t4.symm
          have t5e : decide ([] = R.l) = true := decide_eq_true t5.symm
          refine callM_v rfl cb15 rfl (ints33OK (a := []) (b := I.l) (by simp) shows_nil (shows_raw hx'.ir _ _ (by simp) hx'.ic)) (dOk_lt rfl) ?_
          simp (config := { maxSteps := 1000000 }) only [t4e, hk1, k1, undef, push_cast, ↓Int.toNat_natCast, ↓Int.cast_ofNat_Int, Int.cast_ofNat_Int, ↓reduceIte, reduceCtorEq, Nat.reduceEqDiff, Nat.reduceLT, Nat.reduceLeDiff, Nat.reduceAdd, Nat.reduceSub, Nat.reduceMul, Int.reduceNeg, Int.reduceLE, Int.reduceLT, Int.reduceToNat, Int.reduceAdd, Int.reduceSub, Int.reduceMul, Int.reduceEq]
          (repeat (refine And.intro (by first | omega | decide) ?_))
          refine callM_v rfl cb16 rfl (refSame32OK (a := []) (b := R.l) (by simp) shows_nil (shows_raw hx'.rr _ _ (by simp) hx'.rc)) (dOk_lt rfl) ?_
          simp (config := { maxSteps := 1000000 }) only [t5e, hk1, k1, undef, push_cast, ↓Int.toNat_natCast, ↓Int.cast_ofNat_Int, Int.cast_ofNat_Int, ↓reduceIte, reduceCtorEq, Nat.reduceEqDiff, Nat.reduceLT, Nat.reduceLeDiff, Nat.reduceAdd, Nat.reduceSub, Nat.reduceMul, Int.reduceNeg, Int.reduceLE, Int.reduceLT, Int.reduceToNat, Int.reduceAdd, Int.reduceSub, Int.reduceMul, Int.reduceEq]
          (repeat (refine And.intro (by first | omega | decide) ?_))
          refine callM_v rfl cb12 rfl (textK (k0 := 0) (p := 1) (q := 2) (ids := I.l) (row := R.l) t2 t3 hx'.id hx'.r ht rfl rfl rfl) (dOk_lt rfl) ?_
          simp (config := { maxSteps := 1000000 }) only [hk1, k1, undef, push_cast, ↓Int.toNat_natCast, ↓Int.cast_ofNat_Int, Int.cast_ofNat_Int, ↓reduceIte, reduceCtorEq, Nat.reduceEqDiff, Nat.reduceLT, Nat.reduceLeDiff, Nat.reduceAdd, Nat.reduceSub, Nat.reduceMul, Int.reduceNeg, Int.reduceLE, Int.reduceLT, Int.reduceToNat, Int.reduceAdd, Int.reduceSub, Int.reduceMul, Int.reduceEq]
          (repeat (refine And.intro (by first | omega | decide) ?_))
          refine callM_v rfl cb17 rfl (rtextK (ids := I.l) (row := R.l) t2 t3 hx'.id t1 hx'.r hx'.ir hx'.rr) (dOk_lt rfl) ?_
          simp (config := { maxSteps := 1000000 }) only [beq_self_eq_true, hk1, k1, undef, push_cast, ↓Int.toNat_natCast, ↓Int.cast_ofNat_Int, Int.cast_ofNat_Int, ↓reduceIte, reduceCtorEq, Nat.reduceEqDiff, Nat.reduceLT, Nat.reduceLeDiff, Nat.reduceAdd, Nat.reduceSub, Nat.reduceMul, Int.reduceNeg, Int.reduceLE, Int.reduceLT, Int.reduceToNat, Int.reduceAdd, Int.reduceSub, Int.reduceMul, Int.reduceEq]
          (repeat (refine And.intro (by first | omega | decide) ?_))
          refine loopK_normal (i + 1, ⟨k, r, I, R⟩) [0, 1, 2, 3] ⟨by show i + 1 ≤ l.length; omega, hx'⟩ (by show l.length - (i + 1) < l.length - i; omega) ?_
          simp (config := { maxSteps := 1000000 }) only [Slc.val, push_cast, ↓Int.toNat_natCast, ↓Int.cast_ofNat_Int, Int.cast_ofNat_Int, ↓reduceIte, reduceCtorEq, Nat.reduceEqDiff, Nat.reduceLT, Nat.reduceLeDiff, Nat.reduceAdd, Nat.reduceSub, Nat.reduceMul, Int.reduceNeg, Int.reduceLE, Int.reduceLT, Int.reduceToNat, Int.reduceAdd, Int.reduceSub, Int.reduceMul, Int.reduceEq]

    · simp (config := { maxSteps := 1000000 }) only [hlt, h40, undef, push_cast, ↓Int.toNat_natCast, ↓Int.cast_ofNat_Int, Int.cast_ofNat_Int, ↓reduceIte, reduceCtorEq, Nat.reduceEqDiff, Nat.reduceLT, Nat.reduceLeDiff, Nat.reduceAdd, Nat.reduceSub, Nat.reduceMul, Int.reduceNeg, Int.reduceLE, Int.reduceLT, Int.reduceToNat, Int.reduceAdd, Int.reduceSub, Int.reduceMul, Int.reduceEq]
      refine callG_v rfl cb18 rfl (sure33OK ht) (dOk_lt rfl) ?_
      simp (config := { maxSteps := 1000000 }) only [undef, push_cast, ↓Int.toNat_natCast, ↓Int.cast_ofNat_Int, Int.cast_ofNat_Int, ↓reduceIte, reduceCtorEq, Nat.reduceEqDiff, Nat.reduceLT, Nat.reduceLeDiff, Nat.reduceAdd, Nat.reduceSub, Nat.reduceMul, Int.reduceNeg, Int.reduceLE, Int.reduceLT, Int.reduceToNat, Int.reduceAdd, Int.reduceSub, Int.reduceMul, Int.reduceEq]
  · simp (config := { maxSteps := 1000000 }) only [hlt, undef, push_cast, ↓Int.toNat_natCast, ↓Int.cast_ofNat_Int, Int.cast_ofNat_Int, ↓reduceIte, reduceCtorEq, Nat.reduceEqDiff, Nat.reduceLT, Nat.reduceLeDiff, Nat.reduceAdd, Nat.reduceSub, Nat.reduceMul, Int.reduceNeg, Int.reduceLE, Int.reduceLT, Int.reduceToNat, Int.reduceAdd, Int.reduceSub, Int.reduceMul, Int.reduceEq]
    refine callG_v rfl cb18 rfl (sure33OK ht) (dOk_lt rfl) ?_
    simp (config := { maxSteps := 1000000 }) only [undef, push_cast, ↓Int.toNat_natCast, ↓Int.cast_ofNat_Int, Int.cast_ofNat_Int, ↓reduceIte, reduceCtorEq, Nat.reduceEqDiff, Nat.reduceLT, Nat.reduceLeDiff, Nat.reduceAdd, Nat.reduceSub, Nat.reduceMul, Int.reduceNeg, Int.reduceLE, Int.reduceLT, Int.reduceToNat, Int.reduceAdd, Int.reduceSub, Int.reduceMul, Int.reduceEq]
end Go.Proofs.YtohnlajccfnecaaDoor
