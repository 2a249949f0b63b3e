/- What one of some peers adds to its row, by the program and by the document. -/
import Derived.Test.YtkchdhkpjnnliaaDoorPr1
import Derived.Test.YtkchdhkpjnnliaaDoorPg4
namespace Go.Proofs.YtkchdhkpjnnliaaDoor
open Go.RowKit
set_option linter.unusedSimpArgs false
def zOk (n : Int) : Bool := decide (0 ≤ n ∧ n ≤ 32)
def zOut (n : Int) : List UInt32 := if zOk n = true then List.replicate n.toNat 0 else []
def zErr (n : Int) : Value := if zOk n = true then .nilIface else .iface 95 (.int .i64 1)
theorem zOk_no {n : Int} (h : n < 0 ∨ 32 < n) : zOk n = false := by unfold zOk; exact decide_eq_false (by omega)
theorem zOk_yes {n : Int} (h : ¬ n < 0) (h2 : ¬ 32 < n) : zOk n = true := by unfold zOk; exact decide_eq_true (by omega)
set_option maxRecDepth 100000 in
theorem zero02_any (n : Int) (w : World) : Calls Tryd.prog 56 #[.int .i64 n] w fun e w' => ∃ v, e = .returned (.tuple #[v, zErr n]) ∧ Own w' w.heap.size 70 v ((zOut n).map vU32) ∧ Below w.heap.size w w' := by
  have h0 := fun h => calls_own2 (P := Tryd.prog) (w := w) (n := 13) Tryd.func56 rfl Tryd.ntmps56 [.x (.a (.v (.int .i64 n)))] (by simp) 70 (.u32 (zOut n)) (zErr n) (vs := (zOut n).map vU32) (fun _ => rfl) h
  refine h0 ?_
  clear h0
  by_cases h1 : n < 0
  · have e1 : zOut n = [] := by unfold zOut; rw [zOk_no (.inl h1)]; rfl
    have e2 : zErr n = .iface 95 (.int .i64 1) := by unfold zErr; rw [zOk_no (.inl h1)]; rfl
    rw [e1, e2]
    simp only [h1, undef, ownT2, ownT, push_cast, ↓Int.toNat_natCast, ↓Int.cast_ofNat_Int, Int.cast_ofNat_Int, ↓reduceIte, reduceCtorEq, Nat.reduceEqDiff, Nat.reduceLT, Nat.reduceLeDiff, Nat.reduceAdd, Nat.reduceSub, Nat.reduceMul, Int.reduceNeg, Int.reduceLE, Int.reduceLT, Int.reduceToNat, Int.reduceAdd, Int.reduceSub, Int.reduceMul, Int.reduceEq]
  by_cases h2 : 32 < n
  · have e1 : zOut n = [] := by unfold zOut; rw [zOk_no (.inr h2)]; rfl
    have e2 : zErr n = .iface 95 (.int .i64 1) := by unfold zErr; rw [zOk_no (.inr h2)]; rfl
    rw [e1, e2]
    simp only [h1, h2, undef, ownT2, ownT, push_cast, ↓Int.toNat_natCast, ↓Int.cast_ofNat_Int, Int.cast_ofNat_Int, ↓reduceIte, reduceCtorEq, Nat.reduceEqDiff, Nat.reduceLT, Nat.reduceLeDiff, Nat.reduceAdd, Nat.reduceSub, Nat.reduceMul, Int.reduceNeg, Int.reduceLE, Int.reduceLT, Int.reduceToNat, Int.reduceAdd, Int.reduceSub, Int.reduceMul, Int.reduceEq]
  have e1 : zOut n = List.replicate n.toNat 0 := by unfold zOut; rw [zOk_yes h1 h2]; rfl
  have e2 : zErr n = .nilIface := by unfold zErr; rw [zOk_yes h1 h2]; rfl
  rw [e1, e2]
  simp only [h1, h2, undef, ownT2, ownT, push_cast, ↓Int.toNat_natCast, ↓Int.cast_ofNat_Int, Int.cast_ofNat_Int, ↓reduceIte, reduceCtorEq, Nat.reduceEqDiff, Nat.reduceLT, Nat.reduceLeDiff, Nat.reduceAdd, Nat.reduceSub, Nat.reduceMul, Int.reduceNeg, Int.reduceLE, Int.reduceLT, Int.reduceToNat, Int.reduceAdd, Int.reduceSub, Int.reduceMul, Int.reduceEq]
  all_goals omega
theorem zero02OK {w0 : World} {ow : Nat → Prop} {hp : List Res} (n : Int) (hbr : ∀ r ∈ hp, Res.bnd hp.length r) :
    CallOK Tryd.prog w0 ow 56 [.x (.a (.v (.int .i64 n)))] hp (.t [.a (.o hp.length), .a (.v (zErr n))]) (hp ++ [.own 70 (.u32 (zOut n))]) := callOK_own2 hbr trivial fun _ w _ => zero02_any n w
/-! ### The document's sum of two rows, with so many times the second one -/
def timesF (k : UInt64) (x y : UInt32) : UInt32 := ((x.toUInt64 + k * y.toUInt64) % 4294967296).toUInt32
theorem timesF_one (x y : UInt32) : timesF 1 x y = x + y := by
  unfold timesF
  rw [← UInt32.toNat_inj, UInt64.toNat_toUInt32, UInt64.toNat_mod, UInt64.toNat_add, UInt64.toNat_mul, UInt32.toNat_toUInt64, UInt32.toNat_toUInt64, UInt32.toNat_add]
  have hx := x.toNat_lt
  have hy := y.toNat_lt
  show (x.toNat + 1 * y.toNat % 18446744073709551616) % 18446744073709551616 % 4294967296 % 4294967296 = _
  omega
theorem timesF_neg (x y : UInt32) : timesF 4294967295 x y = x - y := by
  unfold timesF
  rw [← UInt32.toNat_inj, UInt64.toNat_toUInt32, UInt64.toNat_mod, UInt64.toNat_add, UInt64.toNat_mul, UInt32.toNat_toUInt64, UInt32.toNat_toUInt64, UInt32.toNat_sub]
  have hx := x.toNat_lt
  have hy := y.toNat_lt
  show (x.toNat + 4294967295 * y.toNat % 18446744073709551616) % 18446744073709551616 % 4294967296 % 4294967296 = _
  omega
theorem opTo_congr {F G : UInt32 → UInt32 → UInt32} (h : ∀ x y, F x y = G x y) (a b : List UInt32) (n : Nat) : opTo F a b n = opTo G a b n := by
  induction n with
  | zero => rfl
  | succ n ih => rw [opTo_succ, opTo_succ, ih, h]
theorem opOut_congr {F G : UInt32 → UInt32 → UInt32} (h : ∀ x y, F x y = G x y) (a b : List UInt32) : opOut F a b = opOut G a b := by
  unfold opOut
  rw [opTo_congr h]
attribute [local irreducible] opTo timesF
set_option maxRecDepth 100000 in
theorem refAdd_any (a b : List UInt32) (k : UInt64) (A : Option Addr) (c : Nat) (A2 : Option Addr) (c2 : Nat) (w : World) (hR : RdV w w.heap.size A (a.map vU32)) (hR2 : RdV w w.heap.size A2 (b.map vU32)) :
    Calls Tryd.prog 78 #[.slice A a.length c, .slice A2 b.length c2, vU64 k] w fun e w' => ∃ v, e = .returned (.tuple #[v, .bool (opOk a b)]) ∧ Own w' w.heap.size 70 v ((opOut (timesF k) a b).map vU32) ∧ Below w.heap.size w w' := by
  have F := F32.of (FV.no hR)
  have G := F32.of (FV.no hR2)
  have h0 := fun h => calls_own2 (P := Tryd.prog) (w := w) (n := 45) Tryd.func78 rfl Tryd.ntmps78 ([.x (.a (.v (.slice A a.length c))), .x (.a (.v (.slice A2 b.length c2)))] ++ [.x (.a (.v (vU64 k)))]) (by simp) 70 (.u32 (opOut (timesF k) a b)) (.bool (opOk a b)) (vs := (opOut (timesF k) a b).map vU32) (fun _ => rfl) h
  refine h0 ?_
  clear h0
  by_cases h1 : (32 : Int) < a.length
  · have hok : opOk a b = false := by unfold opOk; rw [decide_eq_false (by omega)]; rfl
    rw [opOut_no hok, hok]
    simp only [h1, undef, ownT2, ownT, push_cast, ↓Int.toNat_natCast, ↓Int.cast_ofNat_Int, Int.cast_ofNat_Int, ↓reduceIte, reduceCtorEq, Nat.reduceEqDiff, Nat.reduceLT, Nat.reduceLeDiff, Nat.reduceAdd, Nat.reduceSub, Nat.reduceMul, Int.reduceNeg, Int.reduceLE, Int.reduceLT, Int.reduceToNat, Int.reduceAdd, Int.reduceSub, Int.reduceMul, Int.reduceEq]
  by_cases h2 : (a.length : Int) = b.length
  · have hok : opOk a b = true := by unfold opOk; rw [decide_eq_true (by omega), decide_eq_true (by omega)]; rfl
    have h3 : ¬ (32 : Int) < b.length := by omega
    rw [opOut_yes hok, hok]
    simp only [h3, h2, undef, ownT2, ownT, push_cast, ↓Int.toNat_natCast, ↓Int.cast_ofNat_Int, Int.cast_ofNat_Int, ↓reduceIte, reduceCtorEq, Nat.reduceEqDiff, Nat.reduceLT, Nat.reduceLeDiff, Nat.reduceAdd, Nat.reduceSub, Nat.reduceMul, Int.reduceNeg, Int.reduceLE, Int.reduceLT, Int.reduceToNat, Int.reduceAdd, Int.reduceSub, Int.reduceMul, Int.reduceEq]
    refine loop_ghost 8 70 (.u32 []) rfl rfl trivial (by simp only [push_cast, ↓Int.toNat_natCast, ↓Int.cast_ofNat_Int, Int.cast_ofNat_Int, ↓reduceIte, reduceCtorEq, Nat.reduceEqDiff, Nat.reduceLT, Nat.reduceLeDiff, Nat.reduceAdd, Nat.reduceSub, Nat.reduceMul, Int.reduceNeg, Int.reduceLE, Int.reduceLT, Int.reduceToNat, Int.reduceAdd, Int.reduceSub, Int.reduceMul, Int.reduceEq]) ?_
    refine loop_rule (ι := Nat) (fun i => ⟨[(0, .x (.a (.v (.slice A a.length c)))), (1, .x (.a (.v (.slice A2 b.length c2)))), (2, .x (.a (.v (vU64 k)))), (8, .x (.a (.o 0))), (9, .x (.a (.v (.int .i64 i))))], [.own 70 (.u32 (opTo (timesF k) a b i))]⟩) (fun i => i ≤ b.length) (fun i => b.length - i) 0 [0] (by omega) ?_ ?_
    · simp only [opTo_zero, push_cast, ↓Int.toNat_natCast, ↓Int.cast_ofNat_Int, Int.cast_ofNat_Int, ↓reduceIte, reduceCtorEq, Nat.reduceEqDiff, Nat.reduceLT, Nat.reduceLeDiff, Nat.reduceAdd, Nat.reduceSub, Nat.reduceMul, Int.reduceNeg, Int.reduceLE, Int.reduceLT, Int.reduceToNat, Int.reduceAdd, Int.reduceSub, Int.reduceMul, Int.reduceEq]
    · intro i hi
      have hol := opTo_length (timesF k) a b i
      by_cases hlt : (i : Int) < b.length
      · have i0 : (0 : Int) ≤ i := by omega
        have c0 := F.cell i (by omega)
        have o0 := F.ok i (by omega)
        have d0 := G.cell i (by omega)
        have p0 := G.ok i (by omega)
        have hA := F.some_ (by omega)
        have hA2 := G.some_ (by omega)
        simp only [h2, hlt, undef, push_cast, ↓Int.toNat_natCast, ↓Int.cast_ofNat_Int, Int.cast_ofNat_Int, ↓reduceIte, reduceCtorEq, Nat.reduceEqDiff, Nat.reduceLT, Nat.reduceLeDiff, Nat.reduceAdd, Nat.reduceSub, Nat.reduceMul, Int.reduceNeg, Int.reduceLE, Int.reduceLT, Int.reduceToNat, Int.reduceAdd, Int.reduceSub, Int.reduceMul, Int.reduceEq]
        (repeat (refine And.intro (by first | omega | decide) ?_))
        refine drawT_rule 17 [(0, true), (1, true), (2, true), (3, true), (4, true), (5, true), (6, true), (7, true), (8, true), (9, true), (10, true), (11, true), (12, true), (13, true), (14, true), (15, true), (16, false)] (by kernel_rfl) (by kernel_rfl) ?_
        simp only [h2, hlt, i0, c0, o0, d0, p0, hA, hA2, hol, undef, push_cast, ↓Int.toNat_natCast, ↓Int.cast_ofNat_Int, Int.cast_ofNat_Int, ↓reduceIte, reduceCtorEq, Nat.reduceEqDiff, Nat.reduceLT, Nat.reduceLeDiff, Nat.reduceAdd, Nat.reduceSub, Nat.reduceMul, Int.reduceNeg, Int.reduceLE, Int.reduceLT, Int.reduceToNat, Int.reduceAdd, Int.reduceSub, Int.reduceMul, Int.reduceEq]
        (repeat (refine And.intro (by first | omega | decide) ?_))
        refine loopK_normal (i + 1) [2] (by omega) (by omega) ?_
        simp only [push_cast, ↓Int.toNat_natCast, ↓Int.cast_ofNat_Int, Int.cast_ofNat_Int, ↓reduceIte, reduceCtorEq, Nat.reduceEqDiff, Nat.reduceLT, Nat.reduceLeDiff, Nat.reduceAdd, Nat.reduceSub, Nat.reduceMul, Int.reduceNeg, Int.reduceLE, Int.reduceLT, Int.reduceToNat, Int.reduceAdd, Int.reduceSub, Int.reduceMul, Int.reduceEq]
        exact ((opTo_succ (timesF k) a b i).trans (by unfold timesF; rfl)).symm
      · have e : i = b.length := by omega
        subst e
        have e2 : a.length = b.length := by omega
        simp only [h2, hlt, e2, undef, ownT2, ownT, push_cast, ↓Int.toNat_natCast, ↓Int.cast_ofNat_Int, Int.cast_ofNat_Int, ↓reduceIte, reduceCtorEq, Nat.reduceEqDiff, Nat.reduceLT, Nat.reduceLeDiff, Nat.reduceAdd, Nat.reduceSub, Nat.reduceMul, Int.reduceNeg, Int.reduceLE, Int.reduceLT, Int.reduceToNat, Int.reduceAdd, Int.reduceSub, Int.reduceMul, Int.reduceEq]
  · have hok : opOk a b = false := by unfold opOk; rw [decide_eq_false (by omega : ¬ a.length = b.length), Bool.and_false]
    rw [opOut_no hok, hok]
    simp only [h1, h2, undef, ownT2, ownT, push_cast, ↓Int.toNat_natCast, ↓Int.cast_ofNat_Int, Int.cast_ofNat_Int, ↓reduceIte, reduceCtorEq, Nat.reduceEqDiff, Nat.reduceLT, Nat.reduceLeDiff, Nat.reduceAdd, Nat.reduceSub, Nat.reduceMul, Int.reduceNeg, Int.reduceLE, Int.reduceLT, Int.reduceToNat, Int.reduceAdd, Int.reduceSub, Int.reduceMul, Int.reduceEq]
theorem refAddOK {w0 : World} {hp : List Res} {s1 s2 : Sv} {a b : List UInt32} (k : UInt64) (h1 : Shows w0 No hp s1 (a.map vU32)) (h2 : Shows w0 No hp s2 (b.map vU32)) (hbr : ∀ r ∈ hp, Res.bnd hp.length r) :
    CallOK Tryd.prog w0 No 78 [s1, s2, .x (.a (.v (vU64 k)))] hp (.t [.a (.o hp.length), .a (.v (.bool (opOk a b)))]) (hp ++ [.own 70 (.u32 (opOut (timesF k) a b))]) := callOK_own2 hbr trivial fun γ w hS => by
  obtain ⟨A, c, e1, b1, r1⟩ := h1 γ w hS
  obtain ⟨A2, c2, e2, b2, r2⟩ := h2 γ w hS
  rw [List.length_map] at e1 e2
  show Calls _ _ #[s1.val γ, s2.val γ, vU64 k] w _
  rw [e1, e2]
  exact refAdd_any a b k A c A2 c2 w r1 r2
/-! ### Keys -/
attribute [local irreducible] powU
theorem public09_any (k : UInt64) (w : World) : Calls Tryd.prog 50 #[vU64 k] w fun e w' => e = .returned (vU64 (powU 3 k)) ∧ Below w.heap.size w w' := by
  refine calls_v (n := 5) Tryd.func50 rfl Tryd.ntmps50 [.x (.a (.v (vU64 k)))] (by simp) (.x (.a (.v (vU64 (powU 3 k))))) (fun _ => rfl) ?_
  simp only [push_cast, ↓Int.toNat_natCast, ↓Int.cast_ofNat_Int, Int.cast_ofNat_Int, ↓reduceIte, reduceCtorEq, Nat.reduceEqDiff, Nat.reduceLT, Nat.reduceLeDiff, Nat.reduceAdd, Nat.reduceSub, Nat.reduceMul, Int.reduceNeg, Int.reduceLE, Int.reduceLT, Int.reduceToNat, Int.reduceAdd, Int.reduceSub, Int.reduceMul, Int.reduceEq]
  refine callG_v rfl cb79 rfl (fpPowK 3 k) (dOk_lt rfl) ?_
  simp only [push_cast, ↓Int.toNat_natCast, ↓Int.cast_ofNat_Int, Int.cast_ofNat_Int, ↓reduceIte, reduceCtorEq, Nat.reduceEqDiff, Nat.reduceLT, Nat.reduceLeDiff, Nat.reduceAdd, Nat.reduceSub, Nat.reduceMul, Int.reduceNeg, Int.reduceLE, Int.reduceLT, Int.reduceToNat, Int.reduceAdd, Int.reduceSub, Int.reduceMul, Int.reduceEq]
theorem shared09_any (k p : UInt64) (w : World) : Calls Tryd.prog 52 #[vU64 k, vU64 p] w fun e w' => e = .returned (vU64 (powU p k)) ∧ Below w.heap.size w w' := by
  refine calls_v (n := 8) Tryd.func52 rfl Tryd.ntmps52 [.x (.a (.v (vU64 k))), .x (.a (.v (vU64 p)))] (by simp) (.x (.a (.v (vU64 (powU p k))))) (fun _ => rfl) ?_
  simp only [push_cast, ↓Int.toNat_natCast, ↓Int.cast_ofNat_Int, Int.cast_ofNat_Int, ↓reduceIte, reduceCtorEq, Nat.reduceEqDiff, Nat.reduceLT, Nat.reduceLeDiff, Nat.reduceAdd, Nat.reduceSub, Nat.reduceMul, Int.reduceNeg, Int.reduceLE, Int.reduceLT, Int.reduceToNat, Int.reduceAdd, Int.reduceSub, Int.reduceMul, Int.reduceEq]
  refine callG_v rfl cb79 rfl (fpPowK p k) (dOk_lt rfl) ?_
  simp only [push_cast, ↓Int.toNat_natCast, ↓Int.cast_ofNat_Int, Int.cast_ofNat_Int, ↓reduceIte, reduceCtorEq, Nat.reduceEqDiff, Nat.reduceLT, Nat.reduceLeDiff, Nat.reduceAdd, Nat.reduceSub, Nat.reduceMul, Int.reduceNeg, Int.reduceLE, Int.reduceLT, Int.reduceToNat, Int.reduceAdd, Int.reduceSub, Int.reduceMul, Int.reduceEq]
section
variable {w0 : World} {ow : Nat → Prop} {hp : List Res}
theorem publicK (k : UInt64) : CallOK Tryd.prog w0 ow 50 [.x (.a (.v (vU64 k)))] hp (.x (.a (.v (vU64 (powU 3 k))))) hp := callOK_v fun _ w _ => public09_any k w
theorem sharedK (k p : UInt64) : CallOK Tryd.prog w0 ow 52 [.x (.a (.v (vU64 k))), .x (.a (.v (vU64 p)))] hp (.x (.a (.v (vU64 (powU p k))))) hp := callOK_v fun _ w _ => shared09_any k p w
end
/-! ### Rows -/
def pairS : ByteArray := { data := #[112, 97, 105, 114] }
theorem pairS_ok : labOk pairS = true := by decide +kernel
def pairW (p key : UInt64) (dim : Nat) : List UInt32 := wTo (powU p key) pairS.data.toList dim
theorem pairW_length (p key : UInt64) (dim : Nat) : (pairW p key dim).length = dim := wTo_length _ _ _
def pairTo (me : Int) (key : UInt64) (l : List Pr) (dim : Nat) : Nat → List UInt32
  | 0 => List.replicate dim 0
  | i + 1 => if (ix l i).1 = me then pairTo me key l dim i else if me < (ix l i).1 then opTo (· + ·) (pairTo me key l dim i) (pairW (ix l i).2 key dim) dim else opTo (· - ·) (pairTo me key l dim i) (pairW (ix l i).2 key dim) dim
section
variable (me : Int) (key : UInt64) (l : List Pr) (dim : Nat) (i : Nat)
theorem pairTo_zero : pairTo me key l dim 0 = List.replicate dim 0 := rfl
theorem pairTo_me (h : (ix l i).1 = me) : pairTo me key l dim (i + 1) = pairTo me key l dim i := by simp only [pairTo, if_pos h]
theorem pairTo_lo (h : ¬ (ix l i).1 = me) (h2 : me < (ix l i).1) : pairTo me key l dim (i + 1) = opTo (· + ·) (pairTo me key l dim i) (pairW (ix l i).2 key dim) dim := by simp only [pairTo, if_neg h, if_pos h2]
theorem pairTo_hi (h : ¬ (ix l i).1 = me) (h2 : ¬ me < (ix l i).1) : pairTo me key l dim (i + 1) = opTo (· - ·) (pairTo me key l dim i) (pairW (ix l i).2 key dim) dim := by simp only [pairTo, if_neg h, if_neg h2]
theorem pairTo_length : (pairTo me key l dim i).length = dim := by
  induction i with
  | zero => simp [pairTo]
  | succ i ih =>
    simp only [pairTo]
    split
    · exact ih
    · split <;> exact opTo_length _ _ _ _
end
def foundTo (me : Int) (l : List Pr) : Nat → Bool
  | 0 => false
  | i + 1 => foundTo me l i || decide ((ix l i).1 = me)
theorem foundTo_zero (me : Int) (l : List Pr) : foundTo me l 0 = false := rfl
theorem foundTo_yes {me : Int} {l : List Pr} {i : Nat} (h : (ix l i).1 = me) : foundTo me l (i + 1) = true := by simp [foundTo, h]
theorem foundTo_no {me : Int} {l : List Pr} {i : Nat} (h : ¬ (ix l i).1 = me) : foundTo me l (i + 1) = foundTo me l i := by simp [foundTo, h]
def prOk (me : Int) (l : List Pr) (dim : Int) : Bool := may l && zOk dim && foundTo me l l.length
def prOut (me : Int) (key : UInt64) (l : List Pr) (dim : Int) : List UInt32 := if prOk me l dim = true then pairTo me key l dim.toNat l.length else []
def prErr (me : Int) (l : List Pr) (dim : Int) : Value := if prOk me l dim = true then .nilIface else .iface 95 (.int .i64 1)
theorem prOut_no {me : Int} {key : UInt64} {l : List Pr} {dim : Int} (h : prOk me l dim = false) : prOut me key l dim = [] := by unfold prOut; rw [h]; rfl
theorem prOut_yes {me : Int} {key : UInt64} {l : List Pr} {dim : Int} (h : prOk me l dim = true) : prOut me key l dim = pairTo me key l dim.toNat l.length := by unfold prOut; rw [h]; rfl
theorem prErr_no {me : Int} {l : List Pr} {dim : Int} (h : prOk me l dim = false) : prErr me l dim = .iface 95 (.int .i64 1) := by unfold prErr; rw [h]; rfl
theorem prErr_yes {me : Int} {l : List Pr} {dim : Int} (h : prOk me l dim = true) : prErr me l dim = .nilIface := by unfold prErr; rw [h]; rfl
theorem opOk_len {a b : List UInt32} {d : Nat} (h1 : a.length = d) (h2 : b.length = d) (h3 : d ≤ 32) : opOk a b = true := by unfold opOk; rw [decide_eq_true (by omega), decide_eq_true (by omega)]; rfl
end Go.Proofs.YtkchdhkpjnnliaaDoor
