import Derived.Test.YtombphphaoeeiaaGreatDoorVec
import Derived.Test.YtombphphaoeeiaaGreatDoorFpA
import Derived.Test.YtombphphaoeeiaaGreatDoorPgA
import Derived.Test.YtombphphaoeeiaaGreatDoorShA
import Derived.Test.YtombphphaoeeiaaGreatDoorOpn
/- PrA: Pr1, Pr2, Pr3, Pr4, joined. -/
/- Peers as rows of two cells: may they be, by the program and by the document. -/
namespace Go.Proofs.YtombphphaoeeiaaGreatDoor
open Go.RowKit
set_option linter.unusedSimpArgs false
/-! ### Peers -/
abbrev Pr := Int × UInt64
def pv (p : Pr) : List Value := [.int .i64 p.1, vU64 p.2]
theorem pv_len (p : Pr) : (pv p).length = 2 := rfl
def pvs (l : List Pr) : List Value := l.flatMap pv
theorem pvs_len (l : List Pr) : (pvs l).length = l.length * 2 := flat_len pv_len l
structure FP (w0 : World) (A : Option Addr) (l : List Pr) : Prop where
  some_ : 0 < l.length → A.isSome = true
  c0 : ∀ i, i < l.length → cellOf w0 (pAdd A (i * 2)) = .int .i64 (ix l i).1
  c1 : ∀ i, i < l.length → cellOf w0 (pAdd A (i * 2 + 1)) = vU64 (ix l i).2
  ok0 : ∀ i, i < l.length → rawOk w0 No (pAdd A (i * 2))
  ok1 : ∀ i, i < l.length → rawOk w0 No (pAdd A (i * 2 + 1))
theorem FP.of {w0 : World} {A : Option Addr} {l : List Pr} (hR : RdV w0 w0.heap.size A (pvs l)) : FP w0 A l := by
  have h := FV.no hR
  have g0 : ∀ i, i < l.length → (pvs l)[i * 2]? = some (.int .i64 (ix l i).1) := fun i hi => flat_get pv_len l i 0 hi (by omega)
  have g1 : ∀ i, i < l.length → (pvs l)[i * 2 + 1]? = some (vU64 (ix l i).2) := fun i hi => flat_get pv_len l i 1 hi (by omega)
  exact ⟨fun hp => h.some_ (by rw [pvs_len]; omega), fun i hi => (h.cell (g0 i hi)).1, fun i hi => (h.cell (g1 i hi)).1, fun i hi => (h.cell (g0 i hi)).2, fun i hi => (h.cell (g1 i hi)).2⟩
def lastP (l : List Pr) : Nat → Int
  | 0 => -1
  | i + 1 => (ix l i).1
theorem lastP_zero (l : List Pr) : lastP l 0 = -1 := rfl
theorem lastP_succ (l : List Pr) (i : Nat) : lastP l (i + 1) = (ix l i).1 := rfl
def pgood (l : List Pr) (i : Nat) : Prop := lastP l i < (ix l i).1 ∧ (ix l i).1 < 64 ∧ (ix l i).2 ≠ 0 ∧ (ix l i).2 < fpP
instance (l : List Pr) (i : Nat) : Decidable (pgood l i) := by unfold pgood; exact inferInstance
def may (l : List Pr) : Bool := (List.range l.length).all fun i => decide (pgood l i)
theorem may_iff {l : List Pr} : may l = true ↔ ∀ i, i < l.length → pgood l i := by
  unfold may
  simp [List.all_eq_true]
theorem may_no {l : List Pr} {i : Nat} (hi : i < l.length) (h : ¬ pgood l i) : may l = false := by
  cases hm : may l
  · rfl
  · exact absurd (may_iff.1 hm i hi) h
theorem lastP_ge {l : List Pr} (i : Nat) (h : ∀ j, j < i → pgood l j) : (i : Int) - 1 ≤ lastP l i := by
  induction i with
  | zero => simp [lastP]
  | succ i ih =>
    have h1 := ih fun j hj => h j (by omega)
    have h2 := (h i (by omega)).1
    simp only [lastP]
    omega
theorem may_len {l : List Pr} (h : may l = true) : l.length ≤ 64 := by
  cases hl : l.length with
  | zero => omega
  | succ n =>
    have h0 := may_iff.1 h
    have h1 := lastP_ge (l := l) (n + 1) fun j hj => h0 j (by omega)
    have h2 := (h0 n (by omega)).2.1
    simp only [lastP] at h1
    omega
def mayErr (l : List Pr) : Value := if may l = true then .nilIface else .iface 63 (.int .i64 1)
theorem mayErr_no {l : List Pr} (h : may l = false) : mayErr l = .iface 63 (.int .i64 1) := by unfold mayErr; rw [h]; rfl
theorem mayErr_yes {l : List Pr} (h : may l = true) : mayErr l = .nilIface := by unfold mayErr; rw [h]; rfl
theorem u64_le_not {a b : UInt64} : ¬ a ≤ b ↔ b < a := by rw [UInt64.le_iff_toNat_le, UInt64.lt_iff_toNat_lt]; omega
theorem fpP_lit : (2305843009213693951 : UInt64) = fpP := rfl
set_option maxRecDepth 100000 in
theorem check09_any (l : List Pr) (A : Option Addr) (c : Nat) (w : World) (hR : RdV w w.heap.size A (pvs l)) : Calls Tryz.prog 28 #[.slice A l.length c] w fun e w' => e = .returned (mayErr l) ∧ Below w.heap.size w w' := by
  have F := FP.of hR
  refine calls_v (n := 39) Tryz.func28 rfl Tryz.ntmps28 [.x (.a (.v (.slice A l.length c)))] (by simp) (.x (.a (.v (mayErr l)))) (fun _ => rfl) ?_
  by_cases h64 : (64 : Int) < l.length
  · have hm : may l = false := by
      cases hm : may l
      · rfl
      · have := may_len hm; omega
    simp only [h64, mayErr_no hm, push_cast, ↓reduceIte, reduceCtorEq, Nat.reduceLT, Int.reduceNeg]
  simp only [h64, push_cast, ↓reduceIte, reduceCtorEq, Nat.reduceLT, Int.reduceNeg]
  refine loop_rule (ι := Nat) (fun i => ⟨[(3, .x (.a (.v (.int .i64 (lastP l i))))), (10, .x (.a (.v (.slice A l.length c)))), (11, .x (.a (.v (.int .i64 l.length)))), (12, .x (.a (.v (.int .i64 i))))], []⟩) (fun i => i ≤ l.length ∧ ∀ j, j < i → pgood l j) (fun i => l.length - i) 0 [] ⟨by omega, fun j h => by omega⟩ ?_ ?_
  · simp only [lastP_zero, push_cast, ↓Int.cast_ofNat_Int, Int.cast_ofNat_Int, ↓reduceIte, Nat.reduceEqDiff, Int.reduceNeg]
  · rintro i ⟨hi, hj⟩
    by_cases hlt : (i : Int) < l.length
    · have i0 : (0 : Int) ≤ i := by omega
      have c0 := F.c0 i (by omega)
      have c1 := F.c1 i (by omega)
      have o0 := F.ok0 i (by omega)
      have o1 := F.ok1 i (by omega)
      have hA := F.some_ (by omega)
      by_cases h1 : (ix l i).1 ≤ lastP l i
      · have hm := may_no (l := l) (i := i) (by omega) (fun h => by have := h.1; omega)
        simp only [hlt, i0, c0, c1, o0, o1, hA, h1, mayErr_no hm, pAdd_zero, pAdd_add, pAdd_isSome, undef, push_cast, ↓Int.toNat_natCast, ↓reduceIte, reduceCtorEq, Nat.reduceEqDiff, Nat.reduceLT, Nat.reduceAdd]
      by_cases h2 : (64 : Int) ≤ (ix l i).1
      · have hm := may_no (l := l) (i := i) (by omega) (fun h => by have := h.2.1; omega)
        simp only [hlt, i0, c0, c1, o0, o1, hA, h1, h2, mayErr_no hm, pAdd_zero, pAdd_add, pAdd_isSome, undef, push_cast, ↓Int.toNat_natCast, ↓reduceIte, reduceCtorEq, Nat.reduceEqDiff, Nat.reduceLT, Nat.reduceAdd]
      by_cases h3 : (ix l i).2 = 0
      · have hm := may_no (l := l) (i := i) (by omega) (fun h => h.2.2.1 h3)
        simp only [hlt, i0, c0, c1, o0, o1, hA, h1, h2, h3, mayErr_no hm, pAdd_zero, pAdd_add, pAdd_isSome, undef, push_cast, ↓Int.toNat_natCast, ↓reduceIte, reduceCtorEq, Nat.reduceEqDiff, Nat.reduceLT, Nat.reduceAdd]
      by_cases h4 : (2305843009213693951 : UInt64) ≤ (ix l i).2
      · have hm := may_no (l := l) (i := i) (by omega) (fun h => u64_le_not.2 h.2.2.2 h4)
        simp only [hlt, i0, c0, c1, o0, o1, hA, h1, h2, h3, h4, mayErr_no hm, pAdd_zero, pAdd_add, pAdd_isSome, undef, push_cast, ↓Int.toNat_natCast, ↓reduceIte, reduceCtorEq, Nat.reduceEqDiff, Nat.reduceLT, Nat.reduceAdd]
      have hg : pgood l i := ⟨by omega, by omega, h3, u64_le_not.1 h4⟩
      simp only [hlt, i0, c0, c1, o0, o1, hA, h1, h2, h3, h4, pAdd_zero, pAdd_add, pAdd_isSome, undef, push_cast, ↓Int.toNat_natCast, ↓reduceIte, reduceCtorEq, Nat.reduceEqDiff, Nat.reduceLT, Nat.reduceAdd, Int.reduceNeg]
      (repeat (refine And.intro (by first | omega | decide) ?_))
      refine loopK_normal (i + 1) [] ⟨by omega, fun j hjl => ?_⟩ (by omega) ?_
      · by_cases e : j = i
        · rw [e]; exact hg
        · exact hj j (by omega)
      · simp only [lastP_succ, push_cast, ↓reduceIte, Nat.reduceEqDiff]
    · have hm : may l = true := may_iff.2 fun j h => hj j (by omega)
      simp only [hlt, mayErr_yes hm, push_cast, ↓reduceIte, Nat.reduceEqDiff, Nat.reduceLT]
section
variable {w0 : World} {hp : List Res} {sv : Sv} {l : List Pr}
theorem check09OK (h : ShowsR w0 No hp sv l.length (pvs l)) : CallOK Tryz.prog w0 No 28 [sv] hp (.x (.a (.v (mayErr l)))) hp := callOK_v fun γ w hS => by
  obtain ⟨A, c, e1, _, r1⟩ := h γ w hS
  show Calls _ _ #[sv.val γ] w _
  rw [e1]
  exact check09_any l A c w r1
end
end Go.Proofs.YtombphphaoeeiaaGreatDoor
/- What one of some peers adds to its row, by the program and by the document. -/
namespace Go.Proofs.YtombphphaoeeiaaGreatDoor
open Go.RowKit
set_option linter.unusedSimpArgs false
def zOk (n : Int) : Bool := decide (0 ≤ n ∧ n ≤ 32)
def zOut (n : Int) : List UInt32 := if zOk n = true then List.replicate n.toNat 0 else []
def zErr (n : Int) : Value := if zOk n = true then .nilIface else .iface 63 (.int .i64 1)
theorem zOk_no {n : Int} (h : n < 0 ∨ 32 < n) : zOk n = false := by unfold zOk; exact decide_eq_false (by omega)
theorem zOk_yes {n : Int} (h : ¬ n < 0) (h2 : ¬ 32 < n) : zOk n = true := by unfold zOk; exact decide_eq_true (by omega)
set_option maxRecDepth 100000 in
theorem zero02_any (n : Int) (w : World) : Calls Tryz.prog 27 #[.int .i64 n] w fun e w' => ∃ v, e = .returned (.tuple #[v, zErr n]) ∧ Own w' w.heap.size 23 v ((zOut n).map vU32) ∧ Below w.heap.size w w' := by
  have h0 := fun h => calls_own2 (P := Tryz.prog) (w := w) (n := 13) Tryz.func27 rfl Tryz.ntmps27 [.x (.a (.v (.int .i64 n)))] (by simp) 23 (.u32 (zOut n)) (zErr n) (vs := (zOut n).map vU32) (fun _ => rfl) h
  refine h0 ?_
  clear h0
  by_cases h1 : n < 0
  · have e1 : zOut n = [] := by unfold zOut; rw [zOk_no (.inl h1)]; rfl
    have e2 : zErr n = .iface 63 (.int .i64 1) := by unfold zErr; rw [zOk_no (.inl h1)]; rfl
    rw [e1, e2]
    simp only [h1, undef, ownT2, ownT, push_cast, ↓reduceIte, reduceCtorEq, Nat.reduceEqDiff, Nat.reduceLT]
  by_cases h2 : 32 < n
  · have e1 : zOut n = [] := by unfold zOut; rw [zOk_no (.inr h2)]; rfl
    have e2 : zErr n = .iface 63 (.int .i64 1) := by unfold zErr; rw [zOk_no (.inr h2)]; rfl
    rw [e1, e2]
    simp only [h1, h2, ownT2, ownT, push_cast, ↓reduceIte, reduceCtorEq, Nat.reduceEqDiff, Nat.reduceLT]
  have e1 : zOut n = List.replicate n.toNat 0 := by unfold zOut; rw [zOk_yes h1 h2]; rfl
  have e2 : zErr n = .nilIface := by unfold zErr; rw [zOk_yes h1 h2]; rfl
  rw [e1, e2]
  simp only [h1, h2, ownT2, ownT, push_cast, ↓Int.cast_ofNat_Int, Int.cast_ofNat_Int, ↓reduceIte, reduceCtorEq, Nat.reduceEqDiff, Nat.reduceLT]
  all_goals omega
theorem zero02OK {w0 : World} {ow : Nat → Prop} {hp : List Res} (n : Int) (hbr : ∀ r ∈ hp, Res.bnd hp.length r) :
    CallOK Tryz.prog w0 ow 27 [.x (.a (.v (.int .i64 n)))] hp (.t [.a (.o hp.length), .a (.v (zErr n))]) (hp ++ [.own 23 (.u32 (zOut n))]) := callOK_own2 hbr trivial fun _ w _ => zero02_any n w
/-! ### The document's sum of two rows, with so many times the second one -/
def timesF (k : UInt64) (x y : UInt32) : UInt32 := ((x.toUInt64 + k * y.toUInt64) % 4294967296).toUInt32
attribute [local irreducible] opTo timesF
/-! ### Keys -/
attribute [local irreducible] powU
theorem public09_any (k : UInt64) (w : World) : Calls Tryz.prog 10 #[vU64 k] w fun e w' => e = .returned (vU64 (powU 3 k)) ∧ Below w.heap.size w w' := by
  refine calls_v (n := 5) Tryz.func10 rfl Tryz.ntmps10 [.x (.a (.v (vU64 k)))] (by simp) (.x (.a (.v (vU64 (powU 3 k))))) (fun _ => rfl) ?_
  simp only [push_cast, ↓reduceIte, reduceCtorEq, Nat.reduceLT]
  refine callG_v rfl cb24 rfl (fpPowK 3 k) (dOk_lt rfl) ?_
  simp only [push_cast, ↓reduceIte, Nat.reduceLT]
theorem shared09_any (k p : UInt64) (w : World) : Calls Tryz.prog 55 #[vU64 k, vU64 p] w fun e w' => e = .returned (vU64 (powU p k)) ∧ Below w.heap.size w w' := by
  refine calls_v (n := 8) Tryz.func55 rfl Tryz.ntmps55 [.x (.a (.v (vU64 k))), .x (.a (.v (vU64 p)))] (by simp) (.x (.a (.v (vU64 (powU p k))))) (fun _ => rfl) ?_
  simp only [push_cast, ↓reduceIte, reduceCtorEq, Nat.reduceEqDiff, Nat.reduceLT]
  refine callG_v rfl cb24 rfl (fpPowK p k) (dOk_lt rfl) ?_
  simp only [push_cast, ↓reduceIte, Nat.reduceLT]
section
variable {w0 : World} {ow : Nat → Prop} {hp : List Res}
theorem publicK (k : UInt64) : CallOK Tryz.prog w0 ow 10 [.x (.a (.v (vU64 k)))] hp (.x (.a (.v (vU64 (powU 3 k))))) hp := callOK_v fun _ w _ => public09_any k w
theorem sharedK (k p : UInt64) : CallOK Tryz.prog w0 ow 55 [.x (.a (.v (vU64 k))), .x (.a (.v (vU64 p)))] hp (.x (.a (.v (vU64 (powU p k))))) hp := callOK_v fun _ w _ => shared09_any k p w
end
/-! ### Rows -/
def pairS : ByteArray := { data := #[112, 97, 105, 114] }
theorem pairS_ok : labOk pairS = true := by decide +kernel
def pairW (p key : UInt64) (dim : Nat) : List UInt32 := wTo (powU p key) pairS.data.toList dim
theorem pairW_length (p key : UInt64) (dim : Nat) : (pairW p key dim).length = dim := wTo_length _ _ _
def pairTo (me : Int) (key : UInt64) (l : List Pr) (dim : Nat) : Nat → List UInt32
  | 0 => List.replicate dim 0
  | i + 1 => if (ix l i).1 = me then pairTo me key l dim i else if me < (ix l i).1 then opTo (· + ·) (pairTo me key l dim i) (pairW (ix l i).2 key dim) dim else opTo (· - ·) (pairTo me key l dim i) (pairW (ix l i).2 key dim) dim
section
variable (me : Int) (key : UInt64) (l : List Pr) (dim : Nat) (i : Nat)
theorem pairTo_zero : pairTo me key l dim 0 = List.replicate dim 0 := rfl
theorem pairTo_me (h : (ix l i).1 = me) : pairTo me key l dim (i + 1) = pairTo me key l dim i := by simp only [pairTo, if_pos h]
theorem pairTo_lo (h : ¬ (ix l i).1 = me) (h2 : me < (ix l i).1) : pairTo me key l dim (i + 1) = opTo (· + ·) (pairTo me key l dim i) (pairW (ix l i).2 key dim) dim := by simp only [pairTo, if_neg h, if_pos h2]
theorem pairTo_hi (h : ¬ (ix l i).1 = me) (h2 : ¬ me < (ix l i).1) : pairTo me key l dim (i + 1) = opTo (· - ·) (pairTo me key l dim i) (pairW (ix l i).2 key dim) dim := by simp only [pairTo, if_neg h, if_neg h2]
theorem pairTo_length : (pairTo me key l dim i).length = dim := by
  induction i with
  | zero => simp [pairTo]
  | succ i ih =>
    simp only [pairTo]
    split
    · exact ih
    · split <;> exact opTo_length _ _ _ _
end
def foundTo (me : Int) (l : List Pr) : Nat → Bool
  | 0 => false
  | i + 1 => foundTo me l i || decide ((ix l i).1 = me)
theorem foundTo_zero (me : Int) (l : List Pr) : foundTo me l 0 = false := rfl
theorem foundTo_yes {me : Int} {l : List Pr} {i : Nat} (h : (ix l i).1 = me) : foundTo me l (i + 1) = true := by simp [foundTo, h]
theorem foundTo_no {me : Int} {l : List Pr} {i : Nat} (h : ¬ (ix l i).1 = me) : foundTo me l (i + 1) = foundTo me l i := by simp [foundTo, h]
def prOk (me : Int) (l : List Pr) (dim : Int) : Bool := may l && zOk dim && foundTo me l l.length
def prOut (me : Int) (key : UInt64) (l : List Pr) (dim : Int) : List UInt32 := if prOk me l dim = true then pairTo me key l dim.toNat l.length else []
def prErr (me : Int) (l : List Pr) (dim : Int) : Value := if prOk me l dim = true then .nilIface else .iface 63 (.int .i64 1)
theorem prOut_no {me : Int} {key : UInt64} {l : List Pr} {dim : Int} (h : prOk me l dim = false) : prOut me key l dim = [] := by unfold prOut; rw [h]; rfl
theorem prOut_yes {me : Int} {key : UInt64} {l : List Pr} {dim : Int} (h : prOk me l dim = true) : prOut me key l dim = pairTo me key l dim.toNat l.length := by unfold prOut; rw [h]; rfl
theorem prErr_no {me : Int} {l : List Pr} {dim : Int} (h : prOk me l dim = false) : prErr me l dim = .iface 63 (.int .i64 1) := by unfold prErr; rw [h]; rfl
theorem prErr_yes {me : Int} {l : List Pr} {dim : Int} (h : prOk me l dim = true) : prErr me l dim = .nilIface := by unfold prErr; rw [h]; rfl
theorem opOk_len {a b : List UInt32} {d : Nat} (h1 : a.length = d) (h2 : b.length = d) (h3 : d ≤ 32) : opOk a b = true := by unfold opOk; rw [decide_eq_true (by omega), decide_eq_true (by omega)]; rfl
end Go.Proofs.YtombphphaoeeiaaGreatDoor
/- pair.Row and the document's. -/
namespace Go.Proofs.YtombphphaoeeiaaGreatDoor
open Go.RowKit
set_option linter.unusedSimpArgs false
theorem pairLit : ({ data := #[112, 97, 105, 114] } : ByteArray) = pairS := rfl
theorem pair_wOk (d : Nat) (h : d ≤ 32) : wOk pairS (d : Int) 32 = true := wOk_yes pairS_ok (by omega) (by omega)
theorem pair_wOut (x key : UInt64) (d : Nat) (h : d ≤ 32) : wOut (powU x key) pairS (d : Int) = pairW x key d := by rw [wOut_yes (pair_wOk d h), Int.toNat_natCast]; rfl
section
variable {me : Int} {key : UInt64} {l : List Pr} {d i : Nat}
theorem row_lo (hd : d ≤ 32) (h : ¬ (ix l i).1 = me) (h2 : me < (ix l i).1) : opOut (· + ·) (pairTo me key l d i) (pairW (ix l i).2 key d) = pairTo me key l d (i + 1) := by
  rw [opOut_yes (opOk_len (pairTo_length me key l d i) (pairW_length _ _ _) hd), pairTo_length, pairTo_lo _ _ _ _ _ h h2]
theorem row_hi (hd : d ≤ 32) (h : ¬ (ix l i).1 = me) (h2 : ¬ me < (ix l i).1) : opOut (· - ·) (pairTo me key l d i) (pairW (ix l i).2 key d) = pairTo me key l d (i + 1) := by
  rw [opOut_yes (opOk_len (pairTo_length me key l d i) (pairW_length _ _ _) hd), pairTo_length, pairTo_hi _ _ _ _ _ h h2]
theorem row_ok (hd : d ≤ 32) (p : UInt64) : opOk (pairTo me key l d i) (pairW p key d) = true := opOk_len (pairTo_length me key l d i) (pairW_length _ _ _) hd
end
theorem prOk_may {me : Int} {l : List Pr} {dim : Int} (h : may l = false) : prOk me l dim = false := by unfold prOk; rw [h]; rfl
theorem prOk_dim {me : Int} {l : List Pr} {dim : Int} (h : zOk dim = false) : prOk me l dim = false := by unfold prOk; rw [h, Bool.and_false]; rfl
theorem prOk_found {me : Int} {l : List Pr} {dim : Int} (h1 : may l = true) (h2 : zOk dim = true) : prOk me l dim = foundTo me l l.length := by unfold prOk; rw [h1, h2]; rfl
attribute [local irreducible] pairTo pairW powU may opTo foundTo wOk wOut
attribute [local irreducible] Callable CallOK CallG CallM DrawG LoopG symR symM
set_option maxRecDepth 100000 in
set_option maxHeartbeats 4000000 in
theorem pairRow_any (me : Int) (key : UInt64) (l : List Pr) (A : Option Addr) (c : Nat) (dim : Int) (w : World) (hc : l.length ≤ c) (hR : RdV w w.heap.size A (pvs l)) (hk : LaidK 1 w) :
    Calls Tryz.prog 33 (List.map (Sv.val []) [.x (.a (.v (.int .i64 me))), .x (.a (.v (vU64 key))), .x (.a (.v (.slice A l.length c))), .x (.a (.v (.int .i64 dim)))]).toArray w fun e w' => ∃ v, e = .returned (.tuple #[v, prErr me l dim]) ∧ Own w' w.heap.size 23 v ((prOut me key l dim).map vU32) ∧ Below w.heap.size w w' := by
  have F := FP.of hR
  have h0 := fun h => calls_own2 (P := Tryz.prog) (w := w) (n := 77) Tryz.func33 rfl Tryz.ntmps33 [.x (.a (.v (.int .i64 me))), .x (.a (.v (vU64 key))), .x (.a (.v (.slice A l.length c))), .x (.a (.v (.int .i64 dim)))] (by simp) 23 (.u32 (prOut me key l dim)) (prErr me l dim) (vs := (prOut me key l dim).map vU32) (fun _ => rfl) h
  refine h0 ?_; clear h0
  simp only [push_cast, ↓reduceIte, reduceCtorEq, Nat.reduceEqDiff, Nat.reduceLT, Nat.reduceAdd]
  refine callG_v rfl cb28 rfl (check09OK (showsR_raw hR hc)) (dOk_lt rfl) ?_
  cases hm : may l
  · rw [prOut_no (prOk_may hm), prErr_no (prOk_may hm)]
    simp only [mayErr_no hm, ownT2, ownT, push_cast, ↓reduceIte, Nat.reduceEqDiff, Nat.reduceLT]
  simp only [mayErr_yes hm, push_cast, ↓reduceIte, reduceCtorEq, Nat.reduceEqDiff, Nat.reduceLT]
  refine callG_x rfl cb27 rfl (zero02OK dim (by simp only [push_cast])) (dOk_lt rfl) (by simp only [push_cast]) ?_
  cases hz : zOk dim
  · rw [prOut_no (prOk_dim hz), prErr_no (prOk_dim hz)]
    have e : zErr dim = .iface 63 (.int .i64 1) := by unfold zErr; rw [hz]; rfl
    simp only [e, ownT2, ownT, push_cast, ↓reduceIte, Nat.reduceEqDiff, Nat.reduceLT]
  have hz' : 0 ≤ dim ∧ dim ≤ 32 := of_decide_eq_true hz
  obtain ⟨d, rfl⟩ : ∃ d : Nat, dim = d := ⟨dim.toNat, by omega⟩
  have hd : d ≤ 32 := by omega
  have e : zErr d = .nilIface := by unfold zErr; rw [hz]; rfl
  have e2 : zOut d = pairTo me key l d 0 := by unfold zOut; rw [hz, Int.toNat_natCast]; exact (pairTo_zero me key l d).symm
  have hfo := prOk_found (me := me) hm hz
  have h64 := may_len hm
  simp only [e, e2, push_cast, ↓reduceIte, reduceCtorEq, Nat.reduceEqDiff, Nat.reduceLT]
  refine loop_rule (ι := Nat) (fun i => ⟨[(0, .x (.a (.v (.int .i64 me)))), (1, .x (.a (.v (vU64 key)))), (3, .x (.a (.v (.int .i64 d)))), (11, .x (.a (.o 0))), (13, .x (.a (.v (.bool (foundTo me l i))))), (31, .x (.a (.v (.slice A l.length c)))), (32, .x (.a (.v (.int .i64 l.length)))), (33, .x (.a (.v (.int .i64 i))))],
    [.own 23 (.u32 (pairTo me key l d i))]⟩) (fun i => i ≤ l.length) (fun i => l.length - i) 0 [0] (by omega) ?_ ?_
  · simp only [foundTo_zero, push_cast, ↓Int.cast_ofNat_Int, Int.cast_ofNat_Int, ↓reduceIte, reduceCtorEq, Nat.reduceEqDiff, Nat.reduceLT]
  · intro i hi
    by_cases hlt : (i : Int) < l.length
    · have i0 : (0 : Int) ≤ i := by omega
      have c0 := F.c0 i (by omega)
      have c1 := F.c1 i (by omega)
      have o0 := F.ok0 i (by omega)
      have o1 := F.ok1 i (by omega)
      have hA := F.some_ (by omega)
      by_cases hme : (ix l i).1 = me
      · simp only [hlt, i0, c0, c1, o0, o1, hA, hme, pAdd_zero, pAdd_add, pAdd_isSome, undef, push_cast, ↓Int.toNat_natCast, ↓reduceIte, reduceCtorEq, Nat.reduceEqDiff, Nat.reduceLT, Nat.reduceAdd, Int.reduceNeg]
        (repeat (refine And.intro (by first | omega | decide) ?_))
        refine loopK_normal (i + 1) [0] (by omega) (by omega) ?_
        simp only [foundTo_yes hme, pairTo_me _ _ _ _ _ hme, push_cast, ↓reduceIte, reduceCtorEq, Nat.reduceEqDiff, Nat.reduceLT]
      simp only [hlt, i0, c0, c1, o0, o1, hA, hme, pAdd_zero, pAdd_add, pAdd_isSome, undef, push_cast, ↓Int.toNat_natCast, ↓reduceIte, reduceCtorEq, Nat.reduceEqDiff, Nat.reduceLT, Nat.reduceAdd]
      (repeat (refine And.intro (by first | omega | decide) ?_))
      refine callG_v rfl cb55 rfl (sharedK _ _) (dOk_lt rfl) ?_
      simp only [pairLit, push_cast, ↓reduceIte, reduceCtorEq, Nat.reduceEqDiff, Nat.reduceLT, Nat.reduceAdd]
      (repeat (refine And.intro (by first | omega | decide) ?_))
      refine callG_x rfl cb25 rfl (words7OK _ pairS d hk (by simp only [push_cast, Nat.reduceAdd])) (dOk_lt rfl) (by simp only [push_cast, Nat.reduceLT, Nat.reduceAdd]) ?_
      have hw := pair_wOut (ix l i).2 key d hd
      have hwe := wErr_yes (pair_wOk d hd)
      have hop := row_ok (me := me) (key := key) (l := l) (i := i) hd (ix l i).2
      by_cases hlo : me < (ix l i).1
      · simp only [hlo, hw, hwe, undef, push_cast, ↓reduceIte, reduceCtorEq, Nat.reduceEqDiff, Nat.reduceLT, Nat.reduceAdd]
        (repeat (refine And.intro (by first | omega | decide) ?_))
        refine callG_x rfl cb31 rfl (vecAddOK (shows_own rfl fun _ => rfl) (shows_own rfl fun _ => rfl) (by simp only [push_cast, Nat.reduceAdd])) (dOk_lt rfl) (by simp only [push_cast, Nat.reduceLT, Nat.reduceAdd]) ?_
        simp only [opErr_yes hop, row_lo hd hme hlo, push_cast, ↓reduceIte, reduceCtorEq, Nat.reduceEqDiff, Nat.reduceLT, Nat.reduceAdd, Int.reduceNeg]
        (repeat (refine And.intro (by first | omega | decide) ?_))
        refine loopK_normal (i + 1) [3] (by omega) (by omega) ?_
        simp only [foundTo_no hme, push_cast, ↓reduceIte, reduceCtorEq, Nat.reduceEqDiff, Nat.reduceLT]
      · simp only [hlo, hw, hwe, undef, push_cast, ↓reduceIte, reduceCtorEq, Nat.reduceEqDiff, Nat.reduceLT, Nat.reduceAdd]
        (repeat (refine And.intro (by first | omega | decide) ?_))
        refine callG_x rfl cb18 rfl (vecSubOK (shows_own rfl fun _ => rfl) (shows_own rfl fun _ => rfl) (by simp only [push_cast, Nat.reduceAdd])) (dOk_lt rfl) (by simp only [push_cast, Nat.reduceLT, Nat.reduceAdd]) ?_
        simp only [opErr_yes hop, row_hi hd hme hlo, push_cast, ↓reduceIte, reduceCtorEq, Nat.reduceEqDiff, Nat.reduceLT, Nat.reduceAdd, Int.reduceNeg]
        (repeat (refine And.intro (by first | omega | decide) ?_))
        refine loopK_normal (i + 1) [3] (by omega) (by omega) ?_
        simp only [foundTo_no hme, push_cast, ↓reduceIte, reduceCtorEq, Nat.reduceEqDiff, Nat.reduceLT]
    · have hil : i = l.length := by omega
      subst hil
      cases hf : foundTo me l l.length
      · rw [hf] at hfo
        rw [prOut_no hfo, prErr_no hfo]
        simp only [hlt, ownT2, ownT, push_cast, ↓reduceIte, reduceCtorEq, Nat.reduceEqDiff, Nat.reduceLT]
      · rw [hf] at hfo
        rw [prOut_yes hfo, prErr_yes hfo]
        simp only [hlt, ownT2, ownT, push_cast, ↓Int.toNat_natCast, ↓reduceIte, reduceCtorEq, Nat.reduceEqDiff, Nat.reduceLT]
section
variable {w0 : World} {hp : List Res} {sv : Sv} {l : List Pr}
theorem pairRowOK (me : Int) (key : UInt64) (dim : Int) (h : ShowsR w0 No hp sv l.length (pvs l)) (hk : LaidK 1 w0) (hbr : ∀ r ∈ hp, Res.bnd hp.length r) : CallOK Tryz.prog w0 No 33 [.x (.a (.v (.int .i64 me))), .x (.a (.v (vU64 key))), sv, .x (.a (.v (.int .i64 dim)))] hp
    (.t [.a (.o hp.length), .a (.v (prErr me l dim))]) (hp ++ [.own 23 (.u32 (prOut me key l dim))]) := callOK_own2 hbr trivial fun γ w hS => by
  obtain ⟨A, c, e1, b1, r1⟩ := h γ w hS
  show Calls _ _ #[.int .i64 me, vU64 key, sv.val γ, .int .i64 dim] w _
  rw [e1]
  exact pairRow_any me key l A c dim w b1 r1 (laid_later hk hS)
end
end Go.Proofs.YtombphphaoeeiaaGreatDoor
/- Peers told as the program's (givePeers), and the sum of rows (vec.Sum). -/
namespace Go.Proofs.YtombphphaoeeiaaGreatDoor
open Go.RowKit
set_option linter.unusedSimpArgs false
def pcs (l : List Pr) : List At := l.flatMap fun p => [.v (.int .i64 p.1), .v (vU64 p.2)]
theorem pcs_nil : pcs [] = [] := rfl
theorem pcs_cons (p : Pr) (l : List Pr) : pcs (p :: l) = .v (.int .i64 p.1) :: .v (vU64 p.2) :: pcs l := rfl
theorem pcs_app (l m : List Pr) : pcs (l ++ m) = pcs l ++ pcs m := by unfold pcs; rw [List.flatMap_append]
theorem pcs_len (l : List Pr) : (pcs l).length = l.length * 2 := by
  induction l with
  | nil => rfl
  | cons p l ih => rw [pcs_cons]; simp only [List.length_cons, ih]; omega
theorem pcs_val (γ : List Nm) (l : List Pr) : (pcs l).map (At.val γ) = pvs l := by
  induction l with
  | nil => rfl
  | cons p l ih => rw [pcs_cons, List.map_cons, List.map_cons, ih]; rfl
theorem pcs_ren (ρ : List Nat) (l : List Pr) : (pcs l).map (At.ren ρ) = pcs l := by
  induction l with
  | nil => rfl
  | cons p l ih => rw [pcs_cons, List.map_cons, List.map_cons, ih]; rfl
theorem pcs_forall {Q : At → Prop} (l : List Pr) : (∀ x ∈ pcs l, Q x) = ∀ p ∈ l, Q (.v (.int .i64 p.1)) ∧ Q (.v (vU64 p.2)) := by
  apply propext
  induction l with
  | nil => simp [pcs_nil]
  | cons p l ih =>
    rw [pcs_cons, List.forall_mem_cons, List.forall_mem_cons, List.forall_mem_cons, ih, and_assoc]
theorem pcs_take (l : List Pr) (i : Nat) (h : i < l.length) : pcs (l.take i) ++ [.v (.int .i64 (ix l i).1), .v (vU64 (ix l i).2)] = pcs (l.take (i + 1)) := by
  have e : ix l i = l[i] := by simp [ix, List.getD_eq_getElem?_getD, List.getElem?_eq_getElem h]
  rw [List.take_add_one, List.getElem?_eq_getElem h, Option.toList_some, pcs_app, e]
  rfl
attribute [push_cast] pcs_ren pcs_len pcs_forall
attribute [irreducible] pcs
theorem showsR_pcs {w0 : World} {ow : Nat → Prop} {hp : List Res} {k : Nat} {e : TypeId} {l : List Pr} (hr : hp[k]? = some (.onn e 2 (.c (pcs l)))) : ShowsR w0 ow hp (.x (.a (.o k))) l.length (pvs l) :=
  showsR_onn hr (fun γ => pcs_val γ l) (pvs_len l)
end Go.Proofs.YtombphphaoeeiaaGreatDoor
