/- Peers as rows of two cells: may they be, by the program and by the document. -/
import Derived.Test.YtkchdhkpjnnliaaDoorVec
import Derived.Test.YtkchdhkpjnnliaaDoorFp3
namespace Go.Proofs.YtkchdhkpjnnliaaDoor
open Go.RowKit
set_option linter.unusedSimpArgs false
/-! ### Rows of elements of m cells each -/
theorem flat_get {α : Type} [Inhabited α] {enc : α → List Value} {m : Nat} (hm : ∀ x, (enc x).length = m) (l : List α) (i j : Nat) (hi : i < l.length) (hj : j < m) : (l.flatMap enc)[i * m + j]? = (enc (ix l i))[j]? := by
  induction l generalizing i with
  | nil => simp at hi
  | cons x l ih =>
    cases i with
    | zero =>
      rw [List.flatMap_cons, Nat.zero_mul, Nat.zero_add, List.getElem?_append_left (by rw [hm]; exact hj)]
      rfl
    | succ i =>
      have e : (i + 1) * m + j = m + (i * m + j) := by rw [Nat.add_mul]; omega
      rw [List.flatMap_cons, e, List.getElem?_append_right (by rw [hm]; omega), hm, Nat.add_sub_cancel_left, ih i (by simpa using hi)]
      rfl
theorem flat_len {α : Type} {enc : α → List Value} {m : Nat} (hm : ∀ x, (enc x).length = m) (l : List α) : (l.flatMap enc).length = l.length * m := by
  induction l with
  | nil => simp
  | cons x l ih => rw [List.flatMap_cons, List.length_append, hm, ih, List.length_cons, Nat.add_mul]; omega
theorem pAdd_zero (A : Option Addr) : pAdd A 0 = A := by
  cases A with
  | none => rfl
  | some a => simp [pAdd, Addr.add]
theorem pAdd_add (A : Option Addr) (i j : Nat) : pAdd (pAdd A i) j = pAdd A (i + j) := by
  cases A with
  | none => rfl
  | some a =>
    simp only [pAdd, Option.map_some, Option.some.injEq, Addr.add]
    by_cases hi : i = 0 <;> by_cases hj : j = 0 <;> simp [hi, hj, Nat.add_assoc]
theorem pAdd_isSome (A : Option Addr) (i : Nat) : (pAdd A i).isSome = A.isSome := by cases A <;> rfl
/-- In every world that fits, sv is a slice of n elements that shows these cells. -/
def ShowsR (w0 : World) (ow : Nat → Prop) (hp : List Res) (sv : Sv) (n : Nat) (vs : List Value) : Prop :=
  ∀ γ w, Sat w0 ow γ hp w → ∃ A c, sv.val γ = .slice A n c ∧ n ≤ c ∧ RdV w w.heap.size A vs
theorem showsR_onn {w0 : World} {ow : Nat → Prop} {hp : List Res} {k m n : Nat} {e : TypeId} {c : Cont} {vs : List Value} (hr : hp[k]? = some (.onn e m c)) (hv : ∀ γ, c.vals γ = vs) (hn : vs.length = n * m) : ShowsR w0 ow hp (.x (.a (.o k))) n vs := fun γ w hS => by
  have h := (hS.holds k _ hr).2
  have hm := h.1
  obtain ⟨A, n', cp, h1, h2, h3, h4, h5, h6⟩ := OwnN.rd h
  rw [hv γ] at h2 h5
  have : n' = n := Nat.eq_of_mul_eq_mul_right hm (by rw [← h2, hn])
  subst this
  exact ⟨A, cp, h1, h3, h5⟩
theorem rdv_drop {w : World} {B : Nat} {A : Option Addr} {xs : List Value} (h : RdV w B A xs) (n : Nat) : RdV w B (pAdd A n) (xs.drop n) := fun hp => by
  rw [List.length_drop] at hp
  obtain ⟨b, off, rfl, h2, h3⟩ := h (by omega)
  refine ⟨b, off + n, by simp [pAdd, add_plain], h2, fun j u hu => ?_⟩
  rw [List.getElem?_drop] at hu
  rw [Nat.add_assoc]
  exact h3 _ _ hu
theorem showsR_y {w0 : World} {ow : Nat → Prop} {hp : List Res} {k m : Nat} {e : TypeId} {c : Cont} {vs : List Value} (l n : Nat) (hr : hp[k]? = some (.onn e m c)) (hv : ∀ γ, c.vals γ = vs) (hn : (l + n) * m ≤ vs.length) : ShowsR w0 ow hp (.x (.a (.y k m l n))) n ((vs.drop (l * m)).take (n * m)) := fun γ w hS => by
  have h := (hS.holds k _ hr).2
  have hm := h.1
  obtain ⟨A, n', cp, h1, h2, h3, h4, h5, h6⟩ := OwnN.rd h
  rw [hv γ] at h2 h5
  have hle : l + n ≤ n' := by
    rw [h2] at hn
    exact Nat.le_of_mul_le_mul_right hn hm
  refine ⟨if cp = l then A else pAdd A (l * m), cp - l, by simp [Sv.val, Sc.val, At.val, h1], by omega, ?_⟩
  split
  · rename_i hcl
    have hn0 : n = 0 := by omega
    rw [hn0, Nat.zero_mul, List.take_zero]
    exact RdV.nil_
  · exact rdv_take (rdv_drop h5 _) _
theorem showsR_raw {w0 : World} {hp : List Res} {A : Option Addr} {n c : Nat} {vs : List Value} (hR : RdV w0 w0.heap.size A vs) (hc : n ≤ c) : ShowsR w0 No hp (.x (.a (.v (.slice A n c)))) n vs := fun γ w hS =>
  ⟨A, c, rfl, hc, (hR.below (keeps_below hS.keeps)).more (keeps_below hS.keeps).size⟩
/-! ### Peers -/
abbrev Pr := Int × UInt64
def pv (p : Pr) : List Value := [.int .i64 p.1, vU64 p.2]
theorem pv_len (p : Pr) : (pv p).length = 2 := rfl
def pvs (l : List Pr) : List Value := l.flatMap pv
theorem pvs_len (l : List Pr) : (pvs l).length = l.length * 2 := flat_len pv_len l
structure FP (w0 : World) (A : Option Addr) (l : List Pr) : Prop where
  some_ : 0 < l.length → A.isSome = true
  c0 : ∀ i, i < l.length → cellOf w0 (pAdd A (i * 2)) = .int .i64 (ix l i).1
  c1 : ∀ i, i < l.length → cellOf w0 (pAdd A (i * 2 + 1)) = vU64 (ix l i).2
  ok0 : ∀ i, i < l.length → rawOk w0 No (pAdd A (i * 2))
  ok1 : ∀ i, i < l.length → rawOk w0 No (pAdd A (i * 2 + 1))
theorem FP.of {w0 : World} {A : Option Addr} {l : List Pr} (hR : RdV w0 w0.heap.size A (pvs l)) : FP w0 A l := by
  have h := FV.no hR
  have g0 : ∀ i, i < l.length → (pvs l)[i * 2]? = some (.int .i64 (ix l i).1) := fun i hi => flat_get pv_len l i 0 hi (by omega)
  have g1 : ∀ i, i < l.length → (pvs l)[i * 2 + 1]? = some (vU64 (ix l i).2) := fun i hi => flat_get pv_len l i 1 hi (by omega)
  exact ⟨fun hp => h.some_ (by rw [pvs_len]; omega), fun i hi => (h.cell (g0 i hi)).1, fun i hi => (h.cell (g1 i hi)).1, fun i hi => (h.cell (g0 i hi)).2, fun i hi => (h.cell (g1 i hi)).2⟩
def lastP (l : List Pr) : Nat → Int
  | 0 => -1
  | i + 1 => (ix l i).1
theorem lastP_zero (l : List Pr) : lastP l 0 = -1 := rfl
theorem lastP_succ (l : List Pr) (i : Nat) : lastP l (i + 1) = (ix l i).1 := rfl
def pgood (l : List Pr) (i : Nat) : Prop := lastP l i < (ix l i).1 ∧ (ix l i).1 < 64 ∧ (ix l i).2 ≠ 0 ∧ (ix l i).2 < fpP
instance (l : List Pr) (i : Nat) : Decidable (pgood l i) := by unfold pgood; exact inferInstance
def may (l : List Pr) : Bool := (List.range l.length).all fun i => decide (pgood l i)
theorem may_iff {l : List Pr} : may l = true ↔ ∀ i, i < l.length → pgood l i := by
  unfold may
  simp [List.all_eq_true]
theorem may_no {l : List Pr} {i : Nat} (hi : i < l.length) (h : ¬ pgood l i) : may l = false := by
  cases hm : may l
  · rfl
  · exact absurd (may_iff.1 hm i hi) h
theorem lastP_ge {l : List Pr} (i : Nat) (h : ∀ j, j < i → pgood l j) : (i : Int) - 1 ≤ lastP l i := by
  induction i with
  | zero => simp [lastP]
  | succ i ih =>
    have h1 := ih fun j hj => h j (by omega)
    have h2 := (h i (by omega)).1
    simp only [lastP]
    omega
theorem may_len {l : List Pr} (h : may l = true) : l.length ≤ 64 := by
  cases hl : l.length with
  | zero => omega
  | succ n =>
    have h0 := may_iff.1 h
    have h1 := lastP_ge (l := l) (n + 1) fun j hj => h0 j (by omega)
    have h2 := (h0 n (by omega)).2.1
    simp only [lastP] at h1
    omega
def mayErr (l : List Pr) : Value := if may l = true then .nilIface else .iface 95 (.int .i64 1)
theorem mayErr_no {l : List Pr} (h : may l = false) : mayErr l = .iface 95 (.int .i64 1) := by unfold mayErr; rw [h]; rfl
theorem mayErr_yes {l : List Pr} (h : may l = true) : mayErr l = .nilIface := by unfold mayErr; rw [h]; rfl
theorem u64_le_not {a b : UInt64} : ¬ a ≤ b ↔ b < a := by rw [UInt64.le_iff_toNat_le, UInt64.lt_iff_toNat_lt]; omega
theorem fpP_lit : (2305843009213693951 : UInt64) = fpP := rfl
set_option maxRecDepth 100000 in
theorem check09_any (l : List Pr) (A : Option Addr) (c : Nat) (w : World) (hR : RdV w w.heap.size A (pvs l)) : Calls Tryd.prog 49 #[.slice A l.length c] w fun e w' => e = .returned (mayErr l) ∧ Below w.heap.size w w' := by
  have F := FP.of hR
  refine calls_v (n := 39) Tryd.func49 rfl Tryd.ntmps49 [.x (.a (.v (.slice A l.length c)))] (by simp) (.x (.a (.v (mayErr l)))) (fun _ => rfl) ?_
  by_cases h64 : (64 : Int) < l.length
  · have hm : may l = false := by
      cases hm : may l
      · rfl
      · have := may_len hm; omega
    simp only [h64, mayErr_no hm, undef, push_cast, ↓Int.toNat_natCast, ↓Int.cast_ofNat_Int, Int.cast_ofNat_Int, ↓reduceIte, reduceCtorEq, Nat.reduceEqDiff, Nat.reduceLT, Nat.reduceLeDiff, Nat.reduceAdd, Nat.reduceSub, Nat.reduceMul, Int.reduceNeg, Int.reduceLE, Int.reduceLT, Int.reduceToNat, Int.reduceAdd, Int.reduceSub, Int.reduceMul, Int.reduceEq]
  simp only [h64, undef, push_cast, ↓Int.toNat_natCast, ↓Int.cast_ofNat_Int, Int.cast_ofNat_Int, ↓reduceIte, reduceCtorEq, Nat.reduceEqDiff, Nat.reduceLT, Nat.reduceLeDiff, Nat.reduceAdd, Nat.reduceSub, Nat.reduceMul, Int.reduceNeg, Int.reduceLE, Int.reduceLT, Int.reduceToNat, Int.reduceAdd, Int.reduceSub, Int.reduceMul, Int.reduceEq]
  refine loop_rule (ι := Nat) (fun i => ⟨[(3, .x (.a (.v (.int .i64 (lastP l i))))), (10, .x (.a (.v (.slice A l.length c)))), (11, .x (.a (.v (.int .i64 l.length)))), (12, .x (.a (.v (.int .i64 i))))], []⟩) (fun i => i ≤ l.length ∧ ∀ j, j < i → pgood l j) (fun i => l.length - i) 0 [] ⟨by omega, fun j h => by omega⟩ ?_ ?_
  · simp only [lastP_zero, push_cast, ↓Int.toNat_natCast, ↓Int.cast_ofNat_Int, Int.cast_ofNat_Int, ↓reduceIte, reduceCtorEq, Nat.reduceEqDiff, Nat.reduceLT, Nat.reduceLeDiff, Nat.reduceAdd, Nat.reduceSub, Nat.reduceMul, Int.reduceNeg, Int.reduceLE, Int.reduceLT, Int.reduceToNat, Int.reduceAdd, Int.reduceSub, Int.reduceMul, Int.reduceEq]
  · rintro i ⟨hi, hj⟩
    by_cases hlt : (i : Int) < l.length
    · have i0 : (0 : Int) ≤ i := by omega
      have c0 := F.c0 i (by omega)
      have c1 := F.c1 i (by omega)
      have o0 := F.ok0 i (by omega)
      have o1 := F.ok1 i (by omega)
      have hA := F.some_ (by omega)
      by_cases h1 : (ix l i).1 ≤ lastP l i
      · have hm := may_no (l := l) (i := i) (by omega) (fun h => by have := h.1; omega)
        simp only [hlt, i0, c0, c1, o0, o1, hA, h1, mayErr_no hm, pAdd_zero, pAdd_add, pAdd_isSome, undef, push_cast, ↓Int.toNat_natCast, ↓Int.cast_ofNat_Int, Int.cast_ofNat_Int, ↓reduceIte, reduceCtorEq, Nat.reduceEqDiff, Nat.reduceLT, Nat.reduceLeDiff, Nat.reduceAdd, Nat.reduceSub, Nat.reduceMul, Int.reduceNeg, Int.reduceLE, Int.reduceLT, Int.reduceToNat, Int.reduceAdd, Int.reduceSub, Int.reduceMul, Int.reduceEq]
      by_cases h2 : (64 : Int) ≤ (ix l i).1
      · have hm := may_no (l := l) (i := i) (by omega) (fun h => by have := h.2.1; omega)
        simp only [hlt, i0, c0, c1, o0, o1, hA, h1, h2, mayErr_no hm, pAdd_zero, pAdd_add, pAdd_isSome, undef, push_cast, ↓Int.toNat_natCast, ↓Int.cast_ofNat_Int, Int.cast_ofNat_Int, ↓reduceIte, reduceCtorEq, Nat.reduceEqDiff, Nat.reduceLT, Nat.reduceLeDiff, Nat.reduceAdd, Nat.reduceSub, Nat.reduceMul, Int.reduceNeg, Int.reduceLE, Int.reduceLT, Int.reduceToNat, Int.reduceAdd, Int.reduceSub, Int.reduceMul, Int.reduceEq]
      by_cases h3 : (ix l i).2 = 0
      · have hm := may_no (l := l) (i := i) (by omega) (fun h => h.2.2.1 h3)
        simp only [hlt, i0, c0, c1, o0, o1, hA, h1, h2, h3, mayErr_no hm, pAdd_zero, pAdd_add, pAdd_isSome, undef, push_cast, ↓Int.toNat_natCast, ↓Int.cast_ofNat_Int, Int.cast_ofNat_Int, ↓reduceIte, reduceCtorEq, Nat.reduceEqDiff, Nat.reduceLT, Nat.reduceLeDiff, Nat.reduceAdd, Nat.reduceSub, Nat.reduceMul, Int.reduceNeg, Int.reduceLE, Int.reduceLT, Int.reduceToNat, Int.reduceAdd, Int.reduceSub, Int.reduceMul, Int.reduceEq]
      by_cases h4 : (2305843009213693951 : UInt64) ≤ (ix l i).2
      · have hm := may_no (l := l) (i := i) (by omega) (fun h => u64_le_not.2 h.2.2.2 h4)
        simp only [hlt, i0, c0, c1, o0, o1, hA, h1, h2, h3, h4, mayErr_no hm, pAdd_zero, pAdd_add, pAdd_isSome, undef, push_cast, ↓Int.toNat_natCast, ↓Int.cast_ofNat_Int, Int.cast_ofNat_Int, ↓reduceIte, reduceCtorEq, Nat.reduceEqDiff, Nat.reduceLT, Nat.reduceLeDiff, Nat.reduceAdd, Nat.reduceSub, Nat.reduceMul, Int.reduceNeg, Int.reduceLE, Int.reduceLT, Int.reduceToNat, Int.reduceAdd, Int.reduceSub, Int.reduceMul, Int.reduceEq]
      have hg : pgood l i := ⟨by omega, by omega, h3, u64_le_not.1 h4⟩
      simp only [hlt, i0, c0, c1, o0, o1, hA, h1, h2, h3, h4, pAdd_zero, pAdd_add, pAdd_isSome, undef, push_cast, ↓Int.toNat_natCast, ↓Int.cast_ofNat_Int, Int.cast_ofNat_Int, ↓reduceIte, reduceCtorEq, Nat.reduceEqDiff, Nat.reduceLT, Nat.reduceLeDiff, Nat.reduceAdd, Nat.reduceSub, Nat.reduceMul, Int.reduceNeg, Int.reduceLE, Int.reduceLT, Int.reduceToNat, Int.reduceAdd, Int.reduceSub, Int.reduceMul, Int.reduceEq]
      (repeat (refine And.intro (by first | omega | decide) ?_))
      refine loopK_normal (i + 1) [] ⟨by omega, fun j hjl => ?_⟩ (by omega) ?_
      · by_cases e : j = i
        · rw [e]; exact hg
        · exact hj j (by omega)
      · simp only [lastP_succ, push_cast, ↓Int.toNat_natCast, ↓Int.cast_ofNat_Int, Int.cast_ofNat_Int, ↓reduceIte, reduceCtorEq, Nat.reduceEqDiff, Nat.reduceLT, Nat.reduceLeDiff, Nat.reduceAdd, Nat.reduceSub, Nat.reduceMul, Int.reduceNeg, Int.reduceLE, Int.reduceLT, Int.reduceToNat, Int.reduceAdd, Int.reduceSub, Int.reduceMul, Int.reduceEq]
    · have hm : may l = true := may_iff.2 fun j h => hj j (by omega)
      simp only [hlt, mayErr_yes hm, undef, push_cast, ↓Int.toNat_natCast, ↓Int.cast_ofNat_Int, Int.cast_ofNat_Int, ↓reduceIte, reduceCtorEq, Nat.reduceEqDiff, Nat.reduceLT, Nat.reduceLeDiff, Nat.reduceAdd, Nat.reduceSub, Nat.reduceMul, Int.reduceNeg, Int.reduceLE, Int.reduceLT, Int.reduceToNat, Int.reduceAdd, Int.reduceSub, Int.reduceMul, Int.reduceEq]
set_option maxHeartbeats 8000000 in
set_option maxRecDepth 100000 in
theorem may09_any (l : List Pr) (A : Option Addr) (c : Nat) (w : World) (hl : l.length ≤ 1000000) (hR : RdV w w.heap.size A (pvs l)) : Calls Tryd.prog 53 #[.slice A l.length c] w fun e w' => e = .returned (.bool (may l)) ∧ Below w.heap.size w w' := by
  have F := FP.of hR
  refine calls_v (n := 58) Tryd.func53 rfl Tryd.ntmps53 [.x (.a (.v (.slice A l.length c)))] (by simp) (.x (.a (.v (.bool (may l))))) (fun _ => rfl) ?_
  simp only [undef, push_cast, ↓Int.toNat_natCast, ↓Int.cast_ofNat_Int, Int.cast_ofNat_Int, ↓reduceIte, reduceCtorEq, Nat.reduceEqDiff, Nat.reduceLT, Nat.reduceLeDiff, Nat.reduceAdd, Nat.reduceSub, Nat.reduceMul, Int.reduceNeg, Int.reduceLE, Int.reduceLT, Int.reduceToNat, Int.reduceAdd, Int.reduceSub, Int.reduceMul, Int.reduceEq]
  refine loop_rule (ι := Nat) (fun i => ⟨[(0, .x (.a (.v (.slice A l.length c)))), (3, .x (.a (.v (.int .i64 i))))], []⟩) (fun i => i ≤ l.length ∧ ∀ j, j < i → pgood l j) (fun i => l.length - i) 0 [] ⟨by omega, fun j h => by omega⟩ ?_ ?_
  · simp only [push_cast, ↓Int.toNat_natCast, ↓Int.cast_ofNat_Int, Int.cast_ofNat_Int, ↓reduceIte, reduceCtorEq, Nat.reduceEqDiff, Nat.reduceLT, Nat.reduceLeDiff, Nat.reduceAdd, Nat.reduceSub, Nat.reduceMul, Int.reduceNeg, Int.reduceLE, Int.reduceLT, Int.reduceToNat, Int.reduceAdd, Int.reduceSub, Int.reduceMul, Int.reduceEq]
  · rintro i ⟨hi, hj⟩
    have hge := lastP_ge i hj
    by_cases hlt : (i : Int) < l.length
    · have i0 : (0 : Int) ≤ i := by omega
      have c0 := F.c0 i (by omega)
      have c1 := F.c1 i (by omega)
      have o0 := F.ok0 i (by omega)
      have o1 := F.ok1 i (by omega)
      have hA := F.some_ (by omega)
      simp only [hlt, undef, push_cast, ↓Int.toNat_natCast, ↓Int.cast_ofNat_Int, Int.cast_ofNat_Int, ↓reduceIte, reduceCtorEq, Nat.reduceEqDiff, Nat.reduceLT, Nat.reduceLeDiff, Nat.reduceAdd, Nat.reduceSub, Nat.reduceMul, Int.reduceNeg, Int.reduceLE, Int.reduceLT, Int.reduceToNat, Int.reduceAdd, Int.reduceSub, Int.reduceMul, Int.reduceEq]
      refine draw_rule [(0, true), (1, true), (2, true), (3, true), (4, true), (5, true), (6, true), (7, true), (8, true), (9, true), (10, true), (11, true), (12, true), (13, true), (14, true), (15, true), (16, true), (17, true), (18, true), (19, true), (20, true), (21, true), (22, true), (23, true), (24, true), (25, true), (26, true), (27, true), (28, true), (29, true), (30, true), (31, true), (32, true), (33, true), (34, true), (35, true), (36, true), (37, true), (38, true), (39, true), (40, true), (41, true), (42, true), (43, true), (44, true), (45, true), (46, true), (47, true)] (by kernel_rfl) (by kernel_rfl) rfl (by kernel_rfl) ?_
      by_cases h1 : (ix l i).1 < 0
      · have hm := may_no (l := l) (i := i) (by omega) (fun h => by have := h.1; omega)
        simp (config := { maxSteps := 2000000 }) only [hlt, i0, c0, c1, o0, o1, hA, h1, hm, pAdd_zero, pAdd_add, pAdd_isSome, undef, push_cast, ↓Int.toNat_natCast, ↓Int.cast_ofNat_Int, Int.cast_ofNat_Int, ↓reduceIte, reduceCtorEq, Nat.reduceEqDiff, Nat.reduceLT, Nat.reduceLeDiff, Nat.reduceAdd, Nat.reduceSub, Nat.reduceMul, Int.reduceNeg, Int.reduceLE, Int.reduceLT, Int.reduceToNat, Int.reduceAdd, Int.reduceSub, Int.reduceMul, Int.reduceEq]
      by_cases h2 : (63 : Int) < (ix l i).1
      · have hm := may_no (l := l) (i := i) (by omega) (fun h => by have := h.2.1; omega)
        simp (config := { maxSteps := 2000000 }) only [hlt, i0, c0, c1, o0, o1, hA, h1, h2, hm, pAdd_zero, pAdd_add, pAdd_isSome, undef, push_cast, ↓Int.toNat_natCast, ↓Int.cast_ofNat_Int, Int.cast_ofNat_Int, ↓reduceIte, reduceCtorEq, Nat.reduceEqDiff, Nat.reduceLT, Nat.reduceLeDiff, Nat.reduceAdd, Nat.reduceSub, Nat.reduceMul, Int.reduceNeg, Int.reduceLE, Int.reduceLT, Int.reduceToNat, Int.reduceAdd, Int.reduceSub, Int.reduceMul, Int.reduceEq]
      by_cases h0 : (0 : Int) < i
      · have e0 := F.c0 (i - 1) (by omega)
        have p0 := F.ok0 (i - 1) (by omega)
        have hk : ((i : Int) - 1).toNat = i - 1 := by omega
        have hk2 : (0 : Int) ≤ (i : Int) - 1 := by omega
        have hk3 : (i : Int) - 1 < l.length := by omega
        have hla : lastP l i = (ix l (i - 1)).1 := by
          obtain ⟨k, rfl⟩ : ∃ k, i = k + 1 := ⟨i - 1, by omega⟩
          rfl
        by_cases h5 : (ix l i).1 ≤ (ix l (i - 1)).1
        · have hm := may_no (l := l) (i := i) (by omega) (fun h => by have := h.1; omega)
          simp (config := { maxSteps := 2000000 }) only [hlt, i0, c0, c1, o0, o1, e0, p0, hk, hk2, hk3, hA, h1, h2, h0, h5, hm, pAdd_zero, pAdd_add, pAdd_isSome, undef, push_cast, ↓Int.toNat_natCast, ↓Int.cast_ofNat_Int, Int.cast_ofNat_Int, ↓reduceIte, reduceCtorEq, Nat.reduceEqDiff, Nat.reduceLT, Nat.reduceLeDiff, Nat.reduceAdd, Nat.reduceSub, Nat.reduceMul, Int.reduceNeg, Int.reduceLE, Int.reduceLT, Int.reduceToNat, Int.reduceAdd, Int.reduceSub, Int.reduceMul, Int.reduceEq]
          all_goals omega
        by_cases h3 : (ix l i).2 = 0
        · have hm := may_no (l := l) (i := i) (by omega) (fun h => h.2.2.1 h3)
          simp (config := { maxSteps := 2000000 }) only [hlt, i0, c0, c1, o0, o1, e0, p0, hk, hk2, hk3, hA, h1, h2, h0, h5, h3, hm, pAdd_zero, pAdd_add, pAdd_isSome, undef, push_cast, ↓Int.toNat_natCast, ↓Int.cast_ofNat_Int, Int.cast_ofNat_Int, ↓reduceIte, reduceCtorEq, Nat.reduceEqDiff, Nat.reduceLT, Nat.reduceLeDiff, Nat.reduceAdd, Nat.reduceSub, Nat.reduceMul, Int.reduceNeg, Int.reduceLE, Int.reduceLT, Int.reduceToNat, Int.reduceAdd, Int.reduceSub, Int.reduceMul, Int.reduceEq]
          all_goals omega
        by_cases h4 : (2305843009213693951 : UInt64) ≤ (ix l i).2
        · have hm := may_no (l := l) (i := i) (by omega) (fun h => u64_le_not.2 h.2.2.2 h4)
          simp (config := { maxSteps := 2000000 }) only [hlt, i0, c0, c1, o0, o1, e0, p0, hk, hk2, hk3, hA, h1, h2, h0, h5, h3, h4, hm, pAdd_zero, pAdd_add, pAdd_isSome, undef, push_cast, ↓Int.toNat_natCast, ↓Int.cast_ofNat_Int, Int.cast_ofNat_Int, ↓reduceIte, reduceCtorEq, Nat.reduceEqDiff, Nat.reduceLT, Nat.reduceLeDiff, Nat.reduceAdd, Nat.reduceSub, Nat.reduceMul, Int.reduceNeg, Int.reduceLE, Int.reduceLT, Int.reduceToNat, Int.reduceAdd, Int.reduceSub, Int.reduceMul, Int.reduceEq]
          all_goals omega
        have hg : pgood l i := ⟨by omega, by omega, h3, u64_le_not.1 h4⟩
        simp (config := { maxSteps := 2000000 }) only [hlt, i0, c0, c1, o0, o1, e0, p0, hk, hk2, hk3, hA, h1, h2, h0, h5, h3, h4, pAdd_zero, pAdd_add, pAdd_isSome, undef, push_cast, ↓Int.toNat_natCast, ↓Int.cast_ofNat_Int, Int.cast_ofNat_Int, ↓reduceIte, reduceCtorEq, Nat.reduceEqDiff, Nat.reduceLT, Nat.reduceLeDiff, Nat.reduceAdd, Nat.reduceSub, Nat.reduceMul, Int.reduceNeg, Int.reduceLE, Int.reduceLT, Int.reduceToNat, Int.reduceAdd, Int.reduceSub, Int.reduceMul, Int.reduceEq]
        (repeat (refine And.intro (by first | omega | decide) ?_))
        refine loopK_normal (i + 1) [] ⟨by omega, fun j hjl => ?_⟩ (by omega) ?_
        · by_cases e : j = i
          · rw [e]; exact hg
          · exact hj j (by omega)
        · simp only [push_cast, ↓Int.toNat_natCast, ↓Int.cast_ofNat_Int, Int.cast_ofNat_Int, ↓reduceIte, reduceCtorEq, Nat.reduceEqDiff, Nat.reduceLT, Nat.reduceLeDiff, Nat.reduceAdd, Nat.reduceSub, Nat.reduceMul, Int.reduceNeg, Int.reduceLE, Int.reduceLT, Int.reduceToNat, Int.reduceAdd, Int.reduceSub, Int.reduceMul, Int.reduceEq]
      · have hi0 : i = 0 := by omega
        have hla : lastP l i = -1 := by rw [hi0]; rfl
        by_cases h3 : (ix l i).2 = 0
        · have hm := may_no (l := l) (i := i) (by omega) (fun h => h.2.2.1 h3)
          simp (config := { maxSteps := 2000000 }) only [hlt, i0, c0, c1, o0, o1, hA, h1, h2, h0, h3, hm, pAdd_zero, pAdd_add, pAdd_isSome, undef, push_cast, ↓Int.toNat_natCast, ↓Int.cast_ofNat_Int, Int.cast_ofNat_Int, ↓reduceIte, reduceCtorEq, Nat.reduceEqDiff, Nat.reduceLT, Nat.reduceLeDiff, Nat.reduceAdd, Nat.reduceSub, Nat.reduceMul, Int.reduceNeg, Int.reduceLE, Int.reduceLT, Int.reduceToNat, Int.reduceAdd, Int.reduceSub, Int.reduceMul, Int.reduceEq]
        by_cases h4 : (2305843009213693951 : UInt64) ≤ (ix l i).2
        · have hm := may_no (l := l) (i := i) (by omega) (fun h => u64_le_not.2 h.2.2.2 h4)
          simp (config := { maxSteps := 2000000 }) only [hlt, i0, c0, c1, o0, o1, hA, h1, h2, h0, h3, h4, hm, pAdd_zero, pAdd_add, pAdd_isSome, undef, push_cast, ↓Int.toNat_natCast, ↓Int.cast_ofNat_Int, Int.cast_ofNat_Int, ↓reduceIte, reduceCtorEq, Nat.reduceEqDiff, Nat.reduceLT, Nat.reduceLeDiff, Nat.reduceAdd, Nat.reduceSub, Nat.reduceMul, Int.reduceNeg, Int.reduceLE, Int.reduceLT, Int.reduceToNat, Int.reduceAdd, Int.reduceSub, Int.reduceMul, Int.reduceEq]
        have hg : pgood l i := ⟨by omega, by omega, h3, u64_le_not.1 h4⟩
        simp (config := { maxSteps := 2000000 }) only [hlt, i0, c0, c1, o0, o1, hA, h1, h2, h0, h3, h4, pAdd_zero, pAdd_add, pAdd_isSome, undef, push_cast, ↓Int.toNat_natCast, ↓Int.cast_ofNat_Int, Int.cast_ofNat_Int, ↓reduceIte, reduceCtorEq, Nat.reduceEqDiff, Nat.reduceLT, Nat.reduceLeDiff, Nat.reduceAdd, Nat.reduceSub, Nat.reduceMul, Int.reduceNeg, Int.reduceLE, Int.reduceLT, Int.reduceToNat, Int.reduceAdd, Int.reduceSub, Int.reduceMul, Int.reduceEq]
        (repeat (refine And.intro (by first | omega | decide) ?_))
        refine loopK_normal (i + 1) [] ⟨by omega, fun j hjl => ?_⟩ (by omega) ?_
        · by_cases e : j = i
          · rw [e]; exact hg
          · exact hj j (by omega)
        · simp only [push_cast, ↓Int.toNat_natCast, ↓Int.cast_ofNat_Int, Int.cast_ofNat_Int, ↓reduceIte, reduceCtorEq, Nat.reduceEqDiff, Nat.reduceLT, Nat.reduceLeDiff, Nat.reduceAdd, Nat.reduceSub, Nat.reduceMul, Int.reduceNeg, Int.reduceLE, Int.reduceLT, Int.reduceToNat, Int.reduceAdd, Int.reduceSub, Int.reduceMul, Int.reduceEq]
    · have hm : may l = true := may_iff.2 fun j h => hj j (by omega)
      simp only [hlt, hm, undef, push_cast, ↓Int.toNat_natCast, ↓Int.cast_ofNat_Int, Int.cast_ofNat_Int, ↓reduceIte, reduceCtorEq, Nat.reduceEqDiff, Nat.reduceLT, Nat.reduceLeDiff, Nat.reduceAdd, Nat.reduceSub, Nat.reduceMul, Int.reduceNeg, Int.reduceLE, Int.reduceLT, Int.reduceToNat, Int.reduceAdd, Int.reduceSub, Int.reduceMul, Int.reduceEq]
section
variable {w0 : World} {hp : List Res} {sv : Sv} {l : List Pr}
theorem check09OK (h : ShowsR w0 No hp sv l.length (pvs l)) : CallOK Tryd.prog w0 No 49 [sv] hp (.x (.a (.v (mayErr l)))) hp := callOK_v fun γ w hS => by
  obtain ⟨A, c, e1, _, r1⟩ := h γ w hS
  show Calls _ _ #[sv.val γ] w _
  rw [e1]
  exact check09_any l A c w r1
theorem may09OK (hl : l.length ≤ 1000000) (h : ShowsR w0 No hp sv l.length (pvs l)) : CallOK Tryd.prog w0 No 53 [sv] hp (.x (.a (.v (.bool (may l))))) hp := callOK_v fun γ w hS => by
  obtain ⟨A, c, e1, _, r1⟩ := h γ w hS
  show Calls _ _ #[sv.val γ] w _
  rw [e1]
  exact may09_any l A c w hl r1
end
end Go.Proofs.YtkchdhkpjnnliaaDoor
