import Derived.Test.YtiaeollemmkclaaDoorShA
import Derived.Test.YtiaeollemmkclaaDoorOpn
import Derived.Test.YtiaeollemmkclaaDoorSetA
/- Peers as rows of two cells: may they be (layer 9), by the program and by the document; given as the program's (law 16). -/
namespace Go.Proofs.YtiaeollemmkclaaDoor
open Go.RowKit
set_option linter.unusedSimpArgs false
set_option linter.unusedVariables false
def fpP : UInt64 := 2305843009213693951
attribute [local irreducible] Callable CallOK CallG CallM DrawG LoopG symR symM
abbrev Pr := Int × UInt64
def pv (p : Pr) : List Value := [.int .i64 p.1, vU64 p.2]
theorem pv_len (p : Pr) : (pv p).length = 2 := rfl
def pvs (l : List Pr) : List Value := l.flatMap pv
theorem pvs_len (l : List Pr) : (pvs l).length = l.length * 2 := flat_len pv_len l
structure FP (w0 : World) (A : Option Addr) (l : List Pr) : Prop where
  some_ : 0 < l.length → A.isSome = true
  c0 : ∀ i, i < l.length → cellOf w0 (pAdd A (i * 2)) = .int .i64 (ix l i).1
  c1 : ∀ i, i < l.length → cellOf w0 (pAdd A (i * 2 + 1)) = vU64 (ix l i).2
  ok0 : ∀ i, i < l.length → rawOk w0 No (pAdd A (i * 2))
  ok1 : ∀ i, i < l.length → rawOk w0 No (pAdd A (i * 2 + 1))
theorem FP.of {w0 : World} {A : Option Addr} {l : List Pr} (hR : RdV w0 w0.heap.size A (pvs l)) : FP w0 A l := by
  have h := FV.no hR
  have g0 : ∀ i, i < l.length → (pvs l)[i * 2]? = some (.int .i64 (ix l i).1) := fun i hi => flat_get pv_len l i 0 hi (by omega)
  have g1 : ∀ i, i < l.length → (pvs l)[i * 2 + 1]? = some (vU64 (ix l i).2) := fun i hi => flat_get pv_len l i 1 hi (by omega)
  exact ⟨fun hp => h.some_ (by rw [pvs_len]; omega), fun i hi => (h.cell (g0 i hi)).1, fun i hi => (h.cell (g1 i hi)).1, fun i hi => (h.cell (g0 i hi)).2, fun i hi => (h.cell (g1 i hi)).2⟩
def lastP (l : List Pr) : Nat → Int
  | 0 => -1
  | i + 1 => (ix l i).1
theorem lastP_zero (l : List Pr) : lastP l 0 = -1 := rfl
theorem lastP_succ (l : List Pr) (i : Nat) : lastP l (i + 1) = (ix l i).1 := rfl
def pgood (l : List Pr) (i : Nat) : Prop := lastP l i < (ix l i).1 ∧ (ix l i).1 < 64 ∧ (ix l i).2 ≠ 0 ∧ (ix l i).2 < fpP
instance (l : List Pr) (i : Nat) : Decidable (pgood l i) := by unfold pgood; exact inferInstance
def may (l : List Pr) : Bool := (List.range l.length).all fun i => decide (pgood l i)
theorem may_iff {l : List Pr} : may l = true ↔ ∀ i, i < l.length → pgood l i := by
  unfold may
  simp [List.all_eq_true]
theorem may_no {l : List Pr} {i : Nat} (hi : i < l.length) (h : ¬ pgood l i) : may l = false := by
  cases hm : may l
  · rfl
  · exact absurd (may_iff.1 hm i hi) h
theorem lastP_ge {l : List Pr} (i : Nat) (h : ∀ j, j < i → pgood l j) : (i : Int) - 1 ≤ lastP l i := by
  induction i with
  | zero => simp [lastP]
  | succ i ih =>
    have h1 := ih fun j hj => h j (by omega)
    have h2 := (h i (by omega)).1
    simp only [lastP]
    omega
theorem may_len {l : List Pr} (h : may l = true) : l.length ≤ 64 := by
  cases hl : l.length with
  | zero => omega
  | succ n =>
    have h0 := may_iff.1 h
    have h1 := lastP_ge (l := l) (n + 1) fun j hj => h0 j (by omega)
    have h2 := (h0 n (by omega)).2.1
    simp only [lastP] at h1
    omega
def mayErr (l : List Pr) : Value := if may l = true then .nilIface else .iface 137 (.int .i64 1)
theorem mayErr_no {l : List Pr} (h : may l = false) : mayErr l = .iface 137 (.int .i64 1) := by unfold mayErr; rw [h]; rfl
theorem mayErr_yes {l : List Pr} (h : may l = true) : mayErr l = .nilIface := by unfold mayErr; rw [h]; rfl
theorem u64_le_not {a b : UInt64} : ¬ a ≤ b ↔ b < a := by rw [UInt64.le_iff_toNat_le, UInt64.lt_iff_toNat_lt]; omega
set_option maxRecDepth 100000 in
theorem check09_any (l : List Pr) (A : Option Addr) (c : Nat) (w : World) (hR : RdV w w.heap.size A (pvs l)) : Calls Tryd.prog 137 #[.slice A l.length c] w fun e w' => e = .returned (mayErr l) ∧ Below w.heap.size w w' := by
  have F := FP.of hR
  refine calls_v (n := 39) Tryd.func137 rfl Tryd.ntmps137 [.x (.a (.v (.slice A l.length c)))] (by simp) (.x (.a (.v (mayErr l)))) (fun _ => rfl) ?_
  by_cases h64 : (64 : Int) < l.length
  · have hm : may l = false := by
      cases hm : may l
      · rfl
      · have := may_len hm; omega
    simp only [h64, mayErr_no hm, push_cast, ↓reduceIte, reduceCtorEq, Nat.reduceLT, Int.reduceNeg]
  simp only [h64, push_cast, ↓reduceIte, reduceCtorEq, Nat.reduceLT, Int.reduceNeg]
  refine loop_rule (ι := Nat) (fun i => ⟨[(3, .x (.a (.v (.int .i64 (lastP l i))))), (10, .x (.a (.v (.slice A l.length c)))), (11, .x (.a (.v (.int .i64 l.length)))), (12, .x (.a (.v (.int .i64 i))))], []⟩) (fun i => i ≤ l.length ∧ ∀ j, j < i → pgood l j) (fun i => l.length - i) 0 [] ⟨by omega, fun j h => by omega⟩ ?_ ?_
  · simp only [lastP_zero, push_cast, ↓Int.cast_ofNat_Int, Int.cast_ofNat_Int, ↓reduceIte, Nat.reduceEqDiff, Int.reduceNeg]
  · rintro i ⟨hi, hj⟩
    by_cases hlt : (i : Int) < l.length
    · have i0 : (0 : Int) ≤ i := by omega
      have c0 := F.c0 i (by omega)
      have c1 := F.c1 i (by omega)
      have o0 := F.ok0 i (by omega)
      have o1 := F.ok1 i (by omega)
      have hA := F.some_ (by omega)
      by_cases h1 : (ix l i).1 ≤ lastP l i
      · have hm := may_no (l := l) (i := i) (by omega) (fun h => by have := h.1; omega)
        simp only [hlt, i0, c0, c1, o0, o1, hA, h1, mayErr_no hm, pAdd_zero, pAdd_add, pAdd_isSome, undef, push_cast, ↓Int.toNat_natCast, ↓reduceIte, reduceCtorEq, Nat.reduceEqDiff, Nat.reduceLT, Nat.reduceAdd]
      by_cases h2 : (64 : Int) ≤ (ix l i).1
      · have hm := may_no (l := l) (i := i) (by omega) (fun h => by have := h.2.1; omega)
        simp only [hlt, i0, c0, c1, o0, o1, hA, h1, h2, mayErr_no hm, pAdd_zero, pAdd_add, pAdd_isSome, undef, push_cast, ↓Int.toNat_natCast, ↓reduceIte, reduceCtorEq, Nat.reduceEqDiff, Nat.reduceLT, Nat.reduceAdd]
      by_cases h3 : (ix l i).2 = 0
      · have hm := may_no (l := l) (i := i) (by omega) (fun h => h.2.2.1 h3)
        simp only [hlt, i0, c0, c1, o0, o1, hA, h1, h2, h3, mayErr_no hm, pAdd_zero, pAdd_add, pAdd_isSome, undef, push_cast, ↓Int.toNat_natCast, ↓reduceIte, reduceCtorEq, Nat.reduceEqDiff, Nat.reduceLT, Nat.reduceAdd]
      by_cases h4 : (2305843009213693951 : UInt64) ≤ (ix l i).2
      · have hm := may_no (l := l) (i := i) (by omega) (fun h => u64_le_not.2 h.2.2.2 h4)
        simp only [hlt, i0, c0, c1, o0, o1, hA, h1, h2, h3, h4, mayErr_no hm, pAdd_zero, pAdd_add, pAdd_isSome, undef, push_cast, ↓Int.toNat_natCast, ↓reduceIte, reduceCtorEq, Nat.reduceEqDiff, Nat.reduceLT, Nat.reduceAdd]
      have hg : pgood l i := ⟨by omega, by omega, h3, u64_le_not.1 h4⟩
      simp only [hlt, i0, c0, c1, o0, o1, hA, h1, h2, h3, h4, pAdd_zero, pAdd_add, pAdd_isSome, undef, push_cast, ↓Int.toNat_natCast, ↓reduceIte, reduceCtorEq, Nat.reduceEqDiff, Nat.reduceLT, Nat.reduceAdd, Int.reduceNeg]
      (repeat (refine And.intro (by first | omega | decide) ?_))
      refine loopK_normal (i + 1) [] ⟨by omega, fun j hjl => ?_⟩ (by omega) ?_
      · by_cases e : j = i
        · rw [e]; exact hg
        · exact hj j (by omega)
      · simp only [lastP_succ, push_cast, ↓reduceIte, Nat.reduceEqDiff]
    · have hm : may l = true := may_iff.2 fun j h => hj j (by omega)
      simp only [hlt, mayErr_yes hm, push_cast, ↓reduceIte, Nat.reduceEqDiff, Nat.reduceLT]
section
variable {w0 : World} {hp : List Res} {sv : Sv} {l : List Pr}
theorem check09OK (h : ShowsR w0 No hp sv l.length (pvs l)) : CallOK Tryd.prog w0 No 137 [sv] hp (.x (.a (.v (mayErr l)))) hp := callOK_v fun γ w hS => by
  obtain ⟨A, c, e1, _, r1⟩ := h γ w hS
  show Calls _ _ #[sv.val γ] w _
  rw [e1]
  exact check09_any l A c w r1
end
def pcs (l : List Pr) : List At := l.flatMap fun p => [.v (.int .i64 p.1), .v (vU64 p.2)]
theorem pcs_nil : pcs [] = [] := rfl
theorem pcs_cons (p : Pr) (l : List Pr) : pcs (p :: l) = .v (.int .i64 p.1) :: .v (vU64 p.2) :: pcs l := rfl
theorem pcs_app (l m : List Pr) : pcs (l ++ m) = pcs l ++ pcs m := by unfold pcs; rw [List.flatMap_append]
theorem pcs_len (l : List Pr) : (pcs l).length = l.length * 2 := by
  induction l with
  | nil => rfl
  | cons p l ih => rw [pcs_cons]; simp only [List.length_cons, ih]; omega
theorem pcs_val (γ : List Nm) (l : List Pr) : (pcs l).map (At.val γ) = pvs l := by
  induction l with
  | nil => rfl
  | cons p l ih => rw [pcs_cons, List.map_cons, List.map_cons, ih]; rfl
theorem pcs_ren (ρ : List Nat) (l : List Pr) : (pcs l).map (At.ren ρ) = pcs l := by
  induction l with
  | nil => rfl
  | cons p l ih => rw [pcs_cons, List.map_cons, List.map_cons, ih]; rfl
theorem pcs_forall {Q : At → Prop} (l : List Pr) : (∀ x ∈ pcs l, Q x) = ∀ p ∈ l, Q (.v (.int .i64 p.1)) ∧ Q (.v (vU64 p.2)) := by
  apply propext
  induction l with
  | nil => simp [pcs_nil]
  | cons p l ih =>
    rw [pcs_cons, List.forall_mem_cons, List.forall_mem_cons, List.forall_mem_cons, ih, and_assoc]
theorem pcs_take (l : List Pr) (i : Nat) (h : i < l.length) : pcs (l.take i) ++ [.v (.int .i64 (ix l i).1), .v (vU64 (ix l i).2)] = pcs (l.take (i + 1)) := by
  have e : ix l i = l[i] := by simp [ix, List.getD_eq_getElem?_getD, List.getElem?_eq_getElem h]
  rw [List.take_add_one, List.getElem?_eq_getElem h, Option.toList_some, pcs_app, e]
  rfl
attribute [push_cast] pcs_ren pcs_len pcs_forall
attribute [irreducible] pcs
theorem showsR_pcs {w0 : World} {ow : Nat → Prop} {hp : List Res} {k : Nat} {e : TypeId} {l : List Pr} (hr : hp[k]? = some (.onn e 2 (.c (pcs l)))) : ShowsR w0 ow hp (.x (.a (.o k))) l.length (pvs l) :=
  showsR_onn hr (fun γ => pcs_val γ l) (pvs_len l)
set_option maxRecDepth 100000 in
theorem give16_any (l : List Pr) (A : Option Addr) (c : Nat) (w : World) (hl : l.length ≤ 1000) (hR : RdV w w.heap.size A (pvs l)) : Calls Tryd.prog 90 #[.slice A l.length c] w fun e w' => ∃ γ1, e = .returned ((Sv.x (.a (.o 0))).val γ1) ∧ Sat w No γ1 [.onn 160 2 (.c (pcs l))] w' := by
  have F := FP.of hR
  refine calls_fun (n := 19) Tryd.func90 rfl Tryd.ntmps90 [.x (.a (.v (.slice A l.length c)))] (Sat.init w No) (by simp) _ _ ?_
  simp only [push_cast, ↓reduceIte, Nat.reduceLT]
  refine loop_ghostN 3 160 2 (.c []) (by omega) rfl rfl (by simp only [push_cast]) ?_
  refine loop_rule (ι := Nat) (fun i => ⟨[(0, .x (.a (.v (.slice A l.length c)))), (3, .x (.a (.o 0))), (4, .x (.a (.v (.int .i64 i))))], [.onn 160 2 (.c (pcs (l.take i)))]⟩) (fun i => i ≤ l.length) (fun i => l.length - i) 0 [0] (by omega) ?_ ?_
  · simp only [List.take_zero, pcs_nil, push_cast, ↓Int.cast_ofNat_Int, Int.cast_ofNat_Int, ↓reduceIte, reduceCtorEq, Nat.reduceEqDiff, Nat.reduceLT]
  · intro i hi
    by_cases hlt : (i : Int) < l.length
    · have i0 : (0 : Int) ≤ i := by omega
      have c0 := F.c0 i (by omega)
      have c1 := F.c1 i (by omega)
      have o0 := F.ok0 i (by omega)
      have o1 := F.ok1 i (by omega)
      have hA := F.some_ (by omega)
      have hlen : (l.take i).length = i := by rw [List.length_take]; omega
      have ht := pcs_take l i (by omega)
      simp only [hlt, i0, c0, c1, o0, o1, hA, hlen, ht, pAdd_zero, pAdd_add, pAdd_isSome, push_cast, ↓Int.toNat_natCast, ↓reduceIte, reduceCtorEq, Nat.reduceEqDiff, Nat.reduceLT, Nat.reduceLeDiff, Nat.reduceAdd, Nat.reduceMul, Int.reduceNeg]
      (repeat (refine And.intro (by first | omega | decide) ?_))
      refine loopK_normal (i + 1) [2] (by omega) (by omega) ?_
      simp only [push_cast, ↓reduceIte, reduceCtorEq, Nat.reduceEqDiff, Nat.reduceLT]
    · have e : i = l.length := by omega
      subst e
      simp only [hlt, List.take_length, push_cast, ↓reduceIte, reduceCtorEq, Nat.reduceEqDiff, Nat.reduceLT]
      refine endsAs [0] ?_
      simp only [push_cast, ↓reduceIte, Nat.reduceLT]
theorem give16OK {w0 : World} {hp : List Res} {sv : Sv} {l : List Pr} (hl : l.length ≤ 1000) (h : ShowsR w0 No hp sv l.length (pvs l)) (hbr : ∀ r ∈ hp, Res.bnd hp.length r) :
    CallOK Tryd.prog w0 No 90 [sv] hp (.x (.a (.o hp.length))) (hp ++ [.onn 160 2 (.c (pcs l))]) := by
  have := callOK_take (P := Tryd.prog) (f := 90) (svs := [sv]) (w0 := w0) (ow := No) (sv1 := .x (.a (.o 0))) (hp1 := [.onn 160 2 (.c (pcs l))]) [] hbr (by simp only [push_cast]) (by simp only [push_cast, Nat.reduceLT])
    fun γ w hS => ⟨No, fun b h => h.elim, by
      obtain ⟨A, c, e1, b1, r1⟩ := h γ w hS
      show Calls _ _ #[sv.val γ] w _
      rw [e1]
      exact give16_any l A c w hl r1⟩
  simp only [goneAll, shiftL, push_cast] at this
  exact this
end Go.Proofs.YtiaeollemmkclaaDoor
