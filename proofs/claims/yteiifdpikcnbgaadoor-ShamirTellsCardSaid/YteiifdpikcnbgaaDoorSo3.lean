/- Shares in order, and split: as the program does it (shamir.Sorted, Split). -/
import Derived.Test.YteiifdpikcnbgaaDoorSo1
import Derived.Test.YteiifdpikcnbgaaDoorSo2
namespace Go.Proofs.YteiifdpikcnbgaaDoor
open Go.RowKit
set_option linter.unusedSimpArgs false
set_option linter.unusedVariables false
/-! ### Cells of shares -/
theorem shc_nil : shc [] = [] := rfl
theorem shc_cons (p : Sh) (l : List Sh) : shc (p :: l) = .v (vU64 p.1) :: .v (vU64 p.2) :: shc l := rfl
theorem shc_app (l m : List Sh) : shc (l ++ m) = shc l ++ shc m := by unfold shc; rw [List.flatMap_append]
theorem shc_len (l : List Sh) : (shc l).length = l.length * 2 := by
  induction l with
  | nil => rfl
  | cons p l ih => rw [shc_cons]; simp only [List.length_cons, ih]; omega
theorem shc_ren (ρ : List Nat) (l : List Sh) : (shc l).map (At.ren ρ) = shc l := by
  induction l with
  | nil => rfl
  | cons p l ih => rw [shc_cons, List.map_cons, List.map_cons, ih]; rfl
theorem shc_forall {Q : At → Prop} (l : List Sh) : (∀ x ∈ shc l, Q x) = ∀ p ∈ l, Q (.v (vU64 p.1)) ∧ Q (.v (vU64 p.2)) := by
  apply propext
  induction l with
  | nil => simp [shc_nil]
  | cons p l ih =>
    rw [shc_cons, List.forall_mem_cons, List.forall_mem_cons, List.forall_mem_cons, ih, and_assoc]
theorem shc_snoc (l : List Sh) (x y : UInt64) : shc l ++ [.v (vU64 x), .v (vU64 y)] = shc (l ++ [(x, y)]) := by
  rw [shc_app, shc_cons, shc_nil]
theorem shc_get0 (l : List Sh) (i : Nat) (h : i < l.length) (x : At) : (shc l).getD (i * 2) x = .v (vU64 (ix l i).1) := by
  induction l generalizing i with
  | nil => simp at h
  | cons p l ih =>
    cases i with
    | zero => rw [shc_cons]; rfl
    | succ i =>
      rw [shc_cons, show (i + 1) * 2 = i * 2 + 1 + 1 from by omega, List.getD_cons_succ, List.getD_cons_succ, ih i (by simpa using h)]
      rfl
theorem shc_get1 (l : List Sh) (i : Nat) (h : i < l.length) (x : At) : (shc l).getD (i * 2 + 1) x = .v (vU64 (ix l i).2) := by
  induction l generalizing i with
  | nil => simp at h
  | cons p l ih =>
    cases i with
    | zero => rw [shc_cons]; rfl
    | succ i =>
      rw [shc_cons, show (i + 1) * 2 + 1 = i * 2 + 1 + 1 + 1 from by omega, List.getD_cons_succ, List.getD_cons_succ, ih i (by simpa using h)]
      rfl
theorem shc_set1 (l : List Sh) (i : Nat) (y : UInt64) (h : i < l.length) : (shc l).set (i * 2 + 1) (.v (vU64 y)) = shc (l.set i ((ix l i).1, y)) := by
  induction l generalizing i with
  | nil => simp at h
  | cons p l ih =>
    cases i with
    | zero => rw [shc_cons]; rfl
    | succ i =>
      rw [shc_cons, show (i + 1) * 2 + 1 = i * 2 + 1 + 1 + 1 from by omega, List.set_cons_succ, List.set_cons_succ, ih i (by simpa using h), List.set_cons_succ, shc_cons]
      rfl
theorem half2 (n : Nat) : n * 2 / 2 = n := Nat.mul_div_cancel n (by omega)
attribute [push_cast] shc_ren shc_len shc_forall
attribute [local irreducible] shc
theorem showsR_shc {w0 : World} {ow : Nat → Prop} {hp : List Res} {k : Nat} {e : TypeId} {l : List Sh} (hr : hp[k]? = some (.onn e 2 (.c (shc l)))) : ShowsR w0 ow hp (.x (.a (.o k))) l.length (shs l) :=
  showsR_onn hr (fun γ => shc_vals γ l) (shs_len l)
/-- Shares that come anew, and something beside them. -/
theorem callOK_shs {w0 : World} {f : FuncId} {svs : List Sv} {hp : List Res} {L : List Sh} {y : Value} (hbr : ∀ r ∈ hp, Res.bnd hp.length r)
    (h : ∀ γ w, Sat w0 No γ hp w → Calls Tryd.prog f (svs.map (Sv.val γ)).toArray w fun e w' => ∃ γ1, e = .returned ((Sv.t [.a (.o 0), .a (.v y)]).val γ1) ∧ Sat w No γ1 [.onn 76 2 (.c (shc L))] w') :
    CallOK Tryd.prog w0 No f svs hp (.t [.a (.o hp.length), .a (.v y)]) (hp ++ [.onn 76 2 (.c (shc L))]) := by
  have := callOK_take (P := Tryd.prog) (f := f) (svs := svs) (w0 := w0) (ow := No) (hp := hp) (sv1 := .t [.a (.o 0), .a (.v y)]) (hp1 := [.onn 76 2 (.c (shc L))]) [] hbr (by simp only [push_cast, ↓Int.toNat_natCast, ↓Int.cast_ofNat_Int, Int.cast_ofNat_Int, ↓reduceIte, reduceCtorEq, Nat.reduceEqDiff, Nat.reduceLT, Nat.reduceLeDiff, Nat.reduceAdd, Nat.reduceSub, Nat.reduceMul, Int.reduceNeg, Int.reduceLE, Int.reduceLT, Int.reduceToNat, Int.reduceAdd, Int.reduceSub, Int.reduceMul, Int.reduceEq]) (by simp only [push_cast, ↓Int.toNat_natCast, ↓Int.cast_ofNat_Int, Int.cast_ofNat_Int, ↓reduceIte, reduceCtorEq, Nat.reduceEqDiff, Nat.reduceLT, Nat.reduceLeDiff, Nat.reduceAdd, Nat.reduceSub, Nat.reduceMul, Int.reduceNeg, Int.reduceLE, Int.reduceLT, Int.reduceToNat, Int.reduceAdd, Int.reduceSub, Int.reduceMul, Int.reduceEq])
    fun γ w hS => ⟨No, fun b h => h.elim, h γ w hS⟩
  simp only [goneAll, shiftL, List.range_succ, List.range_zero, push_cast, ↓Int.toNat_natCast, ↓Int.cast_ofNat_Int, Int.cast_ofNat_Int, ↓reduceIte, reduceCtorEq, Nat.reduceEqDiff, Nat.reduceLT, Nat.reduceLeDiff, Nat.reduceAdd, Nat.reduceSub, Nat.reduceMul, Int.reduceNeg, Int.reduceLE, Int.reduceLT, Int.reduceToNat, Int.reduceAdd, Int.reduceSub, Int.reduceMul, Int.reduceEq] at this
  exact this
def erS (n : Int) : Value := if n = 0 then .nilIface else errN n
theorem erS_zero : erS 0 = .nilIface := rfl
theorem erS_ne {n : Int} (h : ¬ n = 0) : erS n = errN n := if_neg h
attribute [local irreducible] Callable CallOK CallG CallM DrawG LoopG symR symM
attribute [local irreducible] seenU metU apartU prU wtU wtsU thU powU polyU sortP splS polyN
/-! ### Split -/
theorem u64_le (a b : Nat) (ha : a < 1000) (hb : b < 1000) : (UInt64.ofNat a ≤ UInt64.ofNat b) = (a ≤ b) := by
  rw [UInt64.le_iff_toNat_le, UInt64.toNat_ofNat', UInt64.toNat_ofNat', Nat.mod_eq_of_lt (by omega), Nat.mod_eq_of_lt (by omega)]
set_option maxRecDepth 100000 in
set_option maxHeartbeats 2000000 in
theorem split_any (s : UInt64) (l : List UInt64) (m : Nat) (A : Option Addr) (c : Nat) (w : World) (hm1 : 1 ≤ m) (hm : m ≤ 64) (hl : l.length < m) (hc : l.length ≤ c) (hR : RdV w w.heap.size A (l.map vU64)) :
    Calls Tryd.prog 37 (List.map (Sv.val []) [.x (.a (.v (vU64 s))), (.x (.a (.v (.slice A l.length c)))), .x (.a (.v (.int .i64 m)))]).toArray w fun e w' => ∃ γ1, e = .returned ((Sv.t [.a (.o 0), .a (.v .nilIface)]).val γ1) ∧ Sat w No γ1 [.onn 76 2 (.c (shc (splS (s :: l) m)))] w' := by
  refine calls_fun (n := 45) Tryd.func37 rfl Tryd.ntmps37 [.x (.a (.v (vU64 s))), (.x (.a (.v (.slice A l.length c)))), .x (.a (.v (.int .i64 m)))] (Sat.init w No) (by simp) _ _ ?_
  obtain ⟨e2, k2⟩ := rd64_of (FV.no hR)
  have g1 : ¬ (m : Int) < 1 := by omega
  have g2 : ¬ (64 : Int) < m := by omega
  have g3 : ¬ (m : Int) ≤ l.length := by omega
  have b3 : (1 + l.length) * 8 ≤ 140737488355328 := by omega
  have b4 : 1 + l.length ≤ 2 ^ 63 - 1 := by omega
  simp (config := { maxSteps := 1000000 }) only [g1, g2, g3, e2, k2, b3, b4, undef, push_cast, ↓Int.toNat_natCast, ↓Int.cast_ofNat_Int, Int.cast_ofNat_Int, ↓reduceIte, reduceCtorEq, Nat.reduceEqDiff, Nat.reduceLT, Nat.reduceLeDiff, Nat.reduceAdd, Nat.reduceSub, Nat.reduceMul, Int.reduceNeg, Int.reduceLE, Int.reduceLT, Int.reduceToNat, Int.reduceAdd, Int.reduceSub, Int.reduceMul, Int.reduceEq]
  (repeat (refine And.intro (by first | omega | decide) ?_))
  generalize hfa : s :: l = fa at *
  have lfa : fa.length ≤ 1000000 := by rw [← hfa, List.length_cons]; omega
  refine loop_rule (ι := Nat) (fun i => ⟨[(2, .x (.a (.v (.int .i64 m)))), (8, .x (.a (.o 0))), (9, .x (.a (.o 1))), (10, .x (.a (.v (vU64 (UInt64.ofNat (i + 1))))))], [.own 23 (.u64 fa), .onn 76 2 (.c (shc (splS fa i)))]⟩) (fun i => i ≤ m) (fun i => m - i) 0 [1, 2] (by omega) ?_ ?_
  · simp (config := { maxSteps := 1000000 }) only [splS_zero, shc_nil, show n64 (UInt64.ofNat 1) = 1 from rfl, push_cast, ↓Int.toNat_natCast, ↓Int.cast_ofNat_Int, Int.cast_ofNat_Int, ↓reduceIte, reduceCtorEq, Nat.reduceEqDiff, Nat.reduceLT, Nat.reduceLeDiff, Nat.reduceAdd, Nat.reduceSub, Nat.reduceMul, Int.reduceNeg, Int.reduceLE, Int.reduceLT, Int.reduceToNat, Int.reduceAdd, Int.reduceSub, Int.reduceMul, Int.reduceEq]
  · intro i hi
    have ho : UInt64.ofInt (m : Int) = UInt64.ofNat m := by
      rw [← UInt64.toNat_inj, UInt64.toNat_ofNat']
      simp [UInt64.ofInt, UInt64.toNat_ofNat']
      omega
    by_cases hlt : i + 1 ≤ m
    · have hle : (UInt64.ofNat (i + 1) ≤ UInt64.ofNat m) = True := by rw [u64_le _ _ (by omega) (by omega)]; exact eq_true hlt
      have hsn := shc_snoc (splS fa i) (UInt64.ofNat (i + 1)) (polyU fa (UInt64.ofNat (i + 1)))
      rw [← splS_succ] at hsn
      have hln := splS_length fa i
      have hx : UInt64.ofNat (i + 1) + 1 = UInt64.ofNat (i + 1 + 1) := by rw [UInt64.ofNat_add (i + 1) 1]; rfl
      have b5 : (i + 1) * 16 ≤ 140737488355328 := by omega
      have b6 : i + 1 ≤ 2 ^ 63 - 1 := by omega
      simp (config := { maxSteps := 1000000 }) only [ho, hle, undef, push_cast, ↓Int.toNat_natCast, ↓Int.cast_ofNat_Int, Int.cast_ofNat_Int, ↓reduceIte, reduceCtorEq, Nat.reduceEqDiff, Nat.reduceLT, Nat.reduceLeDiff, Nat.reduceAdd, Nat.reduceSub, Nat.reduceMul, Int.reduceNeg, Int.reduceLE, Int.reduceLT, Int.reduceToNat, Int.reduceAdd, Int.reduceSub, Int.reduceMul, Int.reduceEq]
      (repeat (refine And.intro (by first | omega | decide) ?_))
      refine callG_v rfl cb73 rfl (polyEvalOK (c := fa) (UInt64.ofNat (i + 1)) lfa (shows_own rfl fun _ => rfl)) (dOk_lt rfl) ?_
      simp (config := { maxSteps := 1000000 }) only [hsn, hln, half2, b5, b6, hx, undef, push_cast, ↓Int.toNat_natCast, ↓Int.cast_ofNat_Int, Int.cast_ofNat_Int, ↓reduceIte, reduceCtorEq, Nat.reduceEqDiff, Nat.reduceLT, Nat.reduceLeDiff, Nat.reduceAdd, Nat.reduceSub, Nat.reduceMul, Int.reduceNeg, Int.reduceLE, Int.reduceLT, Int.reduceToNat, Int.reduceAdd, Int.reduceSub, Int.reduceMul, Int.reduceEq]
      (repeat (refine And.intro (by first | omega | decide) ?_))
      refine loopK_normal (i + 1) [0, 3] (by omega) (by omega) ?_
      simp (config := { maxSteps := 1000000 }) only [push_cast, ↓Int.toNat_natCast, ↓Int.cast_ofNat_Int, Int.cast_ofNat_Int, ↓reduceIte, reduceCtorEq, Nat.reduceEqDiff, Nat.reduceLT, Nat.reduceLeDiff, Nat.reduceAdd, Nat.reduceSub, Nat.reduceMul, Int.reduceNeg, Int.reduceLE, Int.reduceLT, Int.reduceToNat, Int.reduceAdd, Int.reduceSub, Int.reduceMul, Int.reduceEq]
    · have hle : (UInt64.ofNat (i + 1) ≤ UInt64.ofNat m) = False := by rw [u64_le _ _ (by omega) (by omega)]; exact eq_false hlt
      have e : i = m := by omega
      subst e
      simp (config := { maxSteps := 1000000 }) only [ho, hle, undef, push_cast, ↓Int.toNat_natCast, ↓Int.cast_ofNat_Int, Int.cast_ofNat_Int, ↓reduceIte, reduceCtorEq, Nat.reduceEqDiff, Nat.reduceLT, Nat.reduceLeDiff, Nat.reduceAdd, Nat.reduceSub, Nat.reduceMul, Int.reduceNeg, Int.reduceLE, Int.reduceLT, Int.reduceToNat, Int.reduceAdd, Int.reduceSub, Int.reduceMul, Int.reduceEq]
      refine endsAs [1] ?_
      simp (config := { maxSteps := 1000000 }) only [push_cast, ↓Int.toNat_natCast, ↓Int.cast_ofNat_Int, Int.cast_ofNat_Int, ↓reduceIte, reduceCtorEq, Nat.reduceEqDiff, Nat.reduceLT, Nat.reduceLeDiff, Nat.reduceAdd, Nat.reduceSub, Nat.reduceMul, Int.reduceNeg, Int.reduceLE, Int.reduceLT, Int.reduceToNat, Int.reduceAdd, Int.reduceSub, Int.reduceMul, Int.reduceEq]
theorem splitOK {w0 : World} {hp : List Res} {sv : Sv} {l : List UInt64} (s : UInt64) (m : Nat) (hm1 : 1 ≤ m) (hm : m ≤ 64) (hl : l.length < m) (h : Shows w0 No hp sv (l.map vU64)) (hbr : ∀ r ∈ hp, Res.bnd hp.length r) :
    CallOK Tryd.prog w0 No 37 [.x (.a (.v (vU64 s))), sv, .x (.a (.v (.int .i64 m)))] hp (.t [.a (.o hp.length), .a (.v .nilIface)]) (hp ++ [.onn 76 2 (.c (shc (splS (s :: l) m)))]) := callOK_shs hbr fun γ w hS => by
  obtain ⟨A, c, e1, b1, r1⟩ := h γ w hS
  rw [List.length_map] at e1 b1
  show Calls _ _ #[vU64 s, sv.val γ, .int .i64 m] w _
  rw [e1]
  exact split_any s l m A c w hm1 hm hl b1 r1
/-! ### Sorted -/
set_option maxRecDepth 100000 in
set_option maxHeartbeats 2000000 in
theorem sorted_yes (l : List Sh) (A : Option Addr) (c : Nat) (w : World) (hs : sorE l = 0) (hc : l.length ≤ c) (hR : RdV w w.heap.size A (shs l)) :
    Calls Tryd.prog 39 (List.map (Sv.val []) [(.x (.a (.v (.slice A l.length c))))]).toArray w fun e w' => ∃ γ1, e = .returned ((Sv.t [.a (.o 0), .a (.v .nilIface)]).val γ1) ∧ Sat w No γ1 [.onn 76 2 (.c (shc (sortP l)))] w' := by
  have F := FS2.of hR
  obtain ⟨h64, hok, hasc⟩ := sorE_ok hs
  refine calls_fun (n := 57) Tryd.func39 rfl Tryd.ntmps39 [(.x (.a (.v (.slice A l.length c))))] (Sat.init w No) (by simp) _ _ ?_
  have g1 : ¬ (64 : Int) < l.length := by omega
  simp (config := { maxSteps := 1000000 }) only [g1, undef, push_cast, ↓Int.toNat_natCast, ↓Int.cast_ofNat_Int, Int.cast_ofNat_Int, ↓reduceIte, reduceCtorEq, Nat.reduceEqDiff, Nat.reduceLT, Nat.reduceLeDiff, Nat.reduceAdd, Nat.reduceSub, Nat.reduceMul, Int.reduceNeg, Int.reduceLE, Int.reduceLT, Int.reduceToNat, Int.reduceAdd, Int.reduceSub, Int.reduceMul, Int.reduceEq]
  (repeat (refine And.intro (by first | omega | decide) ?_))
  refine loop_rule (ι := Nat) (fun i => ⟨[(0, (.x (.a (.v (.slice A l.length c))))), (12, (.x (.a (.v (.slice A l.length c))))), (13, .x (.a (.v (.int .i64 l.length)))), (14, .x (.a (.v (.int .i64 i))))], []⟩) (fun i => i ≤ l.length) (fun i => l.length - i) 0 [] (by omega) ?_ ?_
  · simp (config := { maxSteps := 1000000 }) only [push_cast, ↓Int.toNat_natCast, ↓Int.cast_ofNat_Int, Int.cast_ofNat_Int, ↓reduceIte, reduceCtorEq, Nat.reduceEqDiff, Nat.reduceLT, Nat.reduceLeDiff, Nat.reduceAdd, Nat.reduceSub, Nat.reduceMul, Int.reduceNeg, Int.reduceLE, Int.reduceLT, Int.reduceToNat, Int.reduceAdd, Int.reduceSub, Int.reduceMul, Int.reduceEq]
  · intro i hi
    by_cases hlt : (i : Int) < l.length
    · have i0 : (0 : Int) ≤ i := by omega
      have c0 := F.c0 i (by omega)
      have c1 := F.c1 i (by omega)
      have o0 := F.ok0 i (by omega)
      have o1 := F.ok1 i (by omega)
      have hA := F.some_ (by omega)
      obtain ⟨k1, k2, k3⟩ := okAll_iff.1 hok _ (ix_mem (l := l) (i := i) (by omega))
      have k2 : ¬ (2305843009213693951 : UInt64) ≤ (ix l i).1 := fun h => by have := UInt64.le_iff_toNat_le.1 h; have e : (2305843009213693951 : UInt64).toNat = 2305843009213693951 := rfl; omega
      have k3 : ¬ (2305843009213693951 : UInt64) ≤ (ix l i).2 := fun h => by have := UInt64.le_iff_toNat_le.1 h; have e : (2305843009213693951 : UInt64).toNat = 2305843009213693951 := rfl; omega
      simp (config := { maxSteps := 1000000 }) only [hlt, i0, c0, c1, o0, o1, hA, k1, k2, k3, pAdd_zero, pAdd_add, pAdd_isSome, undef, push_cast, ↓Int.toNat_natCast, ↓Int.cast_ofNat_Int, Int.cast_ofNat_Int, ↓reduceIte, reduceCtorEq, Nat.reduceEqDiff, Nat.reduceLT, Nat.reduceLeDiff, Nat.reduceAdd, Nat.reduceSub, Nat.reduceMul, Int.reduceNeg, Int.reduceLE, Int.reduceLT, Int.reduceToNat, Int.reduceAdd, Int.reduceSub, Int.reduceMul, Int.reduceEq]
      (repeat (refine And.intro (by first | omega | decide) ?_))
      refine loopK_normal (i + 1) [] (by omega) (by omega) ?_
      simp (config := { maxSteps := 1000000 }) only [push_cast, ↓Int.toNat_natCast, ↓Int.cast_ofNat_Int, Int.cast_ofNat_Int, ↓reduceIte, reduceCtorEq, Nat.reduceEqDiff, Nat.reduceLT, Nat.reduceLeDiff, Nat.reduceAdd, Nat.reduceSub, Nat.reduceMul, Int.reduceNeg, Int.reduceLE, Int.reduceLT, Int.reduceToNat, Int.reduceAdd, Int.reduceSub, Int.reduceMul, Int.reduceEq]
    · simp (config := { maxSteps := 1000000 }) only [hlt, undef, push_cast, ↓Int.toNat_natCast, ↓Int.cast_ofNat_Int, Int.cast_ofNat_Int, ↓reduceIte, reduceCtorEq, Nat.reduceEqDiff, Nat.reduceLT, Nat.reduceLeDiff, Nat.reduceAdd, Nat.reduceSub, Nat.reduceMul, Int.reduceNeg, Int.reduceLE, Int.reduceLT, Int.reduceToNat, Int.reduceAdd, Int.reduceSub, Int.reduceMul, Int.reduceEq]
      refine callG_x rfl cb79 rfl (cloneOK (l := l) (by omega) (showsR_raw hR hc) (by simp only [push_cast, ↓Int.toNat_natCast, ↓Int.cast_ofNat_Int, Int.cast_ofNat_Int, ↓reduceIte, reduceCtorEq, Nat.reduceEqDiff, Nat.reduceLT, Nat.reduceLeDiff, Nat.reduceAdd, Nat.reduceSub, Nat.reduceMul, Int.reduceNeg, Int.reduceLE, Int.reduceLT, Int.reduceToNat, Int.reduceAdd, Int.reduceSub, Int.reduceMul, Int.reduceEq])) (dOk_lt rfl) (by simp only [push_cast, ↓Int.toNat_natCast, ↓Int.cast_ofNat_Int, Int.cast_ofNat_Int, ↓reduceIte, reduceCtorEq, Nat.reduceEqDiff, Nat.reduceLT, Nat.reduceLeDiff, Nat.reduceAdd, Nat.reduceSub, Nat.reduceMul, Int.reduceNeg, Int.reduceLE, Int.reduceLT, Int.reduceToNat, Int.reduceAdd, Int.reduceSub, Int.reduceMul, Int.reduceEq]) ?_
      simp (config := { maxSteps := 1000000 }) only [undef, push_cast, ↓Int.toNat_natCast, ↓Int.cast_ofNat_Int, Int.cast_ofNat_Int, ↓reduceIte, reduceCtorEq, Nat.reduceEqDiff, Nat.reduceLT, Nat.reduceLeDiff, Nat.reduceAdd, Nat.reduceSub, Nat.reduceMul, Int.reduceNeg, Int.reduceLE, Int.reduceLT, Int.reduceToNat, Int.reduceAdd, Int.reduceSub, Int.reduceMul, Int.reduceEq]
      refine callG_rule rfl cb80 rfl (sortOK (k := 0) (L := l) rfl (by omega)) (dOk_lt rfl) (fun _ => by simp only [push_cast, ↓Int.toNat_natCast, ↓Int.cast_ofNat_Int, Int.cast_ofNat_Int, ↓reduceIte, reduceCtorEq, Nat.reduceEqDiff, Nat.reduceLT, Nat.reduceLeDiff, Nat.reduceAdd, Nat.reduceSub, Nat.reduceMul, Int.reduceNeg, Int.reduceLE, Int.reduceLT, Int.reduceToNat, Int.reduceAdd, Int.reduceSub, Int.reduceMul, Int.reduceEq]) ?_
      have hsl := sortP_length l
      have hst := asc_iff.1 hasc
      generalize sortP l = S at *
      simp (config := { maxSteps := 1000000 }) only [undef, push_cast, ↓Int.toNat_natCast, ↓Int.cast_ofNat_Int, Int.cast_ofNat_Int, ↓reduceIte, reduceCtorEq, Nat.reduceEqDiff, Nat.reduceLT, Nat.reduceLeDiff, Nat.reduceAdd, Nat.reduceSub, Nat.reduceMul, Int.reduceNeg, Int.reduceLE, Int.reduceLT, Int.reduceToNat, Int.reduceAdd, Int.reduceSub, Int.reduceMul, Int.reduceEq]
      (repeat (refine And.intro (by first | omega | decide) ?_))
      refine loop_rule (ι := Nat) (fun j => ⟨[(6, .x (.a (.o 0))), (7, .x (.a (.v (.int .i64 ((j : Int) + 1)))))], [.onn 76 2 (.c (shc S))]⟩) (fun j => j ≤ S.length) (fun j => S.length - j) 0 [0] (by omega) ?_ ?_
      · simp (config := { maxSteps := 1000000 }) only [push_cast, ↓Int.toNat_natCast, ↓Int.cast_ofNat_Int, Int.cast_ofNat_Int, ↓reduceIte, reduceCtorEq, Nat.reduceEqDiff, Nat.reduceLT, Nat.reduceLeDiff, Nat.reduceAdd, Nat.reduceSub, Nat.reduceMul, Int.reduceNeg, Int.reduceLE, Int.reduceLT, Int.reduceToNat, Int.reduceAdd, Int.reduceSub, Int.reduceMul, Int.reduceEq]
      · intro j hj
        by_cases hlj : (j : Int) + 1 < S.length
        · have j0 : (0 : Int) ≤ j := by omega
          have j1 : (0 : Int) ≤ (j : Int) + 1 := by omega
          have j2 : (j : Int) < S.length := by omega
          have j3 : j < S.length := by omega
          have j4 : j + 1 < S.length := by omega
          have e1 : (j : Int) + 1 - 1 = j := by omega
          have e2 : ((j : Int) + 1).toNat = j + 1 := by omega
          have q0 := shc_get0 S j (by omega)
          have q1 := shc_get0 S (j + 1) (by omega)
          have hne := hst j (by omega)
          simp (config := { maxSteps := 1000000 }) only [hlj, half2, undef, push_cast, ↓Int.toNat_natCast, ↓Int.cast_ofNat_Int, Int.cast_ofNat_Int, ↓reduceIte, reduceCtorEq, Nat.reduceEqDiff, Nat.reduceLT, Nat.reduceLeDiff, Nat.reduceAdd, Nat.reduceSub, Nat.reduceMul, Int.reduceNeg, Int.reduceLE, Int.reduceLT, Int.reduceToNat, Int.reduceAdd, Int.reduceSub, Int.reduceMul, Int.reduceEq]
          (repeat (refine And.intro (by first | omega | decide) ?_))
          refine draw_rule [(0, true), (1, true), (2, true), (3, true), (4, true), (5, true), (6, true), (7, true), (8, true), (9, true), (10, true), (11, true)] (by kernel_rfl) (by kernel_rfl) rfl (by kernel_rfl) ?_
          simp (config := { maxSteps := 1000000 }) only [hlj, j0, j1, j2, e1, e2, half2, q0, q1, hne, undef, push_cast, ↓Int.toNat_natCast, ↓Int.cast_ofNat_Int, Int.cast_ofNat_Int, ↓reduceIte, reduceCtorEq, Nat.reduceEqDiff, Nat.reduceLT, Nat.reduceLeDiff, Nat.reduceAdd, Nat.reduceSub, Nat.reduceMul, Int.reduceNeg, Int.reduceLE, Int.reduceLT, Int.reduceToNat, Int.reduceAdd, Int.reduceSub, Int.reduceMul, Int.reduceEq]
          (repeat (refine And.intro (by first | omega | decide) ?_))
          refine loopK_normal (j + 1) [0] (by omega) (by omega) ?_
          simp (config := { maxSteps := 1000000 }) only [push_cast, ↓Int.toNat_natCast, ↓Int.cast_ofNat_Int, Int.cast_ofNat_Int, ↓reduceIte, reduceCtorEq, Nat.reduceEqDiff, Nat.reduceLT, Nat.reduceLeDiff, Nat.reduceAdd, Nat.reduceSub, Nat.reduceMul, Int.reduceNeg, Int.reduceLE, Int.reduceLT, Int.reduceToNat, Int.reduceAdd, Int.reduceSub, Int.reduceMul, Int.reduceEq]
        · simp (config := { maxSteps := 1000000 }) only [hlj, half2, undef, push_cast, ↓Int.toNat_natCast, ↓Int.cast_ofNat_Int, Int.cast_ofNat_Int, ↓reduceIte, reduceCtorEq, Nat.reduceEqDiff, Nat.reduceLT, Nat.reduceLeDiff, Nat.reduceAdd, Nat.reduceSub, Nat.reduceMul, Int.reduceNeg, Int.reduceLE, Int.reduceLT, Int.reduceToNat, Int.reduceAdd, Int.reduceSub, Int.reduceMul, Int.reduceEq]
          refine endsAs [0] ?_
          simp (config := { maxSteps := 1000000 }) only [push_cast, ↓Int.toNat_natCast, ↓Int.cast_ofNat_Int, Int.cast_ofNat_Int, ↓reduceIte, reduceCtorEq, Nat.reduceEqDiff, Nat.reduceLT, Nat.reduceLeDiff, Nat.reduceAdd, Nat.reduceSub, Nat.reduceMul, Int.reduceNeg, Int.reduceLE, Int.reduceLT, Int.reduceToNat, Int.reduceAdd, Int.reduceSub, Int.reduceMul, Int.reduceEq]
theorem sortedOK {w0 : World} {hp : List Res} {sv : Sv} {l : List Sh} (hs : sorE l = 0) (h : ShowsR w0 No hp sv l.length (shs l)) (hbr : ∀ r ∈ hp, Res.bnd hp.length r) :
    CallOK Tryd.prog w0 No 39 [sv] hp (.t [.a (.o hp.length), .a (.v .nilIface)]) (hp ++ [.onn 76 2 (.c (shc (sortP l)))]) := callOK_shs hbr fun γ w hS => by
  obtain ⟨A, c, e1, b1, r1⟩ := h γ w hS
  show Calls _ _ #[sv.val γ] w _
  rw [e1]
  exact sorted_yes l A c w hs b1 r1
end Go.Proofs.YteiifdpikcnbgaaDoor
