/- Shares in order, as the document does it: each one put in where it belongs. -/
import Derived.Test.YteiifdpikcnbgaaDoorSp2
import Derived.Test.YteiifdpikcnbgaaDoorDrA
namespace Go.Proofs.YteiifdpikcnbgaaDoor
open Go.RowKit
set_option linter.unusedSimpArgs false
set_option linter.unusedVariables false
/-! ### One put in -/
def Up (l : List Sh) : Prop := l.Pairwise fun a b => a.1.toNat < b.1.toNat
theorem Up.nodup {l : List Sh} (h : Up l) : (PL l).Nodup := by
  show List.Pairwise _ (List.map _ _)
  rw [List.pairwise_map]
  exact h.imp fun h e => by rw [e] at h; omega
theorem ins_up {out : List Sh} {s : Sh} {n : Nat} (hup : Up out) (hn : n ≤ out.length) (h1 : ∀ j, j < n → (ix out j).1.toNat < s.1.toNat) (h2 : n < out.length → s.1.toNat < (ix out n).1.toNat) : Up (out.take n ++ [s] ++ out.drop n) := by
  have a1 : ∀ x ∈ out.take n, x.1.toNat < s.1.toNat := fun x hx => by
    obtain ⟨j, hj, rfl⟩ := List.mem_iff_getElem.1 hx
    rw [List.length_take] at hj
    have := h1 j (by omega)
    rw [ix_get (by omega)] at this
    rwa [List.getElem_take]
  have a2 : ∀ x ∈ out.drop n, s.1.toNat < x.1.toNat := fun x hx => by
    obtain ⟨j, hj, rfl⟩ := List.mem_iff_getElem.1 hx
    rw [List.length_drop] at hj
    have h3 := h2 (by omega)
    rw [ix_get (by omega)] at h3
    rw [List.getElem_drop]
    by_cases e : j = 0
    · subst e; simpa using h3
    · have := List.pairwise_iff_getElem.1 hup n (n + j) (by omega) (by omega) (by omega)
      omega
  unfold Up
  rw [List.pairwise_append, List.pairwise_append]
  refine ⟨⟨hup.sublist (List.take_sublist _ _), List.pairwise_singleton _ _, fun x hx y hy => by rw [List.mem_singleton.1 hy]; exact a1 x hx⟩, hup.sublist (List.drop_sublist _ _), fun x hx y hy => ?_⟩
  rcases List.mem_append.1 hx with hx | hx
  · have := a1 x hx; have := a2 y hy; omega
  · rw [List.mem_singleton.1 hx]; exact a2 y hy
theorem ins_perm {out l : List Sh} {n i : Nat} (h : out.Perm (l.take i)) (hi : i < l.length) : (out.take n ++ [ix l i] ++ out.drop n).Perm (l.take (i + 1)) := by
  have e1 : l.take (i + 1) = l.take i ++ [ix l i] := by rw [List.take_add_one, List.getElem?_eq_getElem hi, ix_get hi]; rfl
  have p1 : (out.take n ++ [ix l i] ++ out.drop n).Perm (out ++ [ix l i]) := by
    have e2 : out ++ [ix l i] = out.take n ++ (out.drop n ++ [ix l i]) := by rw [← List.append_assoc, List.take_append_drop]
    rw [e2, List.append_assoc]
    exact List.Perm.append_left _ List.perm_append_comm
  rw [e1]
  exact p1.trans (h.append_right _)
theorem sort_one {l out : List Sh} (h : out.Perm l) (hup : Up out) : sortP l = out := by
  have P := (sortP_perm l).trans h.symm
  refine List.Perm.eq_of_pairwise (le := fun x y : Sh => x.1.toNat ≤ y.1.toNat) ?_ ?_ ?_ P
  · intro x y hx hy h1 h2
    obtain ⟨i, hi, rfl⟩ := List.mem_iff_getElem.1 (P.mem_iff.1 hx)
    obtain ⟨j, hj, rfl⟩ := List.mem_iff_getElem.1 hy
    have e : (ix out i).1 = (ix out j).1 := by rw [ix_get hi, ix_get hj]; exact UInt64.toNat_inj.1 (Nat.le_antisymm h1 h2)
    have := nodup_ix hup.nodup hi hj e
    subst this
    rfl
  · rw [List.pairwise_iff_getElem]
    intro i j hi hj hij
    have := sortP_ord l i j hij (by have := sortP_length l; omega)
    rwa [ix_get hi, ix_get hj] at this
  · exact hup.imp fun h => Nat.le_of_lt h
theorem sor_done {l out : List Sh} (h64 : l.length ≤ 64) (ok : okAll l = true) (h : out.Perm l) (hup : Up out) : sorE l = 0 := sorE_of h64 ok ((h.map (·.1)).nodup_iff.1 hup.nodup)
theorem sor_twice {l : List Sh} (h64 : l.length ≤ 64) (ok : okAll l = true) (nd : ¬ (PL l).Nodup) : sorE l = 8 := by
  unfold sorE
  rw [if_pos h64, if_pos ok, if_neg]
  intro h
  exact nd (((sortP_perm l).map (·.1)).nodup_iff.1 (nodup_of h))
theorem twice_not {l out : List Sh} {i n : Nat} (h : out.Perm (l.take i)) (hi : i < l.length) (hn : n < out.length) (e : (ix out n).1 = (ix l i).1) : ¬ (PL l).Nodup := fun nd => by
  obtain ⟨j, hj, hje⟩ := List.mem_iff_getElem.1 (h.mem_iff.1 (ix_mem hn))
  rw [List.length_take] at hj
  rw [List.getElem_take] at hje
  have : (ix l j).1 = (ix l i).1 := by rw [ix_get (by omega), hje]; exact e
  have := nodup_ix nd (by omega) hi this
  omega
theorem shc_cutT (l : List Sh) (n : Nat) : List.take (n * 2) (shc l) = shc (l.take n) := by
  induction l generalizing n with
  | nil => simp [shc_nil]
  | cons p l ih =>
    cases n with
    | zero => simp [shc_nil]
    | succ n =>
      rw [show (n + 1) * 2 = n * 2 + 1 + 1 from by omega, shc_cons, List.take_succ_cons, List.take_succ_cons, ih, List.take_succ_cons, shc_cons]
theorem shc_cutD (l : List Sh) (n : Nat) : List.drop (n * 2) (shc l) = shc (l.drop n) := by
  induction l generalizing n with
  | nil => simp [shc_nil]
  | cons p l ih =>
    cases n with
    | zero => simp
    | succ n =>
      rw [show (n + 1) * 2 = n * 2 + 1 + 1 from by omega, shc_cons, List.drop_succ_cons, List.drop_succ_cons, ih, List.drop_succ_cons]
theorem shc_cut (l : List Sh) (n : Nat) (h : n ≤ l.length) : List.take ((l.length - n) * 2) (List.drop (n * 2) (shc l)) = shc (l.drop n) := by
  rw [shc_cutD, shc_cutT, ← List.length_drop, List.take_length]
/-- What comes anew, be it nil. -/
theorem callOK_shT {w0 : World} {f : FuncId} {svs : List Sv} {hp : List Res} {L : List Sh} {y : Value} (T : TypeId) (hbr : ∀ r ∈ hp, Res.bnd hp.length r)
    (h : ∀ γ w, Sat w0 No γ hp w → Calls Tryd.prog f (svs.map (Sv.val γ)).toArray w fun e w' => ∃ γ1, e = .returned ((Sv.t [.a (.o 0), .a (.v y)]).val γ1) ∧ Sat w No γ1 [.onn T 2 (.c (shc L))] w') :
    CallOK Tryd.prog w0 No f svs hp (.t [.a (.o hp.length), .a (.v y)]) (hp ++ [.onn T 2 (.c (shc L))]) := by
  have := callOK_take (P := Tryd.prog) (f := f) (svs := svs) (w0 := w0) (ow := No) (hp := hp) (sv1 := .t [.a (.o 0), .a (.v y)]) (hp1 := [.onn T 2 (.c (shc L))]) [] hbr (by simp only [push_cast, ↓Int.toNat_natCast, ↓Int.cast_ofNat_Int, Int.cast_ofNat_Int, ↓reduceIte, reduceCtorEq, Nat.reduceEqDiff, Nat.reduceLT, Nat.reduceLeDiff, Nat.reduceAdd, Nat.reduceSub, Nat.reduceMul, Int.reduceNeg, Int.reduceLE, Int.reduceLT, Int.reduceToNat, Int.reduceAdd, Int.reduceSub, Int.reduceMul, Int.reduceEq]) (by simp only [push_cast, ↓Int.toNat_natCast, ↓Int.cast_ofNat_Int, Int.cast_ofNat_Int, ↓reduceIte, reduceCtorEq, Nat.reduceEqDiff, Nat.reduceLT, Nat.reduceLeDiff, Nat.reduceAdd, Nat.reduceSub, Nat.reduceMul, Int.reduceNeg, Int.reduceLE, Int.reduceLT, Int.reduceToNat, Int.reduceAdd, Int.reduceSub, Int.reduceMul, Int.reduceEq])
    fun γ w hS => ⟨No, fun b h => h.elim, h γ w hS⟩
  simp only [goneAll, shiftL, List.range_succ, List.range_zero, push_cast, ↓Int.toNat_natCast, ↓Int.cast_ofNat_Int, Int.cast_ofNat_Int, ↓reduceIte, reduceCtorEq, Nat.reduceEqDiff, Nat.reduceLT, Nat.reduceLeDiff, Nat.reduceAdd, Nat.reduceSub, Nat.reduceMul, Int.reduceNeg, Int.reduceLE, Int.reduceLT, Int.reduceToNat, Int.reduceAdd, Int.reduceSub, Int.reduceMul, Int.reduceEq] at this
  exact this
theorem nil_shs {f : FuncId} {args : Array Value} {w : World} {y : Value} (T : TypeId) (h : Calls Tryd.prog f args w fun e w' => e = .returned (.tuple #[.slice none 0 0, y]) ∧ Below w.heap.size w w') :
    Calls Tryd.prog f args w fun e w' => ∃ γ1, e = .returned ((Sv.t [.a (.o 0), .a (.v y)]).val γ1) ∧ Sat w No γ1 [.onn T 2 (.c (shc []))] w' := h.mono fun e w' ⟨he, hb⟩ => by
  refine ⟨[.s (.slice none 0 0)], by rw [he]; rfl, ?_⟩
  have hS := (Sat.init w No).later hb
  refine hS.push (γ := []) (hp := []) (X := fun _ => False) (Keeps.refl _ _) (fun b h => h.elim) (by simp) ⟨rfl, by decide, 0, ?_⟩ ?_
  · exact World.ownsRow_nil _ _ _ _
  · intro n hn
    cases hn
attribute [local irreducible] Callable CallOK CallG CallM DrawG LoopG symR symM
attribute [local irreducible] shc seenU metU apartU prU wtU wtsU thU powU polyU sortP splS polyN addU subU fpMul euS plT nwP nwV nwN lineU
set_option maxRecDepth 100000 in
set_option maxHeartbeats 4000000 in
theorem rSorted_yes (l : List Sh) (A : Option Addr) (c : Nat) (w : World) (hl : l.length ≤ 1000) (hs : sorE l = 0) (hc : l.length ≤ c) (hR : RdV w w.heap.size A (shs l)) :
    Calls Tryd.prog 40 (List.map (Sv.val []) [(.x (.a (.v (.slice A l.length c))))]).toArray w fun e w' => ∃ γ1, e = .returned ((Sv.t [.a (.o 0), .a (.v (.int .i64 0))]).val γ1) ∧ Sat w No γ1 [.onn 80 2 (.c (shc (sortP l)))] w' := by
  have F := FS2.of hR
  obtain ⟨h64, hok, hasc⟩ := sorE_ok hs
  refine calls_fun (n := 98) Tryd.func40 rfl Tryd.ntmps40 [(.x (.a (.v (.slice A l.length c))))] (Sat.init w No) (by simp) _ _ ?_
  have g1 : ¬ (64 : Int) < l.length := by omega
  simp (config := { maxSteps := 1000000 }) only [g1, undef, push_cast, ↓Int.toNat_natCast, ↓Int.cast_ofNat_Int, Int.cast_ofNat_Int, ↓reduceIte, reduceCtorEq, Nat.reduceEqDiff, Nat.reduceLT, Nat.reduceLeDiff, Nat.reduceAdd, Nat.reduceSub, Nat.reduceMul, Int.reduceNeg, Int.reduceLE, Int.reduceLT, Int.reduceToNat, Int.reduceAdd, Int.reduceSub, Int.reduceMul, Int.reduceEq]
  (repeat (refine And.intro (by first | omega | decide) ?_))
  refine loop_rule (ι := Nat) (fun i => ⟨[(0, (.x (.a (.v (.slice A l.length c))))), (4, .x (.a (.v (.int .i64 i))))], []⟩) (fun i => i ≤ l.length ∧ ∀ j, j < i → okSh (ix l j) = true) (fun i => l.length - i) 0 [] ⟨by omega, fun j h => absurd h (Nat.not_lt_zero _)⟩ ?_ ?_
  · simp (config := { maxSteps := 1000000 }) only [push_cast, ↓Int.toNat_natCast, ↓Int.cast_ofNat_Int, Int.cast_ofNat_Int, ↓reduceIte, reduceCtorEq, Nat.reduceEqDiff, Nat.reduceLT, Nat.reduceLeDiff, Nat.reduceAdd, Nat.reduceSub, Nat.reduceMul, Int.reduceNeg, Int.reduceLE, Int.reduceLT, Int.reduceToNat, Int.reduceAdd, Int.reduceSub, Int.reduceMul, Int.reduceEq]
  · rintro i ⟨hi, hj⟩
    by_cases hlt : (i : Int) < l.length
    · have i0 : (0 : Int) ≤ i := by omega
      have c0 := F.c0 i (by omega)
      have c1 := F.c1 i (by omega)
      have o0 := F.ok0 i (by omega)
      have o1 := F.ok1 i (by omega)
      have hA := F.some_ (by omega)
      have hP : (2305843009213693951 : UInt64).toNat = 2305843009213693951 := rfl
      have good := okSh_iff.2 (okAll_iff.1 hok _ (ix_mem (l := l) (i := i) (by omega)))
      obtain ⟨k1, k2, k3⟩ := okSh_iff.1 good
      have k2 : ¬ (2305843009213693951 : UInt64) ≤ (ix l i).1 := fun h => by have := UInt64.le_iff_toNat_le.1 h; omega
      have k3 : ¬ (2305843009213693951 : UInt64) ≤ (ix l i).2 := fun h => by have := UInt64.le_iff_toNat_le.1 h; omega
      simp (config := { maxSteps := 1000000 }) only [hlt, i0, c0, c1, o0, o1, hA, pAdd_zero, pAdd_add, pAdd_isSome, k1, k2, k3, undef, push_cast, ↓Int.toNat_natCast, ↓Int.cast_ofNat_Int, Int.cast_ofNat_Int, ↓reduceIte, reduceCtorEq, Nat.reduceEqDiff, Nat.reduceLT, Nat.reduceLeDiff, Nat.reduceAdd, Nat.reduceSub, Nat.reduceMul, Int.reduceNeg, Int.reduceLE, Int.reduceLT, Int.reduceToNat, Int.reduceAdd, Int.reduceSub, Int.reduceMul, Int.reduceEq]
      (repeat (refine And.intro (by first | omega | decide) ?_))
      refine loopK_normal (i + 1) [] ⟨by omega, fun j h => ?_⟩ (by omega) ?_
      · by_cases e : j = i
        · rw [e]; exact good
        · exact hj j (by omega)
      · simp (config := { maxSteps := 1000000 }) only [push_cast, ↓Int.toNat_natCast, ↓Int.cast_ofNat_Int, Int.cast_ofNat_Int, ↓reduceIte, reduceCtorEq, Nat.reduceEqDiff, Nat.reduceLT, Nat.reduceLeDiff, Nat.reduceAdd, Nat.reduceSub, Nat.reduceMul, Int.reduceNeg, Int.reduceLE, Int.reduceLT, Int.reduceToNat, Int.reduceAdd, Int.reduceSub, Int.reduceMul, Int.reduceEq]
    · clear hj hi
      simp (config := { maxSteps := 1000000 }) only [hlt, undef, push_cast, ↓Int.toNat_natCast, ↓Int.cast_ofNat_Int, Int.cast_ofNat_Int, ↓reduceIte, reduceCtorEq, Nat.reduceEqDiff, Nat.reduceLT, Nat.reduceLeDiff, Nat.reduceAdd, Nat.reduceSub, Nat.reduceMul, Int.reduceNeg, Int.reduceLE, Int.reduceLT, Int.reduceToNat, Int.reduceAdd, Int.reduceSub, Int.reduceMul, Int.reduceEq]
      (repeat (refine And.intro (by first | omega | decide) ?_))
      refine loop_ghostN 5 80 2 (.c []) (by omega) rfl rfl (by simp only [push_cast, ↓Int.toNat_natCast, ↓Int.cast_ofNat_Int, Int.cast_ofNat_Int, ↓reduceIte, reduceCtorEq, Nat.reduceEqDiff, Nat.reduceLT, Nat.reduceLeDiff, Nat.reduceAdd, Nat.reduceSub, Nat.reduceMul, Int.reduceNeg, Int.reduceLE, Int.reduceLT, Int.reduceToNat, Int.reduceAdd, Int.reduceSub, Int.reduceMul, Int.reduceEq]) ?_
      refine loop_rule (ι := Nat × List Sh) (fun p => ⟨[(0, (.x (.a (.v (.slice A l.length c))))), (5, .x (.a (.o 0))), (6, .x (.a (.v (.int .i64 p.1))))], [.onn 80 2 (.c (shc p.2))]⟩) (fun p => p.1 ≤ l.length ∧ p.2.Perm (l.take p.1) ∧ Up p.2) (fun p => l.length - p.1) (0, []) [0] ⟨by omega, List.Perm.refl _, List.Pairwise.nil⟩ ?_ ?_
      · simp (config := { maxSteps := 1000000 }) only [shc_nil, push_cast, ↓Int.toNat_natCast, ↓Int.cast_ofNat_Int, Int.cast_ofNat_Int, ↓reduceIte, reduceCtorEq, Nat.reduceEqDiff, Nat.reduceLT, Nat.reduceLeDiff, Nat.reduceAdd, Nat.reduceSub, Nat.reduceMul, Int.reduceNeg, Int.reduceLE, Int.reduceLT, Int.reduceToNat, Int.reduceAdd, Int.reduceSub, Int.reduceMul, Int.reduceEq]
      · rintro ⟨i, out⟩ ⟨hi, hperm, hup⟩
        dsimp only at hi hperm hup ⊢
        have hol : out.length = i := by
          have := hperm.length_eq
          rw [List.length_take] at this
          omega
        clear hlt
        by_cases hlt : (i : Int) < l.length
        · have i0 : (0 : Int) ≤ i := by omega
          have c0 := F.c0 i (by omega)
          have c1 := F.c1 i (by omega)
          have o0 := F.ok0 i (by omega)
          have o1 := F.ok1 i (by omega)
          have hA := F.some_ (by omega)
          simp (config := { maxSteps := 1000000 }) only [hlt, undef, push_cast, ↓Int.toNat_natCast, ↓Int.cast_ofNat_Int, Int.cast_ofNat_Int, ↓reduceIte, reduceCtorEq, Nat.reduceEqDiff, Nat.reduceLT, Nat.reduceLeDiff, Nat.reduceAdd, Nat.reduceSub, Nat.reduceMul, Int.reduceNeg, Int.reduceLE, Int.reduceLT, Int.reduceToNat, Int.reduceAdd, Int.reduceSub, Int.reduceMul, Int.reduceEq]
          (repeat (refine And.intro (by first | omega | decide) ?_))
          refine loop_rule (ι := Nat) (fun n => ⟨[(0, (.x (.a (.v (.slice A l.length c))))), (5, .x (.a (.o 0))), (6, .x (.a (.v (.int .i64 i)))), (7, .x (.a (.v (.int .i64 n))))], [.onn 80 2 (.c (shc out))]⟩) (fun n => n ≤ out.length ∧ ∀ j, j < n → (ix out j).1.toNat < (ix l i).1.toNat) (fun n => out.length - n) 0 [0] ⟨by omega, fun j h => absurd h (Nat.not_lt_zero _)⟩ ?_ ?_
          · simp (config := { maxSteps := 1000000 }) only [push_cast, ↓Int.toNat_natCast, ↓Int.cast_ofNat_Int, Int.cast_ofNat_Int, ↓reduceIte, reduceCtorEq, Nat.reduceEqDiff, Nat.reduceLT, Nat.reduceLeDiff, Nat.reduceAdd, Nat.reduceSub, Nat.reduceMul, Int.reduceNeg, Int.reduceLE, Int.reduceLT, Int.reduceToNat, Int.reduceAdd, Int.reduceSub, Int.reduceMul, Int.reduceEq]
          · rintro n ⟨hn, hnn⟩
            have n0 : (0 : Int) ≤ n := by omega
            simp (config := { maxSteps := 1000000 }) only [half2, undef, push_cast, ↓Int.toNat_natCast, ↓Int.cast_ofNat_Int, Int.cast_ofNat_Int, ↓reduceIte, reduceCtorEq, Nat.reduceEqDiff, Nat.reduceLT, Nat.reduceLeDiff, Nat.reduceAdd, Nat.reduceSub, Nat.reduceMul, Int.reduceNeg, Int.reduceLE, Int.reduceLT, Int.reduceToNat, Int.reduceAdd, Int.reduceSub, Int.reduceMul, Int.reduceEq]
            (repeat (refine And.intro (by first | omega | decide) ?_))
            refine draw_rule [(0, true), (1, true), (2, true), (3, true), (4, true), (5, true), (6, true), (7, true), (8, true), (9, true), (10, true), (11, true), (12, true), (13, true), (14, true), (15, true), (16, true)] (by kernel_rfl) (by kernel_rfl) rfl (by kernel_rfl) ?_
            by_cases hno : (n : Int) < out.length
            · have q0 := shc_get0 out n (by omega)
              have n1 : n < out.length := by omega
              have n2 : n * 2 < out.length * 2 := by omega
              by_cases hx : (ix out n).1 < (ix l i).1
              · simp (config := { maxSteps := 1000000 }) only [hlt, i0, c0, c1, o0, o1, hA, pAdd_zero, pAdd_add, pAdd_isSome, n0, hno, n1, n2, q0, hx, half2, undef, push_cast, ↓Int.toNat_natCast, ↓Int.cast_ofNat_Int, Int.cast_ofNat_Int, ↓reduceIte, reduceCtorEq, Nat.reduceEqDiff, Nat.reduceLT, Nat.reduceLeDiff, Nat.reduceAdd, Nat.reduceSub, Nat.reduceMul, Int.reduceNeg, Int.reduceLE, Int.reduceLT, Int.reduceToNat, Int.reduceAdd, Int.reduceSub, Int.reduceMul, Int.reduceEq]
                (repeat (refine And.intro (by first | omega | decide) ?_))
                refine loopK_normal (n + 1) [0] ⟨by omega, fun j h => ?_⟩ (by omega) ?_
                · by_cases e : j = n
                  · rw [e]; exact UInt64.lt_iff_toNat_lt.1 hx
                  · exact hnn j (by omega)
                · simp (config := { maxSteps := 1000000 }) only [push_cast, ↓Int.toNat_natCast, ↓Int.cast_ofNat_Int, Int.cast_ofNat_Int, ↓reduceIte, reduceCtorEq, Nat.reduceEqDiff, Nat.reduceLT, Nat.reduceLeDiff, Nat.reduceAdd, Nat.reduceSub, Nat.reduceMul, Int.reduceNeg, Int.reduceLE, Int.reduceLT, Int.reduceToNat, Int.reduceAdd, Int.reduceSub, Int.reduceMul, Int.reduceEq]
              · simp (config := { maxSteps := 1000000 }) only [hlt, i0, c0, c1, o0, o1, hA, pAdd_zero, pAdd_add, pAdd_isSome, n0, hno, n1, n2, q0, hx, half2, undef, push_cast, ↓Int.toNat_natCast, ↓Int.cast_ofNat_Int, Int.cast_ofNat_Int, ↓reduceIte, reduceCtorEq, Nat.reduceEqDiff, Nat.reduceLT, Nat.reduceLeDiff, Nat.reduceAdd, Nat.reduceSub, Nat.reduceMul, Int.reduceNeg, Int.reduceLE, Int.reduceLT, Int.reduceToNat, Int.reduceAdd, Int.reduceSub, Int.reduceMul, Int.reduceEq]
                (repeat (refine And.intro (by first | omega | decide) ?_))
                refine draw_rule [(0, true), (1, true), (2, true), (3, true), (4, true), (5, true), (6, true), (7, true), (8, true), (9, true), (10, true), (11, true), (12, true), (13, true), (14, true), (15, true), (16, true)] (by kernel_rfl) (by kernel_rfl) rfl (by kernel_rfl) ?_
                by_cases he : (ix out n).1 = (ix l i).1
                · have nd := twice_not hperm (by omega) n1 he
                  exact absurd ((((sortP_perm l).map (·.1)).nodup_iff.1 (nodup_of hasc))) nd
                · simp (config := { maxSteps := 1000000 }) only [hlt, i0, c0, c1, o0, o1, hA, pAdd_zero, pAdd_add, pAdd_isSome, n0, hno, n1, n2, q0, he, half2, undef, push_cast, ↓Int.toNat_natCast, ↓Int.cast_ofNat_Int, Int.cast_ofNat_Int, ↓reduceIte, reduceCtorEq, Nat.reduceEqDiff, Nat.reduceLT, Nat.reduceLeDiff, Nat.reduceAdd, Nat.reduceSub, Nat.reduceMul, Int.reduceNeg, Int.reduceLE, Int.reduceLT, Int.reduceToNat, Int.reduceAdd, Int.reduceSub, Int.reduceMul, Int.reduceEq]
                  (repeat (refine And.intro (by first | omega | decide) ?_))
                  have hup2 := ins_up hup hn hnn fun _ => by
                    have h3 : ¬ (ix out n).1.toNat < (ix l i).1.toNat := fun h => hx (UInt64.lt_iff_toNat_lt.2 h)
                    have h4 : (ix out n).1.toNat ≠ (ix l i).1.toNat := fun h => he (UInt64.toNat_inj.1 h)
                    omega
                  have hpm := ins_perm (n := n) hperm (show i < l.length by omega); have hlen := hpm.length_eq; have hT := shc_cutT out n; have hD := shc_cut out n hn; have hsn : shc (out.take n) ++ [.v (vU64 (ix l i).1), .v (vU64 (ix l i).2)] = shc (out.take n ++ [ix l i]) := (shc_snoc (out.take n) (ix l i).1 (ix l i).2); have hap := (shc_app (out.take n ++ [ix l i]) (out.drop n)).symm; have e5 : (out.take n).length = n := take_len hn; have e6 : ((out.length : Int) - n).toNat = out.length - n := (by omega); have e7 : n + (out.length - n) = out.length := (by omega); have n3 : (n : Int) ≤ out.length := (by omega); have n4 : n * 2 ≤ out.length * 2 := (by omega); have d1 := shc_len out; generalize out.take n ++ [ix l i] ++ out.drop n = new at *; refine drawV_rule 1 [] (.rd 0 (.rd 1 (.rd 2 (.rd 3 (.rd 5 (.rd 6 (.rd 7 (.rd 8 (.rd 11 (.rd 12 (.rd 13 (.fk 4 (.wr 9 (.wr 10 (.wr 14 (.rd 15 .nil)))) 9 (.wr 4 (.wr 10 (.wr 14 (.rd 15 .nil)))))))))))))))) ⟨[(0, (.x (.a (.v (.slice A l.length c))))), (5, .x (.a (.o 0))), (6, .x (.a (.v (.int .i64 i))))], [.onn 80 2 (.c (shc new))]⟩ (by kernel_rfl) (by kernel_rfl) (by kernel_rfl) (Nat.le_add_left 1 0) ?_ ?_
                  · simp (config := { maxSteps := 1000000 }) only [i0, c0, c1, o0, o1, hA, n0, n3, n4, hT, hD, hsn, hap, e5, e6, e7, half2, Nat.sub_zero, pAdd_zero, pAdd_add, pAdd_isSome, hlt, undef, push_cast, ↓Int.toNat_natCast, ↓Int.cast_ofNat_Int, Int.cast_ofNat_Int, ↓reduceIte, reduceCtorEq, Nat.reduceEqDiff, Nat.reduceLT, Nat.reduceLeDiff, Nat.reduceAdd, Nat.reduceSub, Nat.reduceMul, Int.reduceNeg, Int.reduceLE, Int.reduceLT, Int.reduceToNat, Int.reduceAdd, Int.reduceSub, Int.reduceMul, Int.reduceEq]; (repeat (refine And.intro (by first | omega | decide) ?_))
                    repeat' refine And.intro ?_ ?_
                    all_goals first | omega | (refine leads_le [4] ?_; (simp (config := { maxSteps := 1000000 }) only [push_cast, ↓Int.toNat_natCast, ↓Int.cast_ofNat_Int, Int.cast_ofNat_Int, ↓reduceIte, reduceCtorEq, Nat.reduceEqDiff, Nat.reduceLT, Nat.reduceLeDiff, Nat.reduceAdd, Nat.reduceSub, Nat.reduceMul, Int.reduceNeg, Int.reduceLE, Int.reduceLT, Int.reduceToNat, Int.reduceAdd, Int.reduceSub, Int.reduceMul, Int.reduceEq]); done)
                  · simp (config := { maxSteps := 1000000 }) only [undef, push_cast, ↓Int.toNat_natCast, ↓Int.cast_ofNat_Int, Int.cast_ofNat_Int, ↓reduceIte, reduceCtorEq, Nat.reduceEqDiff, Nat.reduceLT, Nat.reduceLeDiff, Nat.reduceAdd, Nat.reduceSub, Nat.reduceMul, Int.reduceNeg, Int.reduceLE, Int.reduceLT, Int.reduceToNat, Int.reduceAdd, Int.reduceSub, Int.reduceMul, Int.reduceEq]
                    (repeat (refine And.intro (by first | omega | decide) ?_))
                    refine loopK_normal (i + 1, new) [0] ⟨by show i + 1 ≤ _; omega, hpm, hup2⟩ (by show l.length - (i + 1) < l.length - i; omega) ?_
                    simp (config := { maxSteps := 1000000 }) only [push_cast, ↓Int.toNat_natCast, ↓Int.cast_ofNat_Int, Int.cast_ofNat_Int, ↓reduceIte, reduceCtorEq, Nat.reduceEqDiff, Nat.reduceLT, Nat.reduceLeDiff, Nat.reduceAdd, Nat.reduceSub, Nat.reduceMul, Int.reduceNeg, Int.reduceLE, Int.reduceLT, Int.reduceToNat, Int.reduceAdd, Int.reduceSub, Int.reduceMul, Int.reduceEq]
            · have e : n = out.length := by omega
              simp (config := { maxSteps := 1000000 }) only [hlt, i0, c0, c1, o0, o1, hA, pAdd_zero, pAdd_add, pAdd_isSome, n0, hno, half2, undef, push_cast, ↓Int.toNat_natCast, ↓Int.cast_ofNat_Int, Int.cast_ofNat_Int, ↓reduceIte, reduceCtorEq, Nat.reduceEqDiff, Nat.reduceLT, Nat.reduceLeDiff, Nat.reduceAdd, Nat.reduceSub, Nat.reduceMul, Int.reduceNeg, Int.reduceLE, Int.reduceLT, Int.reduceToNat, Int.reduceAdd, Int.reduceSub, Int.reduceMul, Int.reduceEq]
              (repeat (refine And.intro (by first | omega | decide) ?_))
              refine draw_rule [(0, true), (1, true), (2, true), (3, true), (4, true), (5, true), (6, true), (7, true), (8, true), (9, true), (10, true), (11, true), (12, true), (13, true), (14, true), (15, true), (16, true)] (by kernel_rfl) (by kernel_rfl) rfl (by kernel_rfl) ?_
              simp (config := { maxSteps := 1000000 }) only [hlt, i0, c0, c1, o0, o1, hA, pAdd_zero, pAdd_add, pAdd_isSome, n0, hno, half2, undef, push_cast, ↓Int.toNat_natCast, ↓Int.cast_ofNat_Int, Int.cast_ofNat_Int, ↓reduceIte, reduceCtorEq, Nat.reduceEqDiff, Nat.reduceLT, Nat.reduceLeDiff, Nat.reduceAdd, Nat.reduceSub, Nat.reduceMul, Int.reduceNeg, Int.reduceLE, Int.reduceLT, Int.reduceToNat, Int.reduceAdd, Int.reduceSub, Int.reduceMul, Int.reduceEq]
              (repeat (refine And.intro (by first | omega | decide) ?_))
              have hup2 := ins_up (s := ix l i) hup hn hnn fun h => by omega
              have hpm := ins_perm (n := n) hperm (show i < l.length by omega); have hlen := hpm.length_eq; have hT := shc_cutT out n; have hD := shc_cut out n hn; have hsn : shc (out.take n) ++ [.v (vU64 (ix l i).1), .v (vU64 (ix l i).2)] = shc (out.take n ++ [ix l i]) := (shc_snoc (out.take n) (ix l i).1 (ix l i).2); have hap := (shc_app (out.take n ++ [ix l i]) (out.drop n)).symm; have e5 : (out.take n).length = n := take_len hn; have e6 : ((out.length : Int) - n).toNat = out.length - n := (by omega); have e7 : n + (out.length - n) = out.length := (by omega); have n3 : (n : Int) ≤ out.length := (by omega); have n4 : n * 2 ≤ out.length * 2 := (by omega); have d1 := shc_len out; generalize out.take n ++ [ix l i] ++ out.drop n = new at *; refine drawV_rule 1 [] (.rd 0 (.rd 1 (.rd 2 (.rd 3 (.rd 5 (.rd 6 (.rd 7 (.rd 8 (.rd 11 (.rd 12 (.rd 13 (.fk 4 (.wr 9 (.wr 10 (.wr 14 (.rd 15 .nil)))) 9 (.wr 4 (.wr 10 (.wr 14 (.rd 15 .nil)))))))))))))))) ⟨[(0, (.x (.a (.v (.slice A l.length c))))), (5, .x (.a (.o 0))), (6, .x (.a (.v (.int .i64 i))))], [.onn 80 2 (.c (shc new))]⟩ (by kernel_rfl) (by kernel_rfl) (by kernel_rfl) (Nat.le_add_left 1 0) ?_ ?_
              · simp (config := { maxSteps := 1000000 }) only [i0, c0, c1, o0, o1, hA, n0, n3, n4, hT, hD, hsn, hap, e5, e6, e7, half2, Nat.sub_zero, pAdd_zero, pAdd_add, pAdd_isSome, hlt, undef, push_cast, ↓Int.toNat_natCast, ↓Int.cast_ofNat_Int, Int.cast_ofNat_Int, ↓reduceIte, reduceCtorEq, Nat.reduceEqDiff, Nat.reduceLT, Nat.reduceLeDiff, Nat.reduceAdd, Nat.reduceSub, Nat.reduceMul, Int.reduceNeg, Int.reduceLE, Int.reduceLT, Int.reduceToNat, Int.reduceAdd, Int.reduceSub, Int.reduceMul, Int.reduceEq]; (repeat (refine And.intro (by first | omega | decide) ?_))
                repeat' refine And.intro ?_ ?_
                all_goals first | omega | (refine leads_le [4] ?_; (simp (config := { maxSteps := 1000000 }) only [push_cast, ↓Int.toNat_natCast, ↓Int.cast_ofNat_Int, Int.cast_ofNat_Int, ↓reduceIte, reduceCtorEq, Nat.reduceEqDiff, Nat.reduceLT, Nat.reduceLeDiff, Nat.reduceAdd, Nat.reduceSub, Nat.reduceMul, Int.reduceNeg, Int.reduceLE, Int.reduceLT, Int.reduceToNat, Int.reduceAdd, Int.reduceSub, Int.reduceMul, Int.reduceEq]); done)
              · simp (config := { maxSteps := 1000000 }) only [undef, push_cast, ↓Int.toNat_natCast, ↓Int.cast_ofNat_Int, Int.cast_ofNat_Int, ↓reduceIte, reduceCtorEq, Nat.reduceEqDiff, Nat.reduceLT, Nat.reduceLeDiff, Nat.reduceAdd, Nat.reduceSub, Nat.reduceMul, Int.reduceNeg, Int.reduceLE, Int.reduceLT, Int.reduceToNat, Int.reduceAdd, Int.reduceSub, Int.reduceMul, Int.reduceEq]
                (repeat (refine And.intro (by first | omega | decide) ?_))
                refine loopK_normal (i + 1, new) [0] ⟨by show i + 1 ≤ _; omega, hpm, hup2⟩ (by show l.length - (i + 1) < l.length - i; omega) ?_
                simp (config := { maxSteps := 1000000 }) only [push_cast, ↓Int.toNat_natCast, ↓Int.cast_ofNat_Int, Int.cast_ofNat_Int, ↓reduceIte, reduceCtorEq, Nat.reduceEqDiff, Nat.reduceLT, Nat.reduceLeDiff, Nat.reduceAdd, Nat.reduceSub, Nat.reduceMul, Int.reduceNeg, Int.reduceLE, Int.reduceLT, Int.reduceToNat, Int.reduceAdd, Int.reduceSub, Int.reduceMul, Int.reduceEq]
        · have e : i = l.length := by omega
          subst e
          rw [List.take_length] at hperm
          have hso := sort_one hperm hup
          rw [hso]
          simp (config := { maxSteps := 1000000 }) only [hlt, undef, push_cast, ↓Int.toNat_natCast, ↓Int.cast_ofNat_Int, Int.cast_ofNat_Int, ↓reduceIte, reduceCtorEq, Nat.reduceEqDiff, Nat.reduceLT, Nat.reduceLeDiff, Nat.reduceAdd, Nat.reduceSub, Nat.reduceMul, Int.reduceNeg, Int.reduceLE, Int.reduceLT, Int.reduceToNat, Int.reduceAdd, Int.reduceSub, Int.reduceMul, Int.reduceEq]
          refine endsAs [0] ?_
          simp (config := { maxSteps := 1000000 }) only [push_cast, ↓Int.toNat_natCast, ↓Int.cast_ofNat_Int, Int.cast_ofNat_Int, ↓reduceIte, reduceCtorEq, Nat.reduceEqDiff, Nat.reduceLT, Nat.reduceLeDiff, Nat.reduceAdd, Nat.reduceSub, Nat.reduceMul, Int.reduceNeg, Int.reduceLE, Int.reduceLT, Int.reduceToNat, Int.reduceAdd, Int.reduceSub, Int.reduceMul, Int.reduceEq]
set_option maxRecDepth 100000 in
set_option maxHeartbeats 4000000 in
theorem rSorted_no (l : List Sh) (A : Option Addr) (c : Nat) (w : World) (hl : l.length ≤ 1000) (hs : ¬ sorE l = 0) (hc : l.length ≤ c) (hR : RdV w w.heap.size A (shs l)) :
    Calls Tryd.prog 40 #[.slice A l.length c] w fun e w' => e = .returned (.tuple #[.slice none 0 0, .int .i64 (sorE l)]) ∧ Below w.heap.size w w' := by
  have F := FS2.of hR
  refine calls_v (n := 98) Tryd.func40 rfl Tryd.ntmps40 [(.x (.a (.v (.slice A l.length c))))] (by simp) (.t [.a (.v (.slice none 0 0)), .a (.v (.int .i64 (sorE l)))]) (fun _ => rfl) ?_
  by_cases g1 : (64 : Int) < l.length
  · have e : sorE l = 1 := if_neg (by omega)
    simp (config := { maxSteps := 1000000 }) only [g1, e, undef, push_cast, ↓Int.toNat_natCast, ↓Int.cast_ofNat_Int, Int.cast_ofNat_Int, ↓reduceIte, reduceCtorEq, Nat.reduceEqDiff, Nat.reduceLT, Nat.reduceLeDiff, Nat.reduceAdd, Nat.reduceSub, Nat.reduceMul, Int.reduceNeg, Int.reduceLE, Int.reduceLT, Int.reduceToNat, Int.reduceAdd, Int.reduceSub, Int.reduceMul, Int.reduceEq]
  have h64 : l.length ≤ 64 := by omega
  have e0 : sorE l = if okAll l = true then (if asc (sortP l) = true then 0 else 8) else 1 := if_pos h64
  simp (config := { maxSteps := 1000000 }) only [g1, undef, push_cast, ↓Int.toNat_natCast, ↓Int.cast_ofNat_Int, Int.cast_ofNat_Int, ↓reduceIte, reduceCtorEq, Nat.reduceEqDiff, Nat.reduceLT, Nat.reduceLeDiff, Nat.reduceAdd, Nat.reduceSub, Nat.reduceMul, Int.reduceNeg, Int.reduceLE, Int.reduceLT, Int.reduceToNat, Int.reduceAdd, Int.reduceSub, Int.reduceMul, Int.reduceEq]
  (repeat (refine And.intro (by first | omega | decide) ?_))
  refine loop_rule (ι := Nat) (fun i => ⟨[(0, (.x (.a (.v (.slice A l.length c))))), (4, .x (.a (.v (.int .i64 i))))], []⟩) (fun i => i ≤ l.length ∧ ∀ j, j < i → okSh (ix l j) = true) (fun i => l.length - i) 0 [] ⟨by omega, fun j h => absurd h (Nat.not_lt_zero _)⟩ ?_ ?_
  · simp (config := { maxSteps := 1000000 }) only [push_cast, ↓Int.toNat_natCast, ↓Int.cast_ofNat_Int, Int.cast_ofNat_Int, ↓reduceIte, reduceCtorEq, Nat.reduceEqDiff, Nat.reduceLT, Nat.reduceLeDiff, Nat.reduceAdd, Nat.reduceSub, Nat.reduceMul, Int.reduceNeg, Int.reduceLE, Int.reduceLT, Int.reduceToNat, Int.reduceAdd, Int.reduceSub, Int.reduceMul, Int.reduceEq]
  · rintro i ⟨hi, hj⟩
    by_cases hlt : (i : Int) < l.length
    · have i0 : (0 : Int) ≤ i := by omega
      have c0 := F.c0 i (by omega)
      have c1 := F.c1 i (by omega)
      have o0 := F.ok0 i (by omega)
      have o1 := F.ok1 i (by omega)
      have hA := F.some_ (by omega)
      have hP : (2305843009213693951 : UInt64).toNat = 2305843009213693951 := rfl
      have bad : ¬ okSh (ix l i) = true → sorE l = 1 := fun h => by
        rw [e0, if_neg fun h2 => h (okSh_iff.2 (okAll_iff.1 h2 _ (ix_mem (by omega))))]
      by_cases k1 : (ix l i).1 = 0
      · have e := bad fun h => (okSh_iff.1 h).1 k1
        simp (config := { maxSteps := 1000000 }) only [hlt, i0, c0, c1, o0, o1, hA, pAdd_zero, pAdd_add, pAdd_isSome, k1, e, show n64 0 = 0 from rfl, undef, push_cast, ↓Int.toNat_natCast, ↓Int.cast_ofNat_Int, Int.cast_ofNat_Int, ↓reduceIte, reduceCtorEq, Nat.reduceEqDiff, Nat.reduceLT, Nat.reduceLeDiff, Nat.reduceAdd, Nat.reduceSub, Nat.reduceMul, Int.reduceNeg, Int.reduceLE, Int.reduceLT, Int.reduceToNat, Int.reduceAdd, Int.reduceSub, Int.reduceMul, Int.reduceEq]
      by_cases k2 : (2305843009213693951 : UInt64) ≤ (ix l i).1
      · have e := bad fun h => by have := (okSh_iff.1 h).2.1; have := UInt64.le_iff_toNat_le.1 k2; omega
        simp (config := { maxSteps := 1000000 }) only [hlt, i0, c0, c1, o0, o1, hA, pAdd_zero, pAdd_add, pAdd_isSome, k1, k2, e, undef, push_cast, ↓Int.toNat_natCast, ↓Int.cast_ofNat_Int, Int.cast_ofNat_Int, ↓reduceIte, reduceCtorEq, Nat.reduceEqDiff, Nat.reduceLT, Nat.reduceLeDiff, Nat.reduceAdd, Nat.reduceSub, Nat.reduceMul, Int.reduceNeg, Int.reduceLE, Int.reduceLT, Int.reduceToNat, Int.reduceAdd, Int.reduceSub, Int.reduceMul, Int.reduceEq]
      by_cases k3 : (2305843009213693951 : UInt64) ≤ (ix l i).2
      · have e := bad fun h => by have := (okSh_iff.1 h).2.2; have := UInt64.le_iff_toNat_le.1 k3; omega
        simp (config := { maxSteps := 1000000 }) only [hlt, i0, c0, c1, o0, o1, hA, pAdd_zero, pAdd_add, pAdd_isSome, k1, k2, k3, e, undef, push_cast, ↓Int.toNat_natCast, ↓Int.cast_ofNat_Int, Int.cast_ofNat_Int, ↓reduceIte, reduceCtorEq, Nat.reduceEqDiff, Nat.reduceLT, Nat.reduceLeDiff, Nat.reduceAdd, Nat.reduceSub, Nat.reduceMul, Int.reduceNeg, Int.reduceLE, Int.reduceLT, Int.reduceToNat, Int.reduceAdd, Int.reduceSub, Int.reduceMul, Int.reduceEq]
      have good : okSh (ix l i) = true := okSh_iff.2 ⟨k1, by rw [UInt64.le_iff_toNat_le] at k2; omega, by rw [UInt64.le_iff_toNat_le] at k3; omega⟩
      simp (config := { maxSteps := 1000000 }) only [hlt, i0, c0, c1, o0, o1, hA, pAdd_zero, pAdd_add, pAdd_isSome, k1, k2, k3, undef, push_cast, ↓Int.toNat_natCast, ↓Int.cast_ofNat_Int, Int.cast_ofNat_Int, ↓reduceIte, reduceCtorEq, Nat.reduceEqDiff, Nat.reduceLT, Nat.reduceLeDiff, Nat.reduceAdd, Nat.reduceSub, Nat.reduceMul, Int.reduceNeg, Int.reduceLE, Int.reduceLT, Int.reduceToNat, Int.reduceAdd, Int.reduceSub, Int.reduceMul, Int.reduceEq]
      (repeat (refine And.intro (by first | omega | decide) ?_))
      refine loopK_normal (i + 1) [] ⟨by omega, fun j h => ?_⟩ (by omega) ?_
      · by_cases e : j = i
        · rw [e]; exact good
        · exact hj j (by omega)
      · simp (config := { maxSteps := 1000000 }) only [push_cast, ↓Int.toNat_natCast, ↓Int.cast_ofNat_Int, Int.cast_ofNat_Int, ↓reduceIte, reduceCtorEq, Nat.reduceEqDiff, Nat.reduceLT, Nat.reduceLeDiff, Nat.reduceAdd, Nat.reduceSub, Nat.reduceMul, Int.reduceNeg, Int.reduceLE, Int.reduceLT, Int.reduceToNat, Int.reduceAdd, Int.reduceSub, Int.reduceMul, Int.reduceEq]
    · have hok : okAll l = true := by
        unfold okAll
        rw [List.all_eq_true]
        intro s hs
        obtain ⟨j, hjl, rfl⟩ := List.mem_iff_getElem.1 hs
        have := hj j (by omega)
        rwa [ix_get hjl] at this
      clear hj hi
      simp (config := { maxSteps := 1000000 }) only [hlt, undef, push_cast, ↓Int.toNat_natCast, ↓Int.cast_ofNat_Int, Int.cast_ofNat_Int, ↓reduceIte, reduceCtorEq, Nat.reduceEqDiff, Nat.reduceLT, Nat.reduceLeDiff, Nat.reduceAdd, Nat.reduceSub, Nat.reduceMul, Int.reduceNeg, Int.reduceLE, Int.reduceLT, Int.reduceToNat, Int.reduceAdd, Int.reduceSub, Int.reduceMul, Int.reduceEq]
      (repeat (refine And.intro (by first | omega | decide) ?_))
      refine loop_ghostN 5 80 2 (.c []) (by omega) rfl rfl (by simp only [push_cast, ↓Int.toNat_natCast, ↓Int.cast_ofNat_Int, Int.cast_ofNat_Int, ↓reduceIte, reduceCtorEq, Nat.reduceEqDiff, Nat.reduceLT, Nat.reduceLeDiff, Nat.reduceAdd, Nat.reduceSub, Nat.reduceMul, Int.reduceNeg, Int.reduceLE, Int.reduceLT, Int.reduceToNat, Int.reduceAdd, Int.reduceSub, Int.reduceMul, Int.reduceEq]) ?_
      refine loop_rule (ι := Nat × List Sh) (fun p => ⟨[(0, (.x (.a (.v (.slice A l.length c))))), (5, .x (.a (.o 0))), (6, .x (.a (.v (.int .i64 p.1))))], [.onn 80 2 (.c (shc p.2))]⟩) (fun p => p.1 ≤ l.length ∧ p.2.Perm (l.take p.1) ∧ Up p.2) (fun p => l.length - p.1) (0, []) [0] ⟨by omega, List.Perm.refl _, List.Pairwise.nil⟩ ?_ ?_
      · simp (config := { maxSteps := 1000000 }) only [shc_nil, push_cast, ↓Int.toNat_natCast, ↓Int.cast_ofNat_Int, Int.cast_ofNat_Int, ↓reduceIte, reduceCtorEq, Nat.reduceEqDiff, Nat.reduceLT, Nat.reduceLeDiff, Nat.reduceAdd, Nat.reduceSub, Nat.reduceMul, Int.reduceNeg, Int.reduceLE, Int.reduceLT, Int.reduceToNat, Int.reduceAdd, Int.reduceSub, Int.reduceMul, Int.reduceEq]
      · rintro ⟨i, out⟩ ⟨hi, hperm, hup⟩
        dsimp only at hi hperm hup ⊢
        have hol : out.length = i := by
          have := hperm.length_eq
          rw [List.length_take] at this
          omega
        clear hlt
        by_cases hlt : (i : Int) < l.length
        · have i0 : (0 : Int) ≤ i := by omega
          have c0 := F.c0 i (by omega)
          have c1 := F.c1 i (by omega)
          have o0 := F.ok0 i (by omega)
          have o1 := F.ok1 i (by omega)
          have hA := F.some_ (by omega)
          simp (config := { maxSteps := 1000000 }) only [hlt, undef, push_cast, ↓Int.toNat_natCast, ↓Int.cast_ofNat_Int, Int.cast_ofNat_Int, ↓reduceIte, reduceCtorEq, Nat.reduceEqDiff, Nat.reduceLT, Nat.reduceLeDiff, Nat.reduceAdd, Nat.reduceSub, Nat.reduceMul, Int.reduceNeg, Int.reduceLE, Int.reduceLT, Int.reduceToNat, Int.reduceAdd, Int.reduceSub, Int.reduceMul, Int.reduceEq]
          (repeat (refine And.intro (by first | omega | decide) ?_))
          refine loop_rule (ι := Nat) (fun n => ⟨[(0, (.x (.a (.v (.slice A l.length c))))), (5, .x (.a (.o 0))), (6, .x (.a (.v (.int .i64 i)))), (7, .x (.a (.v (.int .i64 n))))], [.onn 80 2 (.c (shc out))]⟩) (fun n => n ≤ out.length ∧ ∀ j, j < n → (ix out j).1.toNat < (ix l i).1.toNat) (fun n => out.length - n) 0 [0] ⟨by omega, fun j h => absurd h (Nat.not_lt_zero _)⟩ ?_ ?_
          · simp (config := { maxSteps := 1000000 }) only [push_cast, ↓Int.toNat_natCast, ↓Int.cast_ofNat_Int, Int.cast_ofNat_Int, ↓reduceIte, reduceCtorEq, Nat.reduceEqDiff, Nat.reduceLT, Nat.reduceLeDiff, Nat.reduceAdd, Nat.reduceSub, Nat.reduceMul, Int.reduceNeg, Int.reduceLE, Int.reduceLT, Int.reduceToNat, Int.reduceAdd, Int.reduceSub, Int.reduceMul, Int.reduceEq]
          · rintro n ⟨hn, hnn⟩
            have n0 : (0 : Int) ≤ n := by omega
            simp (config := { maxSteps := 1000000 }) only [half2, undef, push_cast, ↓Int.toNat_natCast, ↓Int.cast_ofNat_Int, Int.cast_ofNat_Int, ↓reduceIte, reduceCtorEq, Nat.reduceEqDiff, Nat.reduceLT, Nat.reduceLeDiff, Nat.reduceAdd, Nat.reduceSub, Nat.reduceMul, Int.reduceNeg, Int.reduceLE, Int.reduceLT, Int.reduceToNat, Int.reduceAdd, Int.reduceSub, Int.reduceMul, Int.reduceEq]
            (repeat (refine And.intro (by first | omega | decide) ?_))
            refine draw_rule [(0, true), (1, true), (2, true), (3, true), (4, true), (5, true), (6, true), (7, true), (8, true), (9, true), (10, true), (11, true), (12, true), (13, true), (14, true), (15, true), (16, true)] (by kernel_rfl) (by kernel_rfl) rfl (by kernel_rfl) ?_
            by_cases hno : (n : Int) < out.length
            · have q0 := shc_get0 out n (by omega)
              have n1 : n < out.length := by omega
              have n2 : n * 2 < out.length * 2 := by omega
              by_cases hx : (ix out n).1 < (ix l i).1
              · simp (config := { maxSteps := 1000000 }) only [hlt, i0, c0, c1, o0, o1, hA, pAdd_zero, pAdd_add, pAdd_isSome, n0, hno, n1, n2, q0, hx, half2, undef, push_cast, ↓Int.toNat_natCast, ↓Int.cast_ofNat_Int, Int.cast_ofNat_Int, ↓reduceIte, reduceCtorEq, Nat.reduceEqDiff, Nat.reduceLT, Nat.reduceLeDiff, Nat.reduceAdd, Nat.reduceSub, Nat.reduceMul, Int.reduceNeg, Int.reduceLE, Int.reduceLT, Int.reduceToNat, Int.reduceAdd, Int.reduceSub, Int.reduceMul, Int.reduceEq]
                (repeat (refine And.intro (by first | omega | decide) ?_))
                refine loopK_normal (n + 1) [0] ⟨by omega, fun j h => ?_⟩ (by omega) ?_
                · by_cases e : j = n
                  · rw [e]; exact UInt64.lt_iff_toNat_lt.1 hx
                  · exact hnn j (by omega)
                · simp (config := { maxSteps := 1000000 }) only [push_cast, ↓Int.toNat_natCast, ↓Int.cast_ofNat_Int, Int.cast_ofNat_Int, ↓reduceIte, reduceCtorEq, Nat.reduceEqDiff, Nat.reduceLT, Nat.reduceLeDiff, Nat.reduceAdd, Nat.reduceSub, Nat.reduceMul, Int.reduceNeg, Int.reduceLE, Int.reduceLT, Int.reduceToNat, Int.reduceAdd, Int.reduceSub, Int.reduceMul, Int.reduceEq]
              · simp (config := { maxSteps := 1000000 }) only [hlt, i0, c0, c1, o0, o1, hA, pAdd_zero, pAdd_add, pAdd_isSome, n0, hno, n1, n2, q0, hx, half2, undef, push_cast, ↓Int.toNat_natCast, ↓Int.cast_ofNat_Int, Int.cast_ofNat_Int, ↓reduceIte, reduceCtorEq, Nat.reduceEqDiff, Nat.reduceLT, Nat.reduceLeDiff, Nat.reduceAdd, Nat.reduceSub, Nat.reduceMul, Int.reduceNeg, Int.reduceLE, Int.reduceLT, Int.reduceToNat, Int.reduceAdd, Int.reduceSub, Int.reduceMul, Int.reduceEq]
                (repeat (refine And.intro (by first | omega | decide) ?_))
                refine draw_rule [(0, true), (1, true), (2, true), (3, true), (4, true), (5, true), (6, true), (7, true), (8, true), (9, true), (10, true), (11, true), (12, true), (13, true), (14, true), (15, true), (16, true)] (by kernel_rfl) (by kernel_rfl) rfl (by kernel_rfl) ?_
                by_cases he : (ix out n).1 = (ix l i).1
                · have nd := twice_not hperm (by omega) n1 he
                  have e := sor_twice h64 hok nd
                  simp (config := { maxSteps := 1000000 }) only [hlt, i0, c0, c1, o0, o1, hA, pAdd_zero, pAdd_add, pAdd_isSome, n0, hno, n1, n2, q0, he, e, half2, undef, push_cast, ↓Int.toNat_natCast, ↓Int.cast_ofNat_Int, Int.cast_ofNat_Int, ↓reduceIte, reduceCtorEq, Nat.reduceEqDiff, Nat.reduceLT, Nat.reduceLeDiff, Nat.reduceAdd, Nat.reduceSub, Nat.reduceMul, Int.reduceNeg, Int.reduceLE, Int.reduceLT, Int.reduceToNat, Int.reduceAdd, Int.reduceSub, Int.reduceMul, Int.reduceEq]
                · simp (config := { maxSteps := 1000000 }) only [hlt, i0, c0, c1, o0, o1, hA, pAdd_zero, pAdd_add, pAdd_isSome, n0, hno, n1, n2, q0, he, half2, undef, push_cast, ↓Int.toNat_natCast, ↓Int.cast_ofNat_Int, Int.cast_ofNat_Int, ↓reduceIte, reduceCtorEq, Nat.reduceEqDiff, Nat.reduceLT, Nat.reduceLeDiff, Nat.reduceAdd, Nat.reduceSub, Nat.reduceMul, Int.reduceNeg, Int.reduceLE, Int.reduceLT, Int.reduceToNat, Int.reduceAdd, Int.reduceSub, Int.reduceMul, Int.reduceEq]
                  (repeat (refine And.intro (by first | omega | decide) ?_))
                  have hup2 := ins_up hup hn hnn fun _ => by
                    have h3 : ¬ (ix out n).1.toNat < (ix l i).1.toNat := fun h => hx (UInt64.lt_iff_toNat_lt.2 h)
                    have h4 : (ix out n).1.toNat ≠ (ix l i).1.toNat := fun h => he (UInt64.toNat_inj.1 h)
                    omega
                  have hpm := ins_perm (n := n) hperm (show i < l.length by omega); have hlen := hpm.length_eq; have hT := shc_cutT out n; have hD := shc_cut out n hn; have hsn : shc (out.take n) ++ [.v (vU64 (ix l i).1), .v (vU64 (ix l i).2)] = shc (out.take n ++ [ix l i]) := (shc_snoc (out.take n) (ix l i).1 (ix l i).2); have hap := (shc_app (out.take n ++ [ix l i]) (out.drop n)).symm; have e5 : (out.take n).length = n := take_len hn; have e6 : ((out.length : Int) - n).toNat = out.length - n := (by omega); have e7 : n + (out.length - n) = out.length := (by omega); have n3 : (n : Int) ≤ out.length := (by omega); have n4 : n * 2 ≤ out.length * 2 := (by omega); have d1 := shc_len out; generalize out.take n ++ [ix l i] ++ out.drop n = new at *; refine drawV_rule 1 [] (.rd 0 (.rd 1 (.rd 2 (.rd 3 (.rd 5 (.rd 6 (.rd 7 (.rd 8 (.rd 11 (.rd 12 (.rd 13 (.fk 4 (.wr 9 (.wr 10 (.wr 14 (.rd 15 .nil)))) 9 (.wr 4 (.wr 10 (.wr 14 (.rd 15 .nil)))))))))))))))) ⟨[(0, (.x (.a (.v (.slice A l.length c))))), (5, .x (.a (.o 0))), (6, .x (.a (.v (.int .i64 i))))], [.onn 80 2 (.c (shc new))]⟩ (by kernel_rfl) (by kernel_rfl) (by kernel_rfl) (Nat.le_add_left 1 0) ?_ ?_
                  · simp (config := { maxSteps := 1000000 }) only [i0, c0, c1, o0, o1, hA, n0, n3, n4, hT, hD, hsn, hap, e5, e6, e7, half2, Nat.sub_zero, pAdd_zero, pAdd_add, pAdd_isSome, hlt, undef, push_cast, ↓Int.toNat_natCast, ↓Int.cast_ofNat_Int, Int.cast_ofNat_Int, ↓reduceIte, reduceCtorEq, Nat.reduceEqDiff, Nat.reduceLT, Nat.reduceLeDiff, Nat.reduceAdd, Nat.reduceSub, Nat.reduceMul, Int.reduceNeg, Int.reduceLE, Int.reduceLT, Int.reduceToNat, Int.reduceAdd, Int.reduceSub, Int.reduceMul, Int.reduceEq]; (repeat (refine And.intro (by first | omega | decide) ?_))
                    repeat' refine And.intro ?_ ?_
                    all_goals first | omega | (refine leads_le [4] ?_; (simp (config := { maxSteps := 1000000 }) only [push_cast, ↓Int.toNat_natCast, ↓Int.cast_ofNat_Int, Int.cast_ofNat_Int, ↓reduceIte, reduceCtorEq, Nat.reduceEqDiff, Nat.reduceLT, Nat.reduceLeDiff, Nat.reduceAdd, Nat.reduceSub, Nat.reduceMul, Int.reduceNeg, Int.reduceLE, Int.reduceLT, Int.reduceToNat, Int.reduceAdd, Int.reduceSub, Int.reduceMul, Int.reduceEq]); done)
                  · simp (config := { maxSteps := 1000000 }) only [undef, push_cast, ↓Int.toNat_natCast, ↓Int.cast_ofNat_Int, Int.cast_ofNat_Int, ↓reduceIte, reduceCtorEq, Nat.reduceEqDiff, Nat.reduceLT, Nat.reduceLeDiff, Nat.reduceAdd, Nat.reduceSub, Nat.reduceMul, Int.reduceNeg, Int.reduceLE, Int.reduceLT, Int.reduceToNat, Int.reduceAdd, Int.reduceSub, Int.reduceMul, Int.reduceEq]
                    (repeat (refine And.intro (by first | omega | decide) ?_))
                    refine loopK_normal (i + 1, new) [0] ⟨by show i + 1 ≤ _; omega, hpm, hup2⟩ (by show l.length - (i + 1) < l.length - i; omega) ?_
                    simp (config := { maxSteps := 1000000 }) only [push_cast, ↓Int.toNat_natCast, ↓Int.cast_ofNat_Int, Int.cast_ofNat_Int, ↓reduceIte, reduceCtorEq, Nat.reduceEqDiff, Nat.reduceLT, Nat.reduceLeDiff, Nat.reduceAdd, Nat.reduceSub, Nat.reduceMul, Int.reduceNeg, Int.reduceLE, Int.reduceLT, Int.reduceToNat, Int.reduceAdd, Int.reduceSub, Int.reduceMul, Int.reduceEq]
            · have e : n = out.length := by omega
              simp (config := { maxSteps := 1000000 }) only [hlt, i0, c0, c1, o0, o1, hA, pAdd_zero, pAdd_add, pAdd_isSome, n0, hno, half2, undef, push_cast, ↓Int.toNat_natCast, ↓Int.cast_ofNat_Int, Int.cast_ofNat_Int, ↓reduceIte, reduceCtorEq, Nat.reduceEqDiff, Nat.reduceLT, Nat.reduceLeDiff, Nat.reduceAdd, Nat.reduceSub, Nat.reduceMul, Int.reduceNeg, Int.reduceLE, Int.reduceLT, Int.reduceToNat, Int.reduceAdd, Int.reduceSub, Int.reduceMul, Int.reduceEq]
              (repeat (refine And.intro (by first | omega | decide) ?_))
              refine draw_rule [(0, true), (1, true), (2, true), (3, true), (4, true), (5, true), (6, true), (7, true), (8, true), (9, true), (10, true), (11, true), (12, true), (13, true), (14, true), (15, true), (16, true)] (by kernel_rfl) (by kernel_rfl) rfl (by kernel_rfl) ?_
              simp (config := { maxSteps := 1000000 }) only [hlt, i0, c0, c1, o0, o1, hA, pAdd_zero, pAdd_add, pAdd_isSome, n0, hno, half2, undef, push_cast, ↓Int.toNat_natCast, ↓Int.cast_ofNat_Int, Int.cast_ofNat_Int, ↓reduceIte, reduceCtorEq, Nat.reduceEqDiff, Nat.reduceLT, Nat.reduceLeDiff, Nat.reduceAdd, Nat.reduceSub, Nat.reduceMul, Int.reduceNeg, Int.reduceLE, Int.reduceLT, Int.reduceToNat, Int.reduceAdd, Int.reduceSub, Int.reduceMul, Int.reduceEq]
              (repeat (refine And.intro (by first | omega | decide) ?_))
              have hup2 := ins_up (s := ix l i) hup hn hnn fun h => by omega
              have hpm := ins_perm (n := n) hperm (show i < l.length by omega); have hlen := hpm.length_eq; have hT := shc_cutT out n; have hD := shc_cut out n hn; have hsn : shc (out.take n) ++ [.v (vU64 (ix l i).1), .v (vU64 (ix l i).2)] = shc (out.take n ++ [ix l i]) := (shc_snoc (out.take n) (ix l i).1 (ix l i).2); have hap := (shc_app (out.take n ++ [ix l i]) (out.drop n)).symm; have e5 : (out.take n).length = n := take_len hn; have e6 : ((out.length : Int) - n).toNat = out.length - n := (by omega); have e7 : n + (out.length - n) = out.length := (by omega); have n3 : (n : Int) ≤ out.length := (by omega); have n4 : n * 2 ≤ out.length * 2 := (by omega); have d1 := shc_len out; generalize out.take n ++ [ix l i] ++ out.drop n = new at *; refine drawV_rule 1 [] (.rd 0 (.rd 1 (.rd 2 (.rd 3 (.rd 5 (.rd 6 (.rd 7 (.rd 8 (.rd 11 (.rd 12 (.rd 13 (.fk 4 (.wr 9 (.wr 10 (.wr 14 (.rd 15 .nil)))) 9 (.wr 4 (.wr 10 (.wr 14 (.rd 15 .nil)))))))))))))))) ⟨[(0, (.x (.a (.v (.slice A l.length c))))), (5, .x (.a (.o 0))), (6, .x (.a (.v (.int .i64 i))))], [.onn 80 2 (.c (shc new))]⟩ (by kernel_rfl) (by kernel_rfl) (by kernel_rfl) (Nat.le_add_left 1 0) ?_ ?_
              · simp (config := { maxSteps := 1000000 }) only [i0, c0, c1, o0, o1, hA, n0, n3, n4, hT, hD, hsn, hap, e5, e6, e7, half2, Nat.sub_zero, pAdd_zero, pAdd_add, pAdd_isSome, hlt, undef, push_cast, ↓Int.toNat_natCast, ↓Int.cast_ofNat_Int, Int.cast_ofNat_Int, ↓reduceIte, reduceCtorEq, Nat.reduceEqDiff, Nat.reduceLT, Nat.reduceLeDiff, Nat.reduceAdd, Nat.reduceSub, Nat.reduceMul, Int.reduceNeg, Int.reduceLE, Int.reduceLT, Int.reduceToNat, Int.reduceAdd, Int.reduceSub, Int.reduceMul, Int.reduceEq]; (repeat (refine And.intro (by first | omega | decide) ?_))
                repeat' refine And.intro ?_ ?_
                all_goals first | omega | (refine leads_le [4] ?_; (simp (config := { maxSteps := 1000000 }) only [push_cast, ↓Int.toNat_natCast, ↓Int.cast_ofNat_Int, Int.cast_ofNat_Int, ↓reduceIte, reduceCtorEq, Nat.reduceEqDiff, Nat.reduceLT, Nat.reduceLeDiff, Nat.reduceAdd, Nat.reduceSub, Nat.reduceMul, Int.reduceNeg, Int.reduceLE, Int.reduceLT, Int.reduceToNat, Int.reduceAdd, Int.reduceSub, Int.reduceMul, Int.reduceEq]); done)
              · simp (config := { maxSteps := 1000000 }) only [undef, push_cast, ↓Int.toNat_natCast, ↓Int.cast_ofNat_Int, Int.cast_ofNat_Int, ↓reduceIte, reduceCtorEq, Nat.reduceEqDiff, Nat.reduceLT, Nat.reduceLeDiff, Nat.reduceAdd, Nat.reduceSub, Nat.reduceMul, Int.reduceNeg, Int.reduceLE, Int.reduceLT, Int.reduceToNat, Int.reduceAdd, Int.reduceSub, Int.reduceMul, Int.reduceEq]
                (repeat (refine And.intro (by first | omega | decide) ?_))
                refine loopK_normal (i + 1, new) [0] ⟨by show i + 1 ≤ _; omega, hpm, hup2⟩ (by show l.length - (i + 1) < l.length - i; omega) ?_
                simp (config := { maxSteps := 1000000 }) only [push_cast, ↓Int.toNat_natCast, ↓Int.cast_ofNat_Int, Int.cast_ofNat_Int, ↓reduceIte, reduceCtorEq, Nat.reduceEqDiff, Nat.reduceLT, Nat.reduceLeDiff, Nat.reduceAdd, Nat.reduceSub, Nat.reduceMul, Int.reduceNeg, Int.reduceLE, Int.reduceLT, Int.reduceToNat, Int.reduceAdd, Int.reduceSub, Int.reduceMul, Int.reduceEq]
        · have e : i = l.length := by omega
          subst e
          rw [List.take_length] at hperm
          exact absurd (sor_done h64 hok hperm hup) hs
theorem rSortedOK {w0 : World} {hp : List Res} {sv : Sv} {l : List Sh} (hl : l.length ≤ 1000) (h : ShowsR w0 No hp sv l.length (shs l)) (hbr : ∀ r ∈ hp, Res.bnd hp.length r) :
    CallOK Tryd.prog w0 No 40 [sv] hp (.t [.a (.o hp.length), .a (.v (.int .i64 (sorE l)))]) (hp ++ [.onn 80 2 (.c (shc (sorL l)))]) := callOK_shT 80 hbr fun γ w hS => by
  obtain ⟨A, c, e1, b1, r1⟩ := h γ w hS
  show Calls _ _ #[sv.val γ] w _
  rw [e1]
  by_cases hs : sorE l = 0
  · have e : sorL l = sortP l := if_pos hs
    rw [e, hs]
    exact rSorted_yes l A c w hl hs b1 r1
  · have e : sorL l = [] := if_neg hs
    rw [e]
    exact nil_shs 80 (rSorted_no l A c w hl hs b1 r1)
/-- The program's, the same way. -/
theorem sortedAll {w0 : World} {hp : List Res} {sv : Sv} {l : List Sh} (hl : l.length ≤ 1000) (h : ShowsR w0 No hp sv l.length (shs l)) (hbr : ∀ r ∈ hp, Res.bnd hp.length r) :
    CallOK Tryd.prog w0 No 39 [sv] hp (.t [.a (.o hp.length), .a (.v (erS (sorE l)))]) (hp ++ [.onn 76 2 (.c (shc (sorL l)))]) := callOK_shT 76 hbr fun γ w hS => by
  obtain ⟨A, c, e1, b1, r1⟩ := h γ w hS
  show Calls _ _ #[sv.val γ] w _
  rw [e1]
  by_cases hs : sorE l = 0
  · have e : sorL l = sortP l := if_pos hs
    rw [e, hs]
    exact sorted_yes l A c w hs b1 r1
  · have e : sorL l = [] := if_neg hs
    rw [e, erS_ne hs]
    exact nil_shs 76 (sorted_no l A c w hl hs b1 r1)
end Go.Proofs.YteiifdpikcnbgaaDoor
