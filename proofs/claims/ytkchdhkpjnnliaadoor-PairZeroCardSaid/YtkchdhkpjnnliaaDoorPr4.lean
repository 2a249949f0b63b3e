/- Peers told as the program's (givePeers), and the sum of rows (vec.Sum). -/
import Derived.Test.YtkchdhkpjnnliaaDoorPr3
import Derived.Test.YtkchdhkpjnnliaaDoorGh
namespace Go.Proofs.YtkchdhkpjnnliaaDoor
open Go.RowKit
set_option linter.unusedSimpArgs false
def pcs (l : List Pr) : List At := l.flatMap fun p => [.v (.int .i64 p.1), .v (vU64 p.2)]
theorem pcs_nil : pcs [] = [] := rfl
theorem pcs_cons (p : Pr) (l : List Pr) : pcs (p :: l) = .v (.int .i64 p.1) :: .v (vU64 p.2) :: pcs l := rfl
theorem pcs_app (l m : List Pr) : pcs (l ++ m) = pcs l ++ pcs m := by unfold pcs; rw [List.flatMap_append]
theorem pcs_len (l : List Pr) : (pcs l).length = l.length * 2 := by
  induction l with
  | nil => rfl
  | cons p l ih => rw [pcs_cons]; simp only [List.length_cons, ih]; omega
theorem pcs_val (γ : List Nm) (l : List Pr) : (pcs l).map (At.val γ) = pvs l := by
  induction l with
  | nil => rfl
  | cons p l ih => rw [pcs_cons, List.map_cons, List.map_cons, ih]; rfl
theorem pcs_ren (ρ : List Nat) (l : List Pr) : (pcs l).map (At.ren ρ) = pcs l := by
  induction l with
  | nil => rfl
  | cons p l ih => rw [pcs_cons, List.map_cons, List.map_cons, ih]; rfl
theorem pcs_forall {Q : At → Prop} (l : List Pr) : (∀ x ∈ pcs l, Q x) = ∀ p ∈ l, Q (.v (.int .i64 p.1)) ∧ Q (.v (vU64 p.2)) := by
  apply propext
  induction l with
  | nil => simp [pcs_nil]
  | cons p l ih =>
    rw [pcs_cons, List.forall_mem_cons, List.forall_mem_cons, List.forall_mem_cons, ih, and_assoc]
theorem pcs_take (l : List Pr) (i : Nat) (h : i < l.length) : pcs (l.take i) ++ [.v (.int .i64 (ix l i).1), .v (vU64 (ix l i).2)] = pcs (l.take (i + 1)) := by
  have e : ix l i = l[i] := by simp [ix, List.getD_eq_getElem?_getD, List.getElem?_eq_getElem h]
  rw [List.take_add_one, List.getElem?_eq_getElem h, Option.toList_some, pcs_app, e]
  rfl
attribute [push_cast] pcs_ren pcs_len pcs_forall
attribute [irreducible] pcs
theorem showsR_pcs {w0 : World} {ow : Nat → Prop} {hp : List Res} {k : Nat} {e : TypeId} {l : List Pr} (hr : hp[k]? = some (.onn e 2 (.c (pcs l)))) : ShowsR w0 ow hp (.x (.a (.o k))) l.length (pvs l) :=
  showsR_onn hr (fun γ => pcs_val γ l) (pvs_len l)
set_option maxRecDepth 100000 in
theorem give09_any (l : List Pr) (A : Option Addr) (c : Nat) (w : World) (hl : l.length ≤ 1000) (hR : RdV w w.heap.size A (pvs l)) : Calls Tryd.prog 47 #[.slice A l.length c] w fun e w' => ∃ γ1, e = .returned ((Sv.x (.a (.o 0))).val γ1) ∧ Sat w No γ1 [.onn 87 2 (.c (pcs l))] w' := by
  have F := FP.of hR
  refine calls_fun (n := 19) Tryd.func47 rfl Tryd.ntmps47 [.x (.a (.v (.slice A l.length c)))] (Sat.init w No) (by simp) _ _ ?_
  simp only [undef, push_cast, ↓Int.toNat_natCast, ↓Int.cast_ofNat_Int, Int.cast_ofNat_Int, ↓reduceIte, reduceCtorEq, Nat.reduceEqDiff, Nat.reduceLT, Nat.reduceLeDiff, Nat.reduceAdd, Nat.reduceSub, Nat.reduceMul, Int.reduceNeg, Int.reduceLE, Int.reduceLT, Int.reduceToNat, Int.reduceAdd, Int.reduceSub, Int.reduceMul, Int.reduceEq]
  refine loop_ghostN 3 87 2 (.c []) (by omega) rfl rfl (by simp only [push_cast, ↓Int.toNat_natCast, ↓Int.cast_ofNat_Int, Int.cast_ofNat_Int, ↓reduceIte, reduceCtorEq, Nat.reduceEqDiff, Nat.reduceLT, Nat.reduceLeDiff, Nat.reduceAdd, Nat.reduceSub, Nat.reduceMul, Int.reduceNeg, Int.reduceLE, Int.reduceLT, Int.reduceToNat, Int.reduceAdd, Int.reduceSub, Int.reduceMul, Int.reduceEq]) ?_
  refine loop_rule (ι := Nat) (fun i => ⟨[(0, .x (.a (.v (.slice A l.length c)))), (3, .x (.a (.o 0))), (4, .x (.a (.v (.int .i64 i))))], [.onn 87 2 (.c (pcs (l.take i)))]⟩) (fun i => i ≤ l.length) (fun i => l.length - i) 0 [0] (by omega) ?_ ?_
  · simp only [List.take_zero, pcs_nil, push_cast, ↓Int.toNat_natCast, ↓Int.cast_ofNat_Int, Int.cast_ofNat_Int, ↓reduceIte, reduceCtorEq, Nat.reduceEqDiff, Nat.reduceLT, Nat.reduceLeDiff, Nat.reduceAdd, Nat.reduceSub, Nat.reduceMul, Int.reduceNeg, Int.reduceLE, Int.reduceLT, Int.reduceToNat, Int.reduceAdd, Int.reduceSub, Int.reduceMul, Int.reduceEq]
  · intro i hi
    by_cases hlt : (i : Int) < l.length
    · have i0 : (0 : Int) ≤ i := by omega
      have c0 := F.c0 i (by omega)
      have c1 := F.c1 i (by omega)
      have o0 := F.ok0 i (by omega)
      have o1 := F.ok1 i (by omega)
      have hA := F.some_ (by omega)
      have hlen : (l.take i).length = i := by rw [List.length_take]; omega
      have ht := pcs_take l i (by omega)
      simp only [hlt, i0, c0, c1, o0, o1, hA, hlen, ht, pAdd_zero, pAdd_add, pAdd_isSome, undef, push_cast, ↓Int.toNat_natCast, ↓Int.cast_ofNat_Int, Int.cast_ofNat_Int, ↓reduceIte, reduceCtorEq, Nat.reduceEqDiff, Nat.reduceLT, Nat.reduceLeDiff, Nat.reduceAdd, Nat.reduceSub, Nat.reduceMul, Int.reduceNeg, Int.reduceLE, Int.reduceLT, Int.reduceToNat, Int.reduceAdd, Int.reduceSub, Int.reduceMul, Int.reduceEq]
      (repeat (refine And.intro (by first | omega | decide) ?_))
      refine loopK_normal (i + 1) [2] (by omega) (by omega) ?_
      simp only [push_cast, ↓Int.toNat_natCast, ↓Int.cast_ofNat_Int, Int.cast_ofNat_Int, ↓reduceIte, reduceCtorEq, Nat.reduceEqDiff, Nat.reduceLT, Nat.reduceLeDiff, Nat.reduceAdd, Nat.reduceSub, Nat.reduceMul, Int.reduceNeg, Int.reduceLE, Int.reduceLT, Int.reduceToNat, Int.reduceAdd, Int.reduceSub, Int.reduceMul, Int.reduceEq]
    · have e : i = l.length := by omega
      subst e
      simp only [hlt, List.take_length, undef, push_cast, ↓Int.toNat_natCast, ↓Int.cast_ofNat_Int, Int.cast_ofNat_Int, ↓reduceIte, reduceCtorEq, Nat.reduceEqDiff, Nat.reduceLT, Nat.reduceLeDiff, Nat.reduceAdd, Nat.reduceSub, Nat.reduceMul, Int.reduceNeg, Int.reduceLE, Int.reduceLT, Int.reduceToNat, Int.reduceAdd, Int.reduceSub, Int.reduceMul, Int.reduceEq]
      refine endsAs [0] ?_
      simp only [push_cast, ↓Int.toNat_natCast, ↓Int.cast_ofNat_Int, Int.cast_ofNat_Int, ↓reduceIte, reduceCtorEq, Nat.reduceEqDiff, Nat.reduceLT, Nat.reduceLeDiff, Nat.reduceAdd, Nat.reduceSub, Nat.reduceMul, Int.reduceNeg, Int.reduceLE, Int.reduceLT, Int.reduceToNat, Int.reduceAdd, Int.reduceSub, Int.reduceMul, Int.reduceEq]
theorem give09OK {w0 : World} {hp : List Res} {sv : Sv} {l : List Pr} (hl : l.length ≤ 1000) (h : ShowsR w0 No hp sv l.length (pvs l)) (hbr : ∀ r ∈ hp, Res.bnd hp.length r) :
    CallOK Tryd.prog w0 No 47 [sv] hp (.x (.a (.o hp.length))) (hp ++ [.onn 87 2 (.c (pcs l))]) := by
  have := callOK_take (P := Tryd.prog) (f := 47) (svs := [sv]) (w0 := w0) (ow := No) (sv1 := .x (.a (.o 0))) (hp1 := [.onn 87 2 (.c (pcs l))]) [] hbr (by simp only [push_cast, ↓Int.toNat_natCast, ↓Int.cast_ofNat_Int, Int.cast_ofNat_Int, ↓reduceIte, reduceCtorEq, Nat.reduceEqDiff, Nat.reduceLT, Nat.reduceLeDiff, Nat.reduceAdd, Nat.reduceSub, Nat.reduceMul, Int.reduceNeg, Int.reduceLE, Int.reduceLT, Int.reduceToNat, Int.reduceAdd, Int.reduceSub, Int.reduceMul, Int.reduceEq]) (by simp only [push_cast, ↓Int.toNat_natCast, ↓Int.cast_ofNat_Int, Int.cast_ofNat_Int, ↓reduceIte, reduceCtorEq, Nat.reduceEqDiff, Nat.reduceLT, Nat.reduceLeDiff, Nat.reduceAdd, Nat.reduceSub, Nat.reduceMul, Int.reduceNeg, Int.reduceLE, Int.reduceLT, Int.reduceToNat, Int.reduceAdd, Int.reduceSub, Int.reduceMul, Int.reduceEq])
    fun γ w hS => ⟨No, fun b h => h.elim, by
      obtain ⟨A, c, e1, b1, r1⟩ := h γ w hS
      show Calls _ _ #[sv.val γ] w _
      rw [e1]
      exact give09_any l A c w hl r1⟩
  simp only [goneAll, shiftL, push_cast, ↓Int.toNat_natCast, ↓Int.cast_ofNat_Int, Int.cast_ofNat_Int, ↓reduceIte, reduceCtorEq, Nat.reduceEqDiff, Nat.reduceLT, Nat.reduceLeDiff, Nat.reduceAdd, Nat.reduceSub, Nat.reduceMul, Int.reduceNeg, Int.reduceLE, Int.reduceLT, Int.reduceToNat, Int.reduceAdd, Int.reduceSub, Int.reduceMul, Int.reduceEq] at this
  exact this
end Go.Proofs.YtkchdhkpjnnliaaDoor
