import Derived.Test.YtiaeollemmkclaaDoorTs3
import Derived.Test.YtiaeollemmkclaaDoorNm22
/- Law 22's sure. -/
namespace Go.Proofs.YtiaeollemmkclaaDoor
open Go.RowKit
set_option linter.unusedSimpArgs false
set_option linter.unusedVariables false
/-- A literal of one group. -/
theorem showsCf_one {w0 : World} {hp : List Res} {dim least term place need : Int} {ps : List PlS} {ids : List Int} {j k b : Nat} {e e2 t : TypeId} {pc : List At} (hj : hp[j]? = some (.onn e 3 (.c pc))) (hv : ∀ γ, pc.map (At.val γ) = ps.flatMap plV) (hb : hp[b]? = some (.blk t (.i64 ids)))
    (hk : hp[k]? = some (.onn e2 3 (.c [.v (.int .i64 place), .s b 0 ids.length ids.length, .v (.int .i64 need)]))) (h1 : ps.length ≤ 1000000) (h3 : ids.length ≤ 1000000) :
    ShowsCf w0 hp (.x (.g [.v (.int .i64 dim), .o j, .o k, .v (.int .i64 least), .v (.int .i64 term)])) ⟨dim, ps, [⟨place, ids, need⟩], least, term⟩ := fun γ w hS => by
  obtain ⟨A, cap, e1, e2, e3⟩ := fct_onn (n := ps.length) hS hj (hv γ) (by rw [flat_len plV_len])
  have e4 := e3.rd rfl fun b hb => (hS.mine j _ b hj hb).2
  obtain ⟨A2, cap2, f1, f2, f3⟩ := fct_onn (n := 1) (vs := grV ⟨place, ⟨some ⟨nmB γ b, 0, none⟩, ids.length, ids⟩, need⟩) hS hk rfl rfl
  have f4 := f3.rd rfl fun b hb => (hS.mine k _ b hk hb).2
  have hR := hS.rdBlk hb 0
  refine ⟨⟨dim, ⟨A, cap, ps⟩, ⟨A2, cap2, [⟨place, ⟨some ⟨nmB γ b, 0, none⟩, ids.length, ids⟩, need⟩]⟩, least, term⟩, ?_, ⟨e4.1, h1, e4.2, f4.1, by show 1 ≤ 1000000; omega, f4.2, fun g hg => ?_⟩, rfl⟩
  · show Value.agg [_, nmS γ j, nmS γ k, _, _].toArray = _
    rw [e1, f1]
    rfl
  · obtain rfl := List.mem_singleton.1 hg
    exact ⟨Nat.le_refl _, h3, hR⟩
def cS22 : CfS := ⟨1, [⟨-1, 0, 1⟩, ⟨0, 0, 1⟩, ⟨1, 1, 1⟩], [⟨2, [3, 5], 2⟩], 1, 9⟩
theorem cS22_ok : cfF cS22 = true := by decide +kernel
theorem cS22_t (p : Int) (h : 0 ≤ p) (h2 : p < 3) : tcF cS22 p = .nilIface := (tcF_ok cS22_ok h h2).1
theorem cS22_3 : tcF cS22 3 = .iface 137 (.int .i64 2) := (tcF_range (p := 3) cS22_ok (by decide)).1
theorem cS22_u1 : ofP cS22 1 (undF cS22.places 1 cS22.places.length) = [2] := by decide +kernel
theorem cS22_u3 : ofP cS22 3 (undF cS22.places 3 cS22.places.length) = [] := by decide +kernel
theorem cS22_a : ofP cS22 2 (abF cS22.places (Int.toNat 2)) = [1, 0] := by decide +kernel
theorem cS22_b : ofP cS22 0 (beloTo cS22 0 cS22.groups.length) = [3, 5] := by decide +kernel
theorem cS22_g : grpF cS22 1 = -1 := by decide +kernel
theorem cS22_n : nodesF cS22 = [3, 5, 64, 68, 72, 73] := by decide +kernel
attribute [local irreducible] Callable CallOK CallG CallM DrawG LoopG symR symM
attribute [local irreducible] cfF tcF isP ofP abF undF beloTo grpF idxP nodesF memB
section
set_option maxRecDepth 100000 in
set_option maxHeartbeats 2000000 in
theorem sure22_any (w : World) (hg : Handle w) : Calls Tryd.prog 29 #[] w fun e w' => e = .returned (.bool true) ∧ Below w.heap.size w w' := by
  refine calls_v (n := 139) Tryd.func29 rfl Tryd.ntmps29 [] (by simp) (.x (.a (.v (.bool true)))) (fun _ => rfl) ?_
  simp (config := { maxSteps := 1000000 }) only [undef, push_cast, ↓Int.toNat_natCast, ↓Int.cast_ofNat_Int, Int.cast_ofNat_Int, ↓reduceIte, reduceCtorEq, Nat.reduceEqDiff, Nat.reduceLT, Nat.reduceLeDiff, Nat.reduceAdd, Nat.reduceSub, Nat.reduceMul, Int.reduceNeg, Int.reduceLE, Int.reduceLT, Int.reduceToNat, Int.reduceAdd, Int.reduceSub, Int.reduceMul, Int.reduceEq]
  (repeat (refine And.intro (by first | omega | decide) ?_))
  have sc : ∀ hp : List Res, hp[0]? = some (.onn 79 3 (.c [.v (.int .i64 (-1)), .v (.int .i64 0), .v (.int .i64 1), .v (.int .i64 0), .v (.int .i64 0), .v (.int .i64 1), .v (.int .i64 1), .v (.int .i64 1), .v (.int .i64 1)])) → hp[1]? = some (.blk 3 (.i64 [3, 5])) → hp[2]? = some (.onn 148 3 (.c [.v (.int .i64 2), .s 1 0 2 2, .v (.int .i64 2)])) → ShowsCf w hp (.x (.g [.v (.int .i64 1), .o 0, .o 2, .v (.int .i64 1), .v (.int .i64 9)])) cS22 := fun hp h0 h1 h2 => showsCf_one (ps := [⟨-1, 0, 1⟩, ⟨0, 0, 1⟩, ⟨1, 1, 1⟩]) h0 (fun _ => rfl) h1 h2 (by decide) (by decide)
  refine callG_x rfl cb79 rfl (underK 1 (sc _ rfl rfl rfl) (by simp only [push_cast, ↓Int.toNat_natCast, ↓Int.cast_ofNat_Int, Int.cast_ofNat_Int, ↓reduceIte, reduceCtorEq, Nat.reduceEqDiff, Nat.reduceLT, Nat.reduceLeDiff, Nat.reduceAdd, Nat.reduceSub, Nat.reduceMul, Int.reduceNeg, Int.reduceLE, Int.reduceLT, Int.reduceToNat, Int.reduceAdd, Int.reduceSub, Int.reduceMul, Int.reduceEq])) (dOk_lt rfl) (by simp only [push_cast, ↓Int.toNat_natCast, ↓Int.cast_ofNat_Int, Int.cast_ofNat_Int, ↓reduceIte, reduceCtorEq, Nat.reduceEqDiff, Nat.reduceLT, Nat.reduceLeDiff, Nat.reduceAdd, Nat.reduceSub, Nat.reduceMul, Int.reduceNeg, Int.reduceLE, Int.reduceLT, Int.reduceToNat, Int.reduceAdd, Int.reduceSub, Int.reduceMul, Int.reduceEq]) ?_
  rw [cS22_t 1 (by decide) (by decide), cS22_u1]
  simp (config := { maxSteps := 1000000 }) only [undef, push_cast, ↓Int.toNat_natCast, ↓Int.cast_ofNat_Int, Int.cast_ofNat_Int, ↓reduceIte, reduceCtorEq, Nat.reduceEqDiff, Nat.reduceLT, Nat.reduceLeDiff, Nat.reduceAdd, Nat.reduceSub, Nat.reduceMul, Int.reduceNeg, Int.reduceLE, Int.reduceLT, Int.reduceToNat, Int.reduceAdd, Int.reduceSub, Int.reduceMul, Int.reduceEq]
  (repeat (refine And.intro (by first | omega | decide) ?_))
  refine callG_x rfl cb35 rfl (aboveK 2 (sc _ rfl rfl rfl) (by simp only [push_cast, ↓Int.toNat_natCast, ↓Int.cast_ofNat_Int, Int.cast_ofNat_Int, ↓reduceIte, reduceCtorEq, Nat.reduceEqDiff, Nat.reduceLT, Nat.reduceLeDiff, Nat.reduceAdd, Nat.reduceSub, Nat.reduceMul, Int.reduceNeg, Int.reduceLE, Int.reduceLT, Int.reduceToNat, Int.reduceAdd, Int.reduceSub, Int.reduceMul, Int.reduceEq])) (dOk_lt rfl) (by simp only [push_cast, ↓Int.toNat_natCast, ↓Int.cast_ofNat_Int, Int.cast_ofNat_Int, ↓reduceIte, reduceCtorEq, Nat.reduceEqDiff, Nat.reduceLT, Nat.reduceLeDiff, Nat.reduceAdd, Nat.reduceSub, Nat.reduceMul, Int.reduceNeg, Int.reduceLE, Int.reduceLT, Int.reduceToNat, Int.reduceAdd, Int.reduceSub, Int.reduceMul, Int.reduceEq]) ?_
  rw [cS22_t 2 (by decide) (by decide), cS22_a]
  simp (config := { maxSteps := 1000000 }) only [undef, push_cast, ↓Int.toNat_natCast, ↓Int.cast_ofNat_Int, Int.cast_ofNat_Int, ↓reduceIte, reduceCtorEq, Nat.reduceEqDiff, Nat.reduceLT, Nat.reduceLeDiff, Nat.reduceAdd, Nat.reduceSub, Nat.reduceMul, Int.reduceNeg, Int.reduceLE, Int.reduceLT, Int.reduceToNat, Int.reduceAdd, Int.reduceSub, Int.reduceMul, Int.reduceEq]
  (repeat (refine And.intro (by first | omega | decide) ?_))
  refine callG_x rfl cb80 rfl (belowK 0 (sc _ rfl rfl rfl) (by simp only [push_cast, ↓Int.toNat_natCast, ↓Int.cast_ofNat_Int, Int.cast_ofNat_Int, ↓reduceIte, reduceCtorEq, Nat.reduceEqDiff, Nat.reduceLT, Nat.reduceLeDiff, Nat.reduceAdd, Nat.reduceSub, Nat.reduceMul, Int.reduceNeg, Int.reduceLE, Int.reduceLT, Int.reduceToNat, Int.reduceAdd, Int.reduceSub, Int.reduceMul, Int.reduceEq])) (dOk_lt rfl) (by simp only [push_cast, ↓Int.toNat_natCast, ↓Int.cast_ofNat_Int, Int.cast_ofNat_Int, ↓reduceIte, reduceCtorEq, Nat.reduceEqDiff, Nat.reduceLT, Nat.reduceLeDiff, Nat.reduceAdd, Nat.reduceSub, Nat.reduceMul, Int.reduceNeg, Int.reduceLE, Int.reduceLT, Int.reduceToNat, Int.reduceAdd, Int.reduceSub, Int.reduceMul, Int.reduceEq]) ?_
  rw [cS22_t 0 (by decide) (by decide), cS22_b]
  simp (config := { maxSteps := 1000000 }) only [undef, push_cast, ↓Int.toNat_natCast, ↓Int.cast_ofNat_Int, Int.cast_ofNat_Int, ↓reduceIte, reduceCtorEq, Nat.reduceEqDiff, Nat.reduceLT, Nat.reduceLeDiff, Nat.reduceAdd, Nat.reduceSub, Nat.reduceMul, Int.reduceNeg, Int.reduceLE, Int.reduceLT, Int.reduceToNat, Int.reduceAdd, Int.reduceSub, Int.reduceMul, Int.reduceEq]
  (repeat (refine And.intro (by first | omega | decide) ?_))
  refine callG_v rfl cb34 rfl (nodeK 2 1 (by decide)) (dOk_lt rfl) ?_
  simp (config := { maxSteps := 1000000 }) only [undef, push_cast, ↓Int.toNat_natCast, ↓Int.cast_ofNat_Int, Int.cast_ofNat_Int, ↓reduceIte, reduceCtorEq, Nat.reduceEqDiff, Nat.reduceLT, Nat.reduceLeDiff, Nat.reduceAdd, Nat.reduceSub, Nat.reduceMul, Int.reduceNeg, Int.reduceLE, Int.reduceLT, Int.reduceToNat, Int.reduceAdd, Int.reduceSub, Int.reduceMul, Int.reduceEq]
  (repeat (refine And.intro (by first | omega | decide) ?_))
  refine callG_v rfl cb31 rfl (ofPK 2 1 (by decide)) (dOk_lt rfl) ?_
  simp (config := { maxSteps := 1000000 }) only [undef, push_cast, ↓Int.toNat_natCast, ↓Int.cast_ofNat_Int, Int.cast_ofNat_Int, ↓reduceIte, reduceCtorEq, Nat.reduceEqDiff, Nat.reduceLT, Nat.reduceLeDiff, Nat.reduceAdd, Nat.reduceSub, Nat.reduceMul, Int.reduceNeg, Int.reduceLE, Int.reduceLT, Int.reduceToNat, Int.reduceAdd, Int.reduceSub, Int.reduceMul, Int.reduceEq]
  (repeat (refine And.intro (by first | omega | decide) ?_))
  refine callG_v rfl cb81 rfl (groupK 1 (sc _ rfl rfl rfl)) (dOk_lt rfl) ?_
  rw [cS22_t 1 (by decide) (by decide), cS22_g]
  simp (config := { maxSteps := 1000000 }) only [undef, push_cast, ↓Int.toNat_natCast, ↓Int.cast_ofNat_Int, Int.cast_ofNat_Int, ↓reduceIte, reduceCtorEq, Nat.reduceEqDiff, Nat.reduceLT, Nat.reduceLeDiff, Nat.reduceAdd, Nat.reduceSub, Nat.reduceMul, Int.reduceNeg, Int.reduceLE, Int.reduceLT, Int.reduceToNat, Int.reduceAdd, Int.reduceSub, Int.reduceMul, Int.reduceEq]
  (repeat (refine And.intro (by first | omega | decide) ?_))
  refine callG_x rfl cb30 rfl (nodesK cS22_ok (sc _ rfl rfl rfl) (by simp only [push_cast, ↓Int.toNat_natCast, ↓Int.cast_ofNat_Int, Int.cast_ofNat_Int, ↓reduceIte, reduceCtorEq, Nat.reduceEqDiff, Nat.reduceLT, Nat.reduceLeDiff, Nat.reduceAdd, Nat.reduceSub, Nat.reduceMul, Int.reduceNeg, Int.reduceLE, Int.reduceLT, Int.reduceToNat, Int.reduceAdd, Int.reduceSub, Int.reduceMul, Int.reduceEq])) (dOk_lt rfl) (by simp only [push_cast, ↓Int.toNat_natCast, ↓Int.cast_ofNat_Int, Int.cast_ofNat_Int, ↓reduceIte, reduceCtorEq, Nat.reduceEqDiff, Nat.reduceLT, Nat.reduceLeDiff, Nat.reduceAdd, Nat.reduceSub, Nat.reduceMul, Int.reduceNeg, Int.reduceLE, Int.reduceLT, Int.reduceToNat, Int.reduceAdd, Int.reduceSub, Int.reduceMul, Int.reduceEq]) ?_
  rw [cS22_n]
  simp (config := { maxSteps := 1000000 }) only [undef, push_cast, ↓Int.toNat_natCast, ↓Int.cast_ofNat_Int, Int.cast_ofNat_Int, ↓reduceIte, reduceCtorEq, Nat.reduceEqDiff, Nat.reduceLT, Nat.reduceLeDiff, Nat.reduceAdd, Nat.reduceSub, Nat.reduceMul, Int.reduceNeg, Int.reduceLE, Int.reduceLT, Int.reduceToNat, Int.reduceAdd, Int.reduceSub, Int.reduceMul, Int.reduceEq]
  (repeat (refine And.intro (by first | omega | decide) ?_))
  refine callG_x rfl cb79 rfl (underK 3 (sc _ rfl rfl rfl) (by simp only [push_cast, ↓Int.toNat_natCast, ↓Int.cast_ofNat_Int, Int.cast_ofNat_Int, ↓reduceIte, reduceCtorEq, Nat.reduceEqDiff, Nat.reduceLT, Nat.reduceLeDiff, Nat.reduceAdd, Nat.reduceSub, Nat.reduceMul, Int.reduceNeg, Int.reduceLE, Int.reduceLT, Int.reduceToNat, Int.reduceAdd, Int.reduceSub, Int.reduceMul, Int.reduceEq])) (dOk_lt rfl) (by simp only [push_cast, ↓Int.toNat_natCast, ↓Int.cast_ofNat_Int, Int.cast_ofNat_Int, ↓reduceIte, reduceCtorEq, Nat.reduceEqDiff, Nat.reduceLT, Nat.reduceLeDiff, Nat.reduceAdd, Nat.reduceSub, Nat.reduceMul, Int.reduceNeg, Int.reduceLE, Int.reduceLT, Int.reduceToNat, Int.reduceAdd, Int.reduceSub, Int.reduceMul, Int.reduceEq]) ?_
  rw [cS22_3, cS22_u3]
  simp (config := { maxSteps := 1000000 }) only [undef, push_cast, ↓Int.toNat_natCast, ↓Int.cast_ofNat_Int, Int.cast_ofNat_Int, ↓reduceIte, reduceCtorEq, Nat.reduceEqDiff, Nat.reduceLT, Nat.reduceLeDiff, Nat.reduceAdd, Nat.reduceSub, Nat.reduceMul, Int.reduceNeg, Int.reduceLE, Int.reduceLT, Int.reduceToNat, Int.reduceAdd, Int.reduceSub, Int.reduceMul, Int.reduceEq]
  simp only [List.append_eq, List.cons_append, List.nil_append]
  simp (config := { maxSteps := 1000000 }) only [undef, push_cast, ↓Int.toNat_natCast, ↓Int.cast_ofNat_Int, Int.cast_ofNat_Int, ↓reduceIte, reduceCtorEq, Nat.reduceEqDiff, Nat.reduceLT, Nat.reduceLeDiff, Nat.reduceAdd, Nat.reduceSub, Nat.reduceMul, Int.reduceNeg, Int.reduceLE, Int.reduceLT, Int.reduceToNat, Int.reduceAdd, Int.reduceSub, Int.reduceMul, Int.reduceEq]
  (repeat (refine And.intro (by first | omega | decide) ?_))
  refine callG_v rfl cb82 rfl (ints22K (a := [2]) (b := [2]) (by decide) (shows_own rfl fun _ => rfl) (shows_blk_all rfl (fun _ => rfl) 1 1 rfl (by decide))) (dOk_lt rfl) ?_
  rw [show decide (([2] : List Int) = [2]) = true from rfl]
  simp (config := { maxSteps := 1000000 }) only [undef, push_cast, ↓Int.toNat_natCast, ↓Int.cast_ofNat_Int, Int.cast_ofNat_Int, ↓reduceIte, reduceCtorEq, Nat.reduceEqDiff, Nat.reduceLT, Nat.reduceLeDiff, Nat.reduceAdd, Nat.reduceSub, Nat.reduceMul, Int.reduceNeg, Int.reduceLE, Int.reduceLT, Int.reduceToNat, Int.reduceAdd, Int.reduceSub, Int.reduceMul, Int.reduceEq]
  (repeat (refine And.intro (by first | omega | decide) ?_))
  refine callG_v rfl cb82 rfl (ints22K (a := [1, 0]) (b := [1, 0]) (by decide) (shows_own rfl fun _ => rfl) (shows_blk_all rfl (fun _ => rfl) 2 2 rfl (by decide))) (dOk_lt rfl) ?_
  rw [show decide (([1, 0] : List Int) = [1, 0]) = true from rfl]
  simp (config := { maxSteps := 1000000 }) only [undef, push_cast, ↓Int.toNat_natCast, ↓Int.cast_ofNat_Int, Int.cast_ofNat_Int, ↓reduceIte, reduceCtorEq, Nat.reduceEqDiff, Nat.reduceLT, Nat.reduceLeDiff, Nat.reduceAdd, Nat.reduceSub, Nat.reduceMul, Int.reduceNeg, Int.reduceLE, Int.reduceLT, Int.reduceToNat, Int.reduceAdd, Int.reduceSub, Int.reduceMul, Int.reduceEq]
  (repeat (refine And.intro (by first | omega | decide) ?_))
  refine callG_v rfl cb82 rfl (ints22K (a := [3, 5]) (b := [3, 5]) (by decide) (shows_own rfl fun _ => rfl) (shows_blk_all rfl (fun _ => rfl) 2 2 rfl (by decide))) (dOk_lt rfl) ?_
  rw [show decide (([3, 5] : List Int) = [3, 5]) = true from rfl]
  simp (config := { maxSteps := 1000000 }) only [undef, push_cast, ↓Int.toNat_natCast, ↓Int.cast_ofNat_Int, Int.cast_ofNat_Int, ↓reduceIte, reduceCtorEq, Nat.reduceEqDiff, Nat.reduceLT, Nat.reduceLeDiff, Nat.reduceAdd, Nat.reduceSub, Nat.reduceMul, Int.reduceNeg, Int.reduceLE, Int.reduceLT, Int.reduceToNat, Int.reduceAdd, Int.reduceSub, Int.reduceMul, Int.reduceEq]
  (repeat (refine And.intro (by first | omega | decide) ?_))
  refine callG_v rfl cb82 rfl (ints22K (a := [3, 5, 64, 68, 72, 73]) (b := [3, 5, 64, 68, 72, 73]) (by decide) (shows_own rfl fun _ => rfl) (shows_blk_all rfl (fun _ => rfl) 6 6 rfl (by decide))) (dOk_lt rfl) ?_
  rw [show decide (([3, 5, 64, 68, 72, 73] : List Int) = [3, 5, 64, 68, 72, 73]) = true from rfl]
  simp (config := { maxSteps := 1000000 }) only [undef, push_cast, ↓Int.toNat_natCast, ↓Int.cast_ofNat_Int, Int.cast_ofNat_Int, ↓reduceIte, reduceCtorEq, Nat.reduceEqDiff, Nat.reduceLT, Nat.reduceLeDiff, Nat.reduceAdd, Nat.reduceSub, Nat.reduceMul, Int.reduceNeg, Int.reduceLE, Int.reduceLT, Int.reduceToNat, Int.reduceAdd, Int.reduceSub, Int.reduceMul, Int.reduceEq]
  (repeat (refine And.intro (by first | omega | decide) ?_))
  refine callG_v rfl cb83 rfl (nmOK22 2 hg) (dOk_lt rfl) ?_
  simp (config := { maxSteps := 1000000 }) only [undef, push_cast, ↓Int.toNat_natCast, ↓Int.cast_ofNat_Int, Int.cast_ofNat_Int, ↓reduceIte, reduceCtorEq, Nat.reduceEqDiff, Nat.reduceLT, Nat.reduceLeDiff, Nat.reduceAdd, Nat.reduceSub, Nat.reduceMul, Int.reduceNeg, Int.reduceLE, Int.reduceLT, Int.reduceToNat, Int.reduceAdd, Int.reduceSub, Int.reduceMul, Int.reduceEq]
  done
theorem sure22K {w0 : World} {hp : List Res} (hg : Handle w0) : CallOK Tryd.prog w0 No 29 [] hp (.x (.a (.v (.bool true)))) hp := callOK_v fun _ w hS => sure22_any w (handle_sat hg hS)
end
end Go.Proofs.YtiaeollemmkclaaDoor
