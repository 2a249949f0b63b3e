/- What hides a share: escrow.hides, and the document's (caucusref25.pad). -/
import Derived.Test.YteiifdpikcnbgaaDoorDr1
import Derived.Test.YteiifdpikcnbgaaDoorHnd
namespace Go.Proofs.YteiifdpikcnbgaaDoor
open Go.RowKit
set_option linter.unusedSimpArgs false
def boxL (f t g : Nat) : List UInt8 := [98, 111, 120, 32] ++ Lib.decDigits f ++ [32] ++ Lib.decDigits t ++ [32] ++ Lib.decDigits g
theorem boxL_ok (f t g : Nat) (hf : f < 64) (ht : t < 64) (hg : g ≤ 1073741824) : labOk (bstr (boxL f t g)) = true := by
  have h1 := dec_len 2 f (by omega)
  have h3 := dec_len 2 t (by omega)
  have h2 := dec_len 10 g (by omega)
  have hl : (boxL f t g).length ≤ 64 := by unfold boxL; simp; omega
  unfold labOk
  rw [bstr_size, decide_eq_true hl, Bool.true_and]
  refine labTo_all _ ?_ _ (Nat.le_refl _)
  intro b hb
  unfold boxL at hb
  simp only [List.mem_append, List.mem_cons, List.not_mem_nil, or_false] at hb
  rcases hb with ((((hb | hb) | hb) | hb) | hb) | hb
  · rcases hb with rfl | rfl | rfl | rfl <;> decide
  · exact dec_ch f b hb
  · rw [hb]; decide
  · exact dec_ch t b hb
  · rw [hb]; decide
  · exact dec_ch g b hb
theorem box_pre : ({ data := #[98, 111, 120, 32] } : ByteArray) = bstr [98, 111, 120, 32] := rfl
theorem box_mid : ({ data := #[32] } : ByteArray) = bstr [32] := rfl
theorem boxL_eq (f t g : Nat) : bstr [98, 111, 120, 32] ++ bstr (Lib.decDigits f) ++ bstr [32] ++ bstr (Lib.decDigits t) ++ bstr [32] ++ bstr (Lib.decDigits g) = bstr (boxL f t g) := by
  simp only [bstr_app]; rfl
/-- The two numbers that hide. -/
def hidU (x : UInt64) (f t g i : Nat) : UInt64 := numOut x (bstr (boxL f t g)) i
def hidTo (x : UInt64) (s : ByteArray) : Nat → List UInt64
  | 0 => [0, 0]
  | 1 => [numOut x s 0, 0]
  | _ => [numOut x s 0, numOut x s 1]
theorem bs_size_app (a b : ByteArray) : (a ++ b).size = a.size + b.size := ByteArray.size_append
attribute [local irreducible] numOut wOk boxL labOk
attribute [local irreducible] Callable CallOK CallG CallM DrawG LoopG symR symM
set_option maxRecDepth 100000 in
set_option maxHeartbeats 4000000 in
theorem hides_any (x : UInt64) (f t g : Nat) (hf : f < 64) (ht : t < 64) (hg : g ≤ 1073741824) (w : World) (hk : LaidK 2 w) (hw : TabW w) :
    Calls Tryd.prog 70 (List.map (Sv.val []) [.x (.a (.v (vU64 x))), .x (.a (.v (.int .i64 f))), .x (.a (.v (.int .i64 t))), .x (.a (.v (.int .i64 g)))]).toArray w fun e w' => e = .returned (.tuple #[.agg ([hidU x f t g 0, hidU x f t g 1].map vU64).toArray, .nilIface]) ∧ Below w.heap.size w w' := by
  have hlab := boxL_ok f t g hf ht hg
  have he : ∀ i : Nat, i ≤ 100 → wErr (bstr (boxL f t g)) i 1048576 = .nilIface := fun i hi => wErr_yes (wOk_yes hlab (by omega) (by omega))
  have hj := boxL_eq f t g
  have d1 := dec_len 2 f (by omega)
  have d2 := dec_len 2 t (by omega)
  have d3 := dec_len 10 g (by omega)
  refine calls_v (n := 45) Tryd.func70 rfl Tryd.ntmps70 [.x (.a (.v (vU64 x))), .x (.a (.v (.int .i64 f))), .x (.a (.v (.int .i64 t))), .x (.a (.v (.int .i64 g)))] (by simp) (.t [.a64 [hidU x f t g 0, hidU x f t g 1], .a (.v .nilIface)]) (fun _ => rfl) ?_
  simp only [undef, push_cast, ↓Int.toNat_natCast, ↓Int.cast_ofNat_Int, Int.cast_ofNat_Int, ↓reduceIte, reduceCtorEq, Nat.reduceEqDiff, Nat.reduceLT, Nat.reduceLeDiff, Nat.reduceAdd, Nat.reduceSub, Nat.reduceMul, Int.reduceNeg, Int.reduceLE, Int.reduceLT, Int.reduceToNat, Int.reduceAdd, Int.reduceSub, Int.reduceMul, Int.reduceEq]
  (repeat (refine And.intro (by first | omega | decide) ?_))
  refine callG_v rfl cb99 rfl (itoaOK f (by omega) hw) (dOk_lt rfl) ?_
  simp only [box_pre, box_mid, bs_size_app, bstr_size, List.length_cons, List.length_nil, push_cast, ↓Int.toNat_natCast, ↓Int.cast_ofNat_Int, Int.cast_ofNat_Int, ↓reduceIte, reduceCtorEq, Nat.reduceEqDiff, Nat.reduceLT, Nat.reduceLeDiff, Nat.reduceAdd, Nat.reduceSub, Nat.reduceMul, Int.reduceNeg, Int.reduceLE, Int.reduceLT, Int.reduceToNat, Int.reduceAdd, Int.reduceSub, Int.reduceMul, Int.reduceEq]
  (repeat (refine And.intro (by first | omega | decide) ?_))
  refine callG_v rfl cb99 rfl (itoaOK t (by omega) hw) (dOk_lt rfl) ?_
  simp only [box_pre, box_mid, bs_size_app, bstr_size, List.length_cons, List.length_nil, push_cast, ↓Int.toNat_natCast, ↓Int.cast_ofNat_Int, Int.cast_ofNat_Int, ↓reduceIte, reduceCtorEq, Nat.reduceEqDiff, Nat.reduceLT, Nat.reduceLeDiff, Nat.reduceAdd, Nat.reduceSub, Nat.reduceMul, Int.reduceNeg, Int.reduceLE, Int.reduceLT, Int.reduceToNat, Int.reduceAdd, Int.reduceSub, Int.reduceMul, Int.reduceEq]
  (repeat (refine And.intro (by first | omega | decide) ?_))
  refine callG_v rfl cb99 rfl (itoaOK g (by omega) hw) (dOk_lt rfl) ?_
  simp only [box_pre, box_mid, bs_size_app, bstr_size, List.length_cons, List.length_nil, push_cast, ↓Int.toNat_natCast, ↓Int.cast_ofNat_Int, Int.cast_ofNat_Int, ↓reduceIte, reduceCtorEq, Nat.reduceEqDiff, Nat.reduceLT, Nat.reduceLeDiff, Nat.reduceAdd, Nat.reduceSub, Nat.reduceMul, Int.reduceNeg, Int.reduceLE, Int.reduceLT, Int.reduceToNat, Int.reduceAdd, Int.reduceSub, Int.reduceMul, Int.reduceEq]
  (repeat (refine And.intro (by first | omega | decide) ?_))
  simp only [hj, push_cast, ↓Int.toNat_natCast, ↓Int.cast_ofNat_Int, Int.cast_ofNat_Int, ↓reduceIte, reduceCtorEq, Nat.reduceEqDiff, Nat.reduceLT, Nat.reduceLeDiff, Nat.reduceAdd, Nat.reduceSub, Nat.reduceMul, Int.reduceNeg, Int.reduceLE, Int.reduceLT, Int.reduceToNat, Int.reduceAdd, Int.reduceSub, Int.reduceMul, Int.reduceEq]
  unfold hidU
  generalize hs : bstr (boxL f t g) = s at *
  refine loop_rule (ι := Nat) (fun i => ⟨[(0, .x (.a (.v (vU64 x)))), (8, .x (.a (.p 0 0))), (10, .x (.a (.v (.string s)))), (11, .x (.a (.p 1 0))), (26, .x (.a (.v (.int .i64 i))))],
    [.blk 66 (.u64 [0, 0]), .blk 66 (.u64 (hidTo x s i))]⟩) (fun i => i ≤ 2) (fun i => 2 - i) 0 [0, 1] (by omega) ?_ ?_
  · simp only [hidTo, push_cast, ↓Int.toNat_natCast, ↓Int.cast_ofNat_Int, Int.cast_ofNat_Int, ↓reduceIte, reduceCtorEq, Nat.reduceEqDiff, Nat.reduceLT, Nat.reduceLeDiff, Nat.reduceAdd, Nat.reduceSub, Nat.reduceMul, Int.reduceNeg, Int.reduceLE, Int.reduceLT, Int.reduceToNat, Int.reduceAdd, Int.reduceSub, Int.reduceMul, Int.reduceEq]
    rfl
  · intro i hi
    have hwi : wErr s 0 1048576 = .nilIface := he 0 (by omega)
    have hwj : wErr s 1 1048576 = .nilIface := he 1 (by omega)
    match i, hi with
    | 0, _ =>
      simp only [hidTo, undef, push_cast, ↓Int.toNat_natCast, ↓Int.cast_ofNat_Int, Int.cast_ofNat_Int, ↓reduceIte, reduceCtorEq, Nat.reduceEqDiff, Nat.reduceLT, Nat.reduceLeDiff, Nat.reduceAdd, Nat.reduceSub, Nat.reduceMul, Int.reduceNeg, Int.reduceLE, Int.reduceLT, Int.reduceToNat, Int.reduceAdd, Int.reduceSub, Int.reduceMul, Int.reduceEq]
      (repeat (refine And.intro (by first | omega | decide) ?_))
      refine callG_v rfl cb100 rfl (num7OK x s 0 hk) (dOk_lt rfl) ?_
      simp only [hwi, hwj, undef, push_cast, ↓Int.toNat_natCast, ↓Int.cast_ofNat_Int, Int.cast_ofNat_Int, ↓reduceIte, reduceCtorEq, Nat.reduceEqDiff, Nat.reduceLT, Nat.reduceLeDiff, Nat.reduceAdd, Nat.reduceSub, Nat.reduceMul, Int.reduceNeg, Int.reduceLE, Int.reduceLT, Int.reduceToNat, Int.reduceAdd, Int.reduceSub, Int.reduceMul, Int.reduceEq]
      (repeat (refine And.intro (by first | omega | decide) ?_))
      refine loopK_normal 1 [0, 1] (by omega) (by omega) ?_
      simp only [hidTo, push_cast, ↓Int.toNat_natCast, ↓Int.cast_ofNat_Int, Int.cast_ofNat_Int, ↓reduceIte, reduceCtorEq, Nat.reduceEqDiff, Nat.reduceLT, Nat.reduceLeDiff, Nat.reduceAdd, Nat.reduceSub, Nat.reduceMul, Int.reduceNeg, Int.reduceLE, Int.reduceLT, Int.reduceToNat, Int.reduceAdd, Int.reduceSub, Int.reduceMul, Int.reduceEq]
    | 1, _ =>
      simp only [hidTo, undef, push_cast, ↓Int.toNat_natCast, ↓Int.cast_ofNat_Int, Int.cast_ofNat_Int, ↓reduceIte, reduceCtorEq, Nat.reduceEqDiff, Nat.reduceLT, Nat.reduceLeDiff, Nat.reduceAdd, Nat.reduceSub, Nat.reduceMul, Int.reduceNeg, Int.reduceLE, Int.reduceLT, Int.reduceToNat, Int.reduceAdd, Int.reduceSub, Int.reduceMul, Int.reduceEq]
      (repeat (refine And.intro (by first | omega | decide) ?_))
      refine callG_v rfl cb100 rfl (num7OK x s 1 hk) (dOk_lt rfl) ?_
      simp only [hwi, hwj, undef, push_cast, ↓Int.toNat_natCast, ↓Int.cast_ofNat_Int, Int.cast_ofNat_Int, ↓reduceIte, reduceCtorEq, Nat.reduceEqDiff, Nat.reduceLT, Nat.reduceLeDiff, Nat.reduceAdd, Nat.reduceSub, Nat.reduceMul, Int.reduceNeg, Int.reduceLE, Int.reduceLT, Int.reduceToNat, Int.reduceAdd, Int.reduceSub, Int.reduceMul, Int.reduceEq]
      (repeat (refine And.intro (by first | omega | decide) ?_))
      refine loopK_normal 2 [0, 1] (by omega) (by omega) ?_
      simp only [hidTo, push_cast, ↓Int.toNat_natCast, ↓Int.cast_ofNat_Int, Int.cast_ofNat_Int, ↓reduceIte, reduceCtorEq, Nat.reduceEqDiff, Nat.reduceLT, Nat.reduceLeDiff, Nat.reduceAdd, Nat.reduceSub, Nat.reduceMul, Int.reduceNeg, Int.reduceLE, Int.reduceLT, Int.reduceToNat, Int.reduceAdd, Int.reduceSub, Int.reduceMul, Int.reduceEq]
    | 2, _ => simp only [hidTo, undef, push_cast, ↓Int.toNat_natCast, ↓Int.cast_ofNat_Int, Int.cast_ofNat_Int, ↓reduceIte, reduceCtorEq, Nat.reduceEqDiff, Nat.reduceLT, Nat.reduceLeDiff, Nat.reduceAdd, Nat.reduceSub, Nat.reduceMul, Int.reduceNeg, Int.reduceLE, Int.reduceLT, Int.reduceToNat, Int.reduceAdd, Int.reduceSub, Int.reduceMul, Int.reduceEq]
set_option maxRecDepth 100000 in
set_option maxHeartbeats 1000000 in
theorem pad_any (x : UInt64) (f t g i : Nat) (hf : f < 64) (ht : t < 64) (hg : g ≤ 1073741824) (w : World) :
    Calls Tryd.prog 76 #[vU64 x, .int .i64 f, .int .i64 t, .int .i64 g, .int .i64 i] w fun e w' => e = .returned (vU64 (hidU x f t g i)) ∧ Below w.heap.size w w' := by
  have hj := boxL_eq f t g
  have hsz : (bstr (boxL f t g)).size ≤ 1000 := by have := labOk_size (boxL_ok f t g hf ht hg); omega
  have d1 := dec_len 2 f (by omega)
  have d2 := dec_len 2 t (by omega)
  have d3 := dec_len 10 g (by omega)
  refine calls_v (n := 31) Tryd.func76 rfl Tryd.ntmps76 [.x (.a (.v (vU64 x))), .x (.a (.v (.int .i64 f))), .x (.a (.v (.int .i64 t))), .x (.a (.v (.int .i64 g))), .x (.a (.v (.int .i64 i)))] (by simp) (.x (.a (.v (vU64 (hidU x f t g i))))) (fun _ => rfl) ?_
  simp only [undef, push_cast, ↓Int.toNat_natCast, ↓Int.cast_ofNat_Int, Int.cast_ofNat_Int, ↓reduceIte, reduceCtorEq, Nat.reduceEqDiff, Nat.reduceLT, Nat.reduceLeDiff, Nat.reduceAdd, Nat.reduceSub, Nat.reduceMul, Int.reduceNeg, Int.reduceLE, Int.reduceLT, Int.reduceToNat, Int.reduceAdd, Int.reduceSub, Int.reduceMul, Int.reduceEq]
  (repeat (refine And.intro (by first | omega | decide) ?_))
  refine callG_v rfl cb104 rfl (digits25OK f (by omega)) (dOk_lt rfl) ?_
  simp only [box_pre, box_mid, bs_size_app, bstr_size, List.length_cons, List.length_nil, push_cast, ↓Int.toNat_natCast, ↓Int.cast_ofNat_Int, Int.cast_ofNat_Int, ↓reduceIte, reduceCtorEq, Nat.reduceEqDiff, Nat.reduceLT, Nat.reduceLeDiff, Nat.reduceAdd, Nat.reduceSub, Nat.reduceMul, Int.reduceNeg, Int.reduceLE, Int.reduceLT, Int.reduceToNat, Int.reduceAdd, Int.reduceSub, Int.reduceMul, Int.reduceEq]
  (repeat (refine And.intro (by first | omega | decide) ?_))
  refine callG_v rfl cb104 rfl (digits25OK t (by omega)) (dOk_lt rfl) ?_
  simp only [box_pre, box_mid, bs_size_app, bstr_size, List.length_cons, List.length_nil, push_cast, ↓Int.toNat_natCast, ↓Int.cast_ofNat_Int, Int.cast_ofNat_Int, ↓reduceIte, reduceCtorEq, Nat.reduceEqDiff, Nat.reduceLT, Nat.reduceLeDiff, Nat.reduceAdd, Nat.reduceSub, Nat.reduceMul, Int.reduceNeg, Int.reduceLE, Int.reduceLT, Int.reduceToNat, Int.reduceAdd, Int.reduceSub, Int.reduceMul, Int.reduceEq]
  (repeat (refine And.intro (by first | omega | decide) ?_))
  refine callG_v rfl cb104 rfl (digits25OK g (by omega)) (dOk_lt rfl) ?_
  simp only [box_pre, box_mid, bs_size_app, bstr_size, List.length_cons, List.length_nil, push_cast, ↓Int.toNat_natCast, ↓Int.cast_ofNat_Int, Int.cast_ofNat_Int, ↓reduceIte, reduceCtorEq, Nat.reduceEqDiff, Nat.reduceLT, Nat.reduceLeDiff, Nat.reduceAdd, Nat.reduceSub, Nat.reduceMul, Int.reduceNeg, Int.reduceLE, Int.reduceLT, Int.reduceToNat, Int.reduceAdd, Int.reduceSub, Int.reduceMul, Int.reduceEq]
  (repeat (refine And.intro (by first | omega | decide) ?_))
  simp only [hj, push_cast, ↓Int.toNat_natCast, ↓Int.cast_ofNat_Int, Int.cast_ofNat_Int, ↓reduceIte, reduceCtorEq, Nat.reduceEqDiff, Nat.reduceLT, Nat.reduceLeDiff, Nat.reduceAdd, Nat.reduceSub, Nat.reduceMul, Int.reduceNeg, Int.reduceLE, Int.reduceLT, Int.reduceToNat, Int.reduceAdd, Int.reduceSub, Int.reduceMul, Int.reduceEq]
  unfold hidU
  generalize hs : bstr (boxL f t g) = s at *
  refine callG_v rfl cb103 rfl (refNum7OK x s hsz i) (dOk_lt rfl) ?_
  simp only [push_cast, ↓Int.toNat_natCast, ↓Int.cast_ofNat_Int, Int.cast_ofNat_Int, ↓reduceIte, reduceCtorEq, Nat.reduceEqDiff, Nat.reduceLT, Nat.reduceLeDiff, Nat.reduceAdd, Nat.reduceSub, Nat.reduceMul, Int.reduceNeg, Int.reduceLE, Int.reduceLT, Int.reduceToNat, Int.reduceAdd, Int.reduceSub, Int.reduceMul, Int.reduceEq]
theorem hidesOK {w0 : World} {hp : List Res} (x : UInt64) (f t g : Nat) (hf : f < 64) (ht : t < 64) (hg : g ≤ 1073741824) (hk : LaidK 2 w0) (hw : TabW w0) :
    CallOK Tryd.prog w0 No 70 [.x (.a (.v (vU64 x))), .x (.a (.v (.int .i64 f))), .x (.a (.v (.int .i64 t))), .x (.a (.v (.int .i64 g)))] hp (.t [.a64 [hidU x f t g 0, hidU x f t g 1], .a (.v .nilIface)]) hp := callOK_v fun _ w hS => hides_any x f t g hf ht hg w (laid_later hk hS) (hw.later hS)
theorem padOK {w0 : World} {ow : Nat → Prop} {hp : List Res} (x : UInt64) (f t g i : Nat) (hf : f < 64) (ht : t < 64) (hg : g ≤ 1073741824) :
    CallOK Tryd.prog w0 ow 76 [.x (.a (.v (vU64 x))), .x (.a (.v (.int .i64 f))), .x (.a (.v (.int .i64 t))), .x (.a (.v (.int .i64 g))), .x (.a (.v (.int .i64 i)))] hp (.x (.a (.v (vU64 (hidU x f t g i))))) hp := callOK_v fun _ w _ => pad_any x f t g i hf ht hg w
end Go.Proofs.YteiifdpikcnbgaaDoor
