/- EsN: EsB, EsC, joined. -/
import Derived.Test.YteiifdpikcnbgaaGreatDoorDr1
import Derived.Test.YteiifdpikcnbgaaGreatDoorHnd
import Derived.Test.YteiifdpikcnbgaaGreatDoorSetA
import Derived.Test.YteiifdpikcnbgaaGreatDoorPrA
import Derived.Test.YteiifdpikcnbgaaGreatDoorVs
import Derived.Test.YteiifdpikcnbgaaGreatDoorDrA
/- What hides a share: escrow.hides, and the document's (caucusref25.pad). -/
namespace Go.Proofs.YteiifdpikcnbgaaGreatDoor
open Go.RowKit
set_option linter.unusedSimpArgs false
def boxL (f t g : Nat) : List UInt8 := [98, 111, 120, 32] ++ Lib.decDigits f ++ [32] ++ Lib.decDigits t ++ [32] ++ Lib.decDigits g
theorem boxL_ok (f t g : Nat) (hf : f < 64) (ht : t < 64) (hg : g ≤ 1073741824) : labOk (bstr (boxL f t g)) = true := by
  have h1 := dec_len 2 f (by omega)
  have h3 := dec_len 2 t (by omega)
  have h2 := dec_len 10 g (by omega)
  have hl : (boxL f t g).length ≤ 64 := by unfold boxL; simp; omega
  unfold labOk
  rw [bstr_size, decide_eq_true hl, Bool.true_and]
  refine labTo_all _ ?_ _ (Nat.le_refl _)
  intro b hb
  unfold boxL at hb
  simp only [List.mem_append, List.mem_cons, List.not_mem_nil, or_false] at hb
  rcases hb with ((((hb | hb) | hb) | hb) | hb) | hb
  · rcases hb with rfl | rfl | rfl | rfl <;> decide
  · exact dec_ch f b hb
  · rw [hb]; decide
  · exact dec_ch t b hb
  · rw [hb]; decide
  · exact dec_ch g b hb
theorem box_pre : ({ data := #[98, 111, 120, 32] } : ByteArray) = bstr [98, 111, 120, 32] := rfl
theorem box_mid : ({ data := #[32] } : ByteArray) = bstr [32] := rfl
theorem boxL_eq (f t g : Nat) : bstr [98, 111, 120, 32] ++ bstr (Lib.decDigits f) ++ bstr [32] ++ bstr (Lib.decDigits t) ++ bstr [32] ++ bstr (Lib.decDigits g) = bstr (boxL f t g) := by
  simp only [bstr_app]; rfl
/-- The two numbers that hide. -/
def hidU (x : UInt64) (f t g i : Nat) : UInt64 := numOut x (bstr (boxL f t g)) i
def hidTo (x : UInt64) (s : ByteArray) : Nat → List UInt64
  | 0 => [0, 0]
  | 1 => [numOut x s 0, 0]
  | _ => [numOut x s 0, numOut x s 1]
theorem bs_size_app (a b : ByteArray) : (a ++ b).size = a.size + b.size := ByteArray.size_append
attribute [local irreducible] numOut wOk boxL labOk
attribute [local irreducible] Callable CallOK CallG CallM DrawG LoopG symR symM
set_option maxRecDepth 100000 in
set_option maxHeartbeats 4000000 in
theorem hides_any (x : UInt64) (f t g : Nat) (hf : f < 64) (ht : t < 64) (hg : g ≤ 1073741824) (w : World) (hk : LaidK 4 w) (hw : TabW w) :
    Calls Tryz.prog 21 (List.map (Sv.val []) [.x (.a (.v (vU64 x))), .x (.a (.v (.int .i64 f))), .x (.a (.v (.int .i64 t))), .x (.a (.v (.int .i64 g)))]).toArray w fun e w' => e = .returned (.tuple #[.agg ([hidU x f t g 0, hidU x f t g 1].map vU64).toArray, .nilIface]) ∧ Below w.heap.size w w' := by
  have hlab := boxL_ok f t g hf ht hg
  have he : ∀ i : Nat, i ≤ 100 → wErr (bstr (boxL f t g)) i 1048576 = .nilIface := fun i hi => wErr_yes (wOk_yes hlab (by omega) (by omega))
  have hj := boxL_eq f t g
  have d1 := dec_len 2 f (by omega)
  have d2 := dec_len 2 t (by omega)
  have d3 := dec_len 10 g (by omega)
  refine calls_v (n := 45) Tryz.func21 rfl Tryz.ntmps21 [.x (.a (.v (vU64 x))), .x (.a (.v (.int .i64 f))), .x (.a (.v (.int .i64 t))), .x (.a (.v (.int .i64 g)))] (by simp) (.t [.a64 [hidU x f t g 0, hidU x f t g 1], .a (.v .nilIface)]) (fun _ => rfl) ?_
  simp only [undef, push_cast, ↓Int.toNat_natCast, ↓Int.cast_ofNat_Int, Int.cast_ofNat_Int, ↓reduceIte, reduceCtorEq, Nat.reduceEqDiff, Nat.reduceLT, Nat.reduceLeDiff, Nat.reduceAdd, Nat.reduceSub, Nat.reduceMul, Int.reduceNeg, Int.reduceLE, Int.reduceLT, Int.reduceToNat, Int.reduceAdd, Int.reduceSub, Int.reduceMul, Int.reduceEq]
  (repeat (refine And.intro (by first | omega | decide) ?_))
  refine callG_v rfl cb43 rfl (itoaOK f (by omega) hw) (dOk_lt rfl) ?_
  simp only [box_pre, box_mid, bs_size_app, bstr_size, List.length_cons, List.length_nil, push_cast, ↓Int.toNat_natCast, ↓Int.cast_ofNat_Int, Int.cast_ofNat_Int, ↓reduceIte, reduceCtorEq, Nat.reduceEqDiff, Nat.reduceLT, Nat.reduceLeDiff, Nat.reduceAdd, Nat.reduceSub, Nat.reduceMul, Int.reduceNeg, Int.reduceLE, Int.reduceLT, Int.reduceToNat, Int.reduceAdd, Int.reduceSub, Int.reduceMul, Int.reduceEq]
  (repeat (refine And.intro (by first | omega | decide) ?_))
  refine callG_v rfl cb43 rfl (itoaOK t (by omega) hw) (dOk_lt rfl) ?_
  simp only [box_pre, box_mid, bs_size_app, bstr_size, List.length_cons, List.length_nil, push_cast, ↓Int.toNat_natCast, ↓Int.cast_ofNat_Int, Int.cast_ofNat_Int, ↓reduceIte, reduceCtorEq, Nat.reduceEqDiff, Nat.reduceLT, Nat.reduceLeDiff, Nat.reduceAdd, Nat.reduceSub, Nat.reduceMul, Int.reduceNeg, Int.reduceLE, Int.reduceLT, Int.reduceToNat, Int.reduceAdd, Int.reduceSub, Int.reduceMul, Int.reduceEq]
  (repeat (refine And.intro (by first | omega | decide) ?_))
  refine callG_v rfl cb43 rfl (itoaOK g (by omega) hw) (dOk_lt rfl) ?_
  simp only [box_pre, box_mid, bs_size_app, bstr_size, List.length_cons, List.length_nil, push_cast, ↓Int.toNat_natCast, ↓Int.cast_ofNat_Int, Int.cast_ofNat_Int, ↓reduceIte, reduceCtorEq, Nat.reduceEqDiff, Nat.reduceLT, Nat.reduceLeDiff, Nat.reduceAdd, Nat.reduceSub, Nat.reduceMul, Int.reduceNeg, Int.reduceLE, Int.reduceLT, Int.reduceToNat, Int.reduceAdd, Int.reduceSub, Int.reduceMul, Int.reduceEq]
  (repeat (refine And.intro (by first | omega | decide) ?_))
  simp only [hj, push_cast, ↓Int.toNat_natCast, ↓Int.cast_ofNat_Int, Int.cast_ofNat_Int, ↓reduceIte, reduceCtorEq, Nat.reduceEqDiff, Nat.reduceLT, Nat.reduceLeDiff, Nat.reduceAdd, Nat.reduceSub, Nat.reduceMul, Int.reduceNeg, Int.reduceLE, Int.reduceLT, Int.reduceToNat, Int.reduceAdd, Int.reduceSub, Int.reduceMul, Int.reduceEq]
  unfold hidU
  generalize hs : bstr (boxL f t g) = s at *
  refine loop_rule (ι := Nat) (fun i => ⟨[(0, .x (.a (.v (vU64 x)))), (8, .x (.a (.p 0 0))), (10, .x (.a (.v (.string s)))), (11, .x (.a (.p 1 0))), (26, .x (.a (.v (.int .i64 i))))],
    [.blk 28 (.u64 [0, 0]), .blk 28 (.u64 (hidTo x s i))]⟩) (fun i => i ≤ 2) (fun i => 2 - i) 0 [0, 1] (by omega) ?_ ?_
  · simp only [hidTo, push_cast, ↓Int.toNat_natCast, ↓Int.cast_ofNat_Int, Int.cast_ofNat_Int, ↓reduceIte, reduceCtorEq, Nat.reduceEqDiff, Nat.reduceLT, Nat.reduceLeDiff, Nat.reduceAdd, Nat.reduceSub, Nat.reduceMul, Int.reduceNeg, Int.reduceLE, Int.reduceLT, Int.reduceToNat, Int.reduceAdd, Int.reduceSub, Int.reduceMul, Int.reduceEq]
    rfl
  · intro i hi
    have hwi : wErr s 0 1048576 = .nilIface := he 0 (by omega)
    have hwj : wErr s 1 1048576 = .nilIface := he 1 (by omega)
    match i, hi with
    | 0, _ =>
      simp only [hidTo, undef, push_cast, ↓Int.toNat_natCast, ↓Int.cast_ofNat_Int, Int.cast_ofNat_Int, ↓reduceIte, reduceCtorEq, Nat.reduceEqDiff, Nat.reduceLT, Nat.reduceLeDiff, Nat.reduceAdd, Nat.reduceSub, Nat.reduceMul, Int.reduceNeg, Int.reduceLE, Int.reduceLT, Int.reduceToNat, Int.reduceAdd, Int.reduceSub, Int.reduceMul, Int.reduceEq]
      (repeat (refine And.intro (by first | omega | decide) ?_))
      refine callG_v rfl cb44 rfl (num7OK x s 0 hk) (dOk_lt rfl) ?_
      simp only [hwi, hwj, undef, push_cast, ↓Int.toNat_natCast, ↓Int.cast_ofNat_Int, Int.cast_ofNat_Int, ↓reduceIte, reduceCtorEq, Nat.reduceEqDiff, Nat.reduceLT, Nat.reduceLeDiff, Nat.reduceAdd, Nat.reduceSub, Nat.reduceMul, Int.reduceNeg, Int.reduceLE, Int.reduceLT, Int.reduceToNat, Int.reduceAdd, Int.reduceSub, Int.reduceMul, Int.reduceEq]
      (repeat (refine And.intro (by first | omega | decide) ?_))
      refine loopK_normal 1 [0, 1] (by omega) (by omega) ?_
      simp only [hidTo, push_cast, ↓Int.toNat_natCast, ↓Int.cast_ofNat_Int, Int.cast_ofNat_Int, ↓reduceIte, reduceCtorEq, Nat.reduceEqDiff, Nat.reduceLT, Nat.reduceLeDiff, Nat.reduceAdd, Nat.reduceSub, Nat.reduceMul, Int.reduceNeg, Int.reduceLE, Int.reduceLT, Int.reduceToNat, Int.reduceAdd, Int.reduceSub, Int.reduceMul, Int.reduceEq]
    | 1, _ =>
      simp only [hidTo, undef, push_cast, ↓Int.toNat_natCast, ↓Int.cast_ofNat_Int, Int.cast_ofNat_Int, ↓reduceIte, reduceCtorEq, Nat.reduceEqDiff, Nat.reduceLT, Nat.reduceLeDiff, Nat.reduceAdd, Nat.reduceSub, Nat.reduceMul, Int.reduceNeg, Int.reduceLE, Int.reduceLT, Int.reduceToNat, Int.reduceAdd, Int.reduceSub, Int.reduceMul, Int.reduceEq]
      (repeat (refine And.intro (by first | omega | decide) ?_))
      refine callG_v rfl cb44 rfl (num7OK x s 1 hk) (dOk_lt rfl) ?_
      simp only [hwi, hwj, undef, push_cast, ↓Int.toNat_natCast, ↓Int.cast_ofNat_Int, Int.cast_ofNat_Int, ↓reduceIte, reduceCtorEq, Nat.reduceEqDiff, Nat.reduceLT, Nat.reduceLeDiff, Nat.reduceAdd, Nat.reduceSub, Nat.reduceMul, Int.reduceNeg, Int.reduceLE, Int.reduceLT, Int.reduceToNat, Int.reduceAdd, Int.reduceSub, Int.reduceMul, Int.reduceEq]
      (repeat (refine And.intro (by first | omega | decide) ?_))
      refine loopK_normal 2 [0, 1] (by omega) (by omega) ?_
      simp only [hidTo, push_cast, ↓Int.toNat_natCast, ↓Int.cast_ofNat_Int, Int.cast_ofNat_Int, ↓reduceIte, reduceCtorEq, Nat.reduceEqDiff, Nat.reduceLT, Nat.reduceLeDiff, Nat.reduceAdd, Nat.reduceSub, Nat.reduceMul, Int.reduceNeg, Int.reduceLE, Int.reduceLT, Int.reduceToNat, Int.reduceAdd, Int.reduceSub, Int.reduceMul, Int.reduceEq]
    | 2, _ => simp only [hidTo, undef, push_cast, ↓Int.toNat_natCast, ↓Int.cast_ofNat_Int, Int.cast_ofNat_Int, ↓reduceIte, reduceCtorEq, Nat.reduceEqDiff, Nat.reduceLT, Nat.reduceLeDiff, Nat.reduceAdd, Nat.reduceSub, Nat.reduceMul, Int.reduceNeg, Int.reduceLE, Int.reduceLT, Int.reduceToNat, Int.reduceAdd, Int.reduceSub, Int.reduceMul, Int.reduceEq]
theorem hidesOK {w0 : World} {hp : List Res} (x : UInt64) (f t g : Nat) (hf : f < 64) (ht : t < 64) (hg : g ≤ 1073741824) (hk : LaidK 4 w0) (hw : TabW w0) :
    CallOK Tryz.prog w0 No 21 [.x (.a (.v (vU64 x))), .x (.a (.v (.int .i64 f))), .x (.a (.v (.int .i64 t))), .x (.a (.v (.int .i64 g)))] hp (.t [.a64 [hidU x f t g 0, hidU x f t g 1], .a (.v .nilIface)]) hp := callOK_v fun _ w hS => hides_any x f t g hf ht hg w (laid_later hk hS) (hw.later hS)
end Go.Proofs.YteiifdpikcnbgaaGreatDoor
/- Whether a peer stands in a list; what law 25 gives the program, and how it compares numbers. -/
namespace Go.Proofs.YteiifdpikcnbgaaGreatDoor
open Go.RowKit
set_option linter.unusedSimpArgs false
def isP (l : List Pr) (p : Pr) : Bool := decide (p ∈ l)
def posP (l : List Pr) (p : Pr) : Int := firstI (fun i => decide (ix l i = p)) l.length
theorem posP_at {l : List Pr} {p : Pr} {i : Nat} (hi : i < l.length) (h : ix l i = p) (hj : ∀ j, j < i → ¬ ix l j = p) : posP l p = i := firstI_at hi (decide_eq_true h) fun j h => decide_eq_false (hj j h)
theorem posP_no {l : List Pr} {p : Pr} (hj : ∀ j, j < l.length → ¬ ix l j = p) : posP l p = -1 := firstI_no fun j h => decide_eq_false (hj j h)
theorem posP_in (l : List Pr) (p : Pr) : decide (0 ≤ posP l p) = isP l p := by
  unfold isP
  rw [Bool.eq_iff_iff, decide_eq_true_eq, decide_eq_true_eq]
  unfold posP
  rw [firstI_ge]
  constructor
  · rintro ⟨i, hi, h⟩
    rw [← of_decide_eq_true h]; exact ix_mem hi
  · intro h
    obtain ⟨i, hi, e⟩ := mem_ix h
    exact ⟨i, hi, decide_eq_true e⟩
theorem pr_eq (p q : Pr) : (decide (p.1 = q.1) && decide (n64 p.2 = n64 q.2)) = decide (p = q) := by
  obtain ⟨a, b⟩ := p; obtain ⟨c, d⟩ := q
  have h : n64 b = n64 d ↔ b = d := ⟨fun h => UInt64.toNat_inj.1 (Int.ofNat.inj h), fun h => by rw [h]⟩
  simp only [Prod.mk.injEq, Bool.decide_and, h]
attribute [local irreducible] Callable CallOK CallG CallM DrawG LoopG symR symM
set_option maxRecDepth 100000 in
set_option maxHeartbeats 1000000 in
theorem indexP_any (l : List Pr) (p : Pr) (A : Option Addr) (c : Nat) (w : World) (hl : l.length ≤ 1000000) (hR : RdV w w.heap.size A (pvs l)) : Calls Tryz.prog 42 #[.slice A l.length c, .agg #[.int .i64 p.1, vU64 p.2]] w fun e w' => e = .returned (.int .i64 (posP l p)) ∧ Below w.heap.size w w' := by
  have F := FP.of hR
  refine calls_v (n := 19) Tryz.func42 rfl Tryz.ntmps42 [(.x (.a (.v (.slice A l.length c)))), (.x (.g [.v (.int .i64 p.1), .v (vU64 p.2)]))] (by simp) (.x (.a (.v (.int .i64 (posP l p))))) (fun _ => rfl) ?_
  simp only [undef, push_cast, ↓Int.toNat_natCast, ↓Int.cast_ofNat_Int, Int.cast_ofNat_Int, ↓reduceIte, reduceCtorEq, Nat.reduceEqDiff, Nat.reduceLT, Nat.reduceLeDiff, Nat.reduceAdd, Nat.reduceSub, Nat.reduceMul, Int.reduceNeg, Int.reduceLE, Int.reduceLT, Int.reduceToNat, Int.reduceAdd, Int.reduceSub, Int.reduceMul, Int.reduceEq]
  refine loop_rule (ι := Nat) (fun i => ⟨[(0, (.x (.a (.v (.slice A l.length c))))), (3, .x (.a (.p 0 0))), (7, .x (.a (.v (.int .i64 l.length)))), (8, .x (.a (.v (.int .i64 i))))], [.blk 34 (.c [.v (.int .i64 p.1), .v (vU64 p.2)])]⟩) (fun i => i ≤ l.length ∧ ∀ j, j < i → ¬ ix l j = p) (fun i => l.length - i) 0 [0] ⟨by omega, fun j h => by omega⟩ ?_ ?_
  · simp only [push_cast, ↓Int.toNat_natCast, ↓Int.cast_ofNat_Int, Int.cast_ofNat_Int, ↓reduceIte, reduceCtorEq, Nat.reduceEqDiff, Nat.reduceLT, Nat.reduceLeDiff, Nat.reduceAdd, Nat.reduceSub, Nat.reduceMul, Int.reduceNeg, Int.reduceLE, Int.reduceLT, Int.reduceToNat, Int.reduceAdd, Int.reduceSub, Int.reduceMul, Int.reduceEq]
  · rintro i ⟨hi, hj⟩
    by_cases hlt : (i : Int) < l.length
    · have i0 : (0 : Int) ≤ i := by omega
      have c0 := F.c0 i (by omega)
      have c1 := F.c1 i (by omega)
      have o0 := F.ok0 i (by omega)
      have o1 := F.ok1 i (by omega)
      have hA := F.some_ (by omega)
      have he := pr_eq p (ix l i)
      simp only [hlt, undef, push_cast, ↓Int.toNat_natCast, ↓Int.cast_ofNat_Int, Int.cast_ofNat_Int, ↓reduceIte, reduceCtorEq, Nat.reduceEqDiff, Nat.reduceLT, Nat.reduceLeDiff, Nat.reduceAdd, Nat.reduceSub, Nat.reduceMul, Int.reduceNeg, Int.reduceLE, Int.reduceLT, Int.reduceToNat, Int.reduceAdd, Int.reduceSub, Int.reduceMul, Int.reduceEq]
      (repeat (refine And.intro (by first | omega | decide) ?_))
      refine draw_rule [(0, true), (1, true), (2, true), (3, true), (4, true), (5, true)] (by kernel_rfl) (by kernel_rfl) rfl (by kernel_rfl) ?_
      simp only [hlt, i0, c0, c1, o0, o1, hA, he, pAdd_zero, pAdd_add, pAdd_isSome, undef, push_cast, ↓Int.toNat_natCast, ↓Int.cast_ofNat_Int, Int.cast_ofNat_Int, ↓reduceIte, reduceCtorEq, Nat.reduceEqDiff, Nat.reduceLT, Nat.reduceLeDiff, Nat.reduceAdd, Nat.reduceSub, Nat.reduceMul, Int.reduceNeg, Int.reduceLE, Int.reduceLT, Int.reduceToNat, Int.reduceAdd, Int.reduceSub, Int.reduceMul, Int.reduceEq]
      (repeat (refine And.intro (by first | omega | decide) ?_))
      by_cases h : p = ix l i
      · have hp := posP_at (l := l) (p := p) (i := i) (by omega) h.symm hj
        have hd : decide (p = ix l i) = true := decide_eq_true h
        simp only [hd, hp, undef, push_cast, ↓Int.toNat_natCast, ↓Int.cast_ofNat_Int, Int.cast_ofNat_Int, ↓reduceIte, reduceCtorEq, Nat.reduceEqDiff, Nat.reduceLT, Nat.reduceLeDiff, Nat.reduceAdd, Nat.reduceSub, Nat.reduceMul, Int.reduceNeg, Int.reduceLE, Int.reduceLT, Int.reduceToNat, Int.reduceAdd, Int.reduceSub, Int.reduceMul, Int.reduceEq]
      · have hd : decide (p = ix l i) = false := decide_eq_false h
        simp only [hd, undef, push_cast, ↓Int.toNat_natCast, ↓Int.cast_ofNat_Int, Int.cast_ofNat_Int, ↓reduceIte, reduceCtorEq, Nat.reduceEqDiff, Nat.reduceLT, Nat.reduceLeDiff, Nat.reduceAdd, Nat.reduceSub, Nat.reduceMul, Int.reduceNeg, Int.reduceLE, Int.reduceLT, Int.reduceToNat, Int.reduceAdd, Int.reduceSub, Int.reduceMul, Int.reduceEq]
        (repeat (refine And.intro (by first | omega | decide) ?_))
        refine loopK_normal (i + 1) [0] ⟨by omega, fun j hjl => ?_⟩ (by omega) ?_
        · by_cases e : j = i
          · rw [e]; exact fun e => h e.symm
          · exact hj j (by omega)
        · simp only [push_cast, ↓Int.toNat_natCast, ↓Int.cast_ofNat_Int, Int.cast_ofNat_Int, ↓reduceIte, reduceCtorEq, Nat.reduceEqDiff, Nat.reduceLT, Nat.reduceLeDiff, Nat.reduceAdd, Nat.reduceSub, Nat.reduceMul, Int.reduceNeg, Int.reduceLE, Int.reduceLT, Int.reduceToNat, Int.reduceAdd, Int.reduceSub, Int.reduceMul, Int.reduceEq]
    · have hp := posP_no (l := l) (p := p) (fun j h => hj j (by omega))
      simp only [hlt, hp, undef, push_cast, ↓Int.toNat_natCast, ↓Int.cast_ofNat_Int, Int.cast_ofNat_Int, ↓reduceIte, reduceCtorEq, Nat.reduceEqDiff, Nat.reduceLT, Nat.reduceLeDiff, Nat.reduceAdd, Nat.reduceSub, Nat.reduceMul, Int.reduceNeg, Int.reduceLE, Int.reduceLT, Int.reduceToNat, Int.reduceAdd, Int.reduceSub, Int.reduceMul, Int.reduceEq]
theorem indexPOK {w0 : World} {hp : List Res} {sv : Sv} {l : List Pr} (p : Pr) (hl : l.length ≤ 1000000) (h : ShowsR w0 No hp sv l.length (pvs l)) : CallOK Tryz.prog w0 No 42 [sv, (.x (.g [.v (.int .i64 p.1), .v (vU64 p.2)]))] hp (.x (.a (.v (.int .i64 (posP l p))))) hp := callOK_v fun γ w hS => by
  obtain ⟨A, c, e1, b1, r1⟩ := h γ w hS
  show Calls _ _ #[sv.val γ, .agg #[.int .i64 p.1, vU64 p.2]] w _
  rw [e1]
  exact indexP_any l p A c w hl r1
set_option maxRecDepth 100000 in
theorem containsP_any (l : List Pr) (p : Pr) (A : Option Addr) (c : Nat) (w : World) (hl : l.length ≤ 1000000) (hc : l.length ≤ c) (hR : RdV w w.heap.size A (pvs l)) : Calls Tryz.prog 20 #[.slice A l.length c, .agg #[.int .i64 p.1, vU64 p.2]] w fun e w' => e = .returned (.bool (isP l p)) ∧ Below w.heap.size w w' := by
  refine calls_v (n := 9) Tryz.func20 rfl Tryz.ntmps20 [(.x (.a (.v (.slice A l.length c)))), (.x (.g [.v (.int .i64 p.1), .v (vU64 p.2)]))] (by simp) (.x (.a (.v (.bool (isP l p))))) (fun _ => rfl) ?_
  have hp := posP_in l p
  simp only [undef, push_cast, ↓Int.toNat_natCast, ↓Int.cast_ofNat_Int, Int.cast_ofNat_Int, ↓reduceIte, reduceCtorEq, Nat.reduceEqDiff, Nat.reduceLT, Nat.reduceLeDiff, Nat.reduceAdd, Nat.reduceSub, Nat.reduceMul, Int.reduceNeg, Int.reduceLE, Int.reduceLT, Int.reduceToNat, Int.reduceAdd, Int.reduceSub, Int.reduceMul, Int.reduceEq]
  refine callG_v rfl cb42 rfl (indexPOK p hl (showsR_raw hR hc)) (dOk_lt rfl) ?_
  simp only [hp, undef, push_cast, ↓Int.toNat_natCast, ↓Int.cast_ofNat_Int, Int.cast_ofNat_Int, ↓reduceIte, reduceCtorEq, Nat.reduceEqDiff, Nat.reduceLT, Nat.reduceLeDiff, Nat.reduceAdd, Nat.reduceSub, Nat.reduceMul, Int.reduceNeg, Int.reduceLE, Int.reduceLT, Int.reduceToNat, Int.reduceAdd, Int.reduceSub, Int.reduceMul, Int.reduceEq]
theorem containsPOK2 {w0 : World} {hp : List Res} {sv : Sv} {l : List Pr} (p : Pr) (hl : l.length ≤ 1000000) (h : ShowsR w0 No hp sv l.length (pvs l)) : CallOK Tryz.prog w0 No 20 [sv, (.x (.g [.v (.int .i64 p.1), .v (vU64 p.2)]))] hp (.x (.a (.v (.bool (isP l p))))) hp := callOK_v fun γ w hS => by
  obtain ⟨A, c, e1, b1, r1⟩ := h γ w hS
  show Calls _ _ #[sv.val γ, .agg #[.int .i64 p.1, vU64 p.2]] w _
  rw [e1]
  exact containsP_any l p A c w hl b1 r1
/-! ### Law 25's -/
section
variable (a b : List UInt64) (A : Option Addr) (c : Nat) (A2 : Option Addr) (c2 : Nat) (w : World) (hm : a.length ≤ 100000) (hR : RdV w w.heap.size A (a.map vU64)) (hR2 : RdV w w.heap.size A2 (b.map vU64))
include hm hR hR2
end
end Go.Proofs.YteiifdpikcnbgaaGreatDoor
