/- What chance gives: draw.For and the document's. -/
import Derived.Test.YtohnlajccfnecaaDoorDr1
import Derived.Test.YtohnlajccfnecaaDoorPg4
import Derived.Test.YtohnlajccfnecaaDoorHand
import Derived.Test.YtohnlajccfnecaaDoorLib
import Derived.Lib.AppendIntMem
import Derived.Lib.SmallJoins
namespace Go.Proofs.YtohnlajccfnecaaDoor
open Go.RowKit
set_option linter.unusedSimpArgs false
theorem dec_ch (n : Nat) : ∀ b ∈ Lib.decDigits n, chB b = true := by
  induction n using Nat.strongRecOn with
  | _ n ih =>
    intro b hb
    have hd : ∀ k, k < 10 → chB (UInt8.ofNat (48 + k)) = true := by decide
    by_cases h : n < 10
    · rw [Lib.decDigits_one h] at hb
      rw [List.mem_singleton.1 hb]
      exact hd n h
    · rw [Lib.decDigits, dif_neg h] at hb
      rcases List.mem_append.1 hb with hb | hb
      · exact ih (n / 10) (by omega) b hb
      · rw [List.mem_singleton.1 hb]
        exact hd _ (Nat.mod_lt _ (by omega))
theorem dec_len (k : Nat) : ∀ n, n < 10 ^ k → (Lib.decDigits n).length ≤ k + 1 := by
  induction k with
  | zero =>
    intro n hn
    rw [Lib.decDigits_one (by omega)]
    simp
  | succ k ih =>
    intro n hn
    by_cases h : n < 10
    · rw [Lib.decDigits_one h]; simp
    · rw [Lib.decDigits, dif_neg h, List.length_append]
      have := ih (n / 10) (by rw [Nat.pow_succ] at hn; omega)
      simp
      omega
theorem labTo_all (l : List UInt8) (h : ∀ b ∈ l, chB b = true) (k : Nat) (hk : k ≤ l.length) : labTo (bstr l) k = true := by
  induction k with
  | zero => rfl
  | succ k ih =>
    rw [labTo_succ, ih (by omega)]
    have e : sAt (bstr l) k = l[k] := by
      unfold sAt ix bstr
      simp [List.getD_eq_getElem?_getD, List.getElem?_eq_getElem (show k < l.length by omega)]
    rw [e, h _ (List.getElem_mem _)]
    rfl
def lotL (c g : Nat) : List UInt8 := [108, 111, 116, 32] ++ Lib.decDigits c ++ [32] ++ Lib.decDigits g
theorem lotL_ok (c g : Nat) (hc : c < 64) (hg : g ≤ 1073741824) : labOk (bstr (lotL c g)) = true := by
  have h1 := dec_len 2 c (by omega)
  have h2 := dec_len 10 g (by omega)
  have hl : (lotL c g).length ≤ 64 := by unfold lotL; simp; omega
  unfold labOk
  rw [bstr_size, decide_eq_true hl, Bool.true_and]
  refine labTo_all _ ?_ _ (Nat.le_refl _)
  intro b hb
  unfold lotL at hb
  simp only [List.mem_append, List.mem_cons, List.not_mem_nil, or_false] at hb
  rcases hb with ((hb | hb) | hb) | hb
  · rcases hb with rfl | rfl | rfl | rfl <;> decide
  · exact dec_ch c b hb
  · rw [hb]; decide
  · exact dec_ch g b hb
def nAt (x : UInt64) (s : ByteArray) (i : Nat) : UInt64 := numOut x s i
def nTo (x : UInt64) (s : ByteArray) : Nat → List UInt64
  | 0 => []
  | k + 1 => nTo x s k ++ [nAt x s k]
theorem nTo_zero (x : UInt64) (s : ByteArray) : nTo x s 0 = [] := rfl
theorem nTo_succ (x : UInt64) (s : ByteArray) (k : Nat) : nTo x s (k + 1) = nTo x s k ++ [nAt x s k] := rfl
theorem nTo_length (x : UInt64) (s : ByteArray) (k : Nat) : (nTo x s k).length = k := by
  induction k with
  | zero => rfl
  | succ k ih => simp [nTo, ih]
theorem nTo_ix (x : UInt64) (s : ByteArray) (n k : Nat) (h : k < n) : ix (nTo x s n) k = nAt x s k := by
  induction n with
  | zero => omega
  | succ n ih =>
    have hl := nTo_length x s n
    rw [nTo_succ]
    by_cases e : k = n
    · subst e
      unfold ix
      rw [List.getD_eq_getElem?_getD, List.getElem?_append_right (by omega), hl, Nat.sub_self]
      rfl
    · rw [← ih (by omega)]
      unfold ix
      rw [List.getD_eq_getElem?_getD, List.getElem?_append_left (by omega), List.getD_eq_getElem?_getD]
/-- Every other one, from the a-th on. -/
def eTo (x : UInt64) (s : ByteArray) (a : Nat) : Nat → List UInt64
  | 0 => []
  | k + 1 => eTo x s a k ++ [nAt x s (2 * k + a)]
theorem eTo_zero (x : UInt64) (s : ByteArray) (a : Nat) : eTo x s a 0 = [] := rfl
theorem eTo_succ (x : UInt64) (s : ByteArray) (a k : Nat) : eTo x s a (k + 1) = eTo x s a k ++ [nAt x s (2 * k + a)] := rfl
theorem eTo_length (x : UInt64) (s : ByteArray) (a k : Nat) : (eTo x s a k).length = k := by
  induction k with
  | zero => rfl
  | succ k ih => simp [eTo, ih]
def TabW (w : World) : Prop := Lib.TabIs Tryd.prog w "internal/strconv.uint64pow10" .u64 Lib.pow10Tab
theorem pow_global : Tryd.prog.globalNamed "internal/strconv.uint64pow10" = some 1 := by kernel_rfl
theorem TabW.later {w0 w : World} {γ : List Nm} {hp : List Res} (h : TabW w0) (hS : Sat w0 No γ hp w) : TabW w := Go.Joins.tab_stays pow_global h (keeps_below hS.keeps) (Nat.le_refl _)
theorem itoaOK {w0 : World} {hp : List Res} (n : Nat) (hn : n ≤ 9223372036854775807) (ht : TabW w0) : CallOK Tryd.prog w0 No 28 [.x (.a (.v (.int .i64 n)))] hp (.x (.a (.v (.string (bstr (Lib.decDigits n)))))) hp := callOK_v fun γ w hS => by
  refine (Tryd.strconv_Itoa n (by omega) (by omega) w (ht.later hS)).mono ?_
  rintro e w' ⟨rfl, k, os, rfl⟩
  rw [Lib.itoa_nonneg]
  exact ⟨rfl, Lib.below_grow _ _ (Nat.le_refl _) k os⟩
theorem digits24OK {w0 : World} {ow : Nat → Prop} {hp : List Res} (n : Nat) (hn : n ≤ 1099511627776) : CallOK Tryd.prog w0 ow 34 [.x (.a (.v (.int .i64 n)))] hp (.x (.a (.v (.string (bstr (Lib.decDigits n)))))) hp := callOK_v fun _ w _ => digits24_any n hn w
theorem lot_pre : ({ data := #[108, 111, 116, 32] } : ByteArray) = bstr [108, 111, 116, 32] := rfl
theorem lot_mid : ({ data := #[32] } : ByteArray) = bstr [32] := rfl
theorem lotL_eq (c g : Nat) : 108 :: 111 :: 116 :: 32 :: (Lib.decDigits c ++ [32] ++ Lib.decDigits g) = lotL c g := by unfold lotL; rfl
def drOk (c g m : Int) : Bool := decide (0 ≤ c ∧ c < 64 ∧ 1 ≤ g ∧ g ≤ 1073741824 ∧ 0 ≤ m ∧ m < 12)
attribute [local irreducible] numOut wOk nTo eTo lotL labOk
attribute [local irreducible] Callable CallOK CallG CallM DrawG LoopG symR symM
set_option maxRecDepth 100000 in
set_option maxHeartbeats 4000000 in
theorem for_no (x : UInt64) (c g m : Int) (w : World) (h : drOk c g m = false) : Calls Tryd.prog 19 (List.map (Sv.val []) [.x (.a (.v (vU64 x))), .x (.a (.v (.int .i64 c))), .x (.a (.v (.int .i64 g))), .x (.a (.v (.int .i64 m)))]).toArray w fun e w' => ∃ γ1, e = .returned ((Sv.t [.g [.v (.int .u64 0), .v (.int .u64 0), .v (.slice none 0 0), .v (.slice none 0 0)], .a (.v (.iface 74 (.int .i64 1)))]).val γ1) ∧ Sat w No γ1 [] w' := by
  refine calls_fun (n := 107) Tryd.func19 rfl Tryd.ntmps19 [.x (.a (.v (vU64 x))), .x (.a (.v (.int .i64 c))), .x (.a (.v (.int .i64 g))), .x (.a (.v (.int .i64 m)))] (Sat.init w No) (by simp) _ _ ?_
  simp only [push_cast, ↓Int.toNat_natCast, ↓Int.cast_ofNat_Int, Int.cast_ofNat_Int, ↓reduceIte, reduceCtorEq, Nat.reduceEqDiff, Nat.reduceLT, Nat.reduceLeDiff, Nat.reduceAdd, Nat.reduceSub, Nat.reduceMul, Int.reduceNeg, Int.reduceLE, Int.reduceLT, Int.reduceToNat, Int.reduceAdd, Int.reduceSub, Int.reduceMul, Int.reduceEq]
  have hc : c < 0 ∨ (¬ c < 0 ∧ (64 : Int) ≤ c) ∨ (¬ c < 0 ∧ ¬ (64 : Int) ≤ c ∧ g < 1) ∨ (¬ c < 0 ∧ ¬ (64 : Int) ≤ c ∧ ¬ g < 1 ∧ (1073741824 : Int) < g) ∨ (¬ c < 0 ∧ ¬ (64 : Int) ≤ c ∧ ¬ g < 1 ∧ ¬ (1073741824 : Int) < g ∧ m < 0) ∨ (¬ c < 0 ∧ ¬ (64 : Int) ≤ c ∧ ¬ g < 1 ∧ ¬ (1073741824 : Int) < g ∧ ¬ m < 0 ∧ (12 : Int) ≤ m) := by
    unfold drOk at h
    have h := of_decide_eq_false h
    omega
  rcases hc with h1 | ⟨h1, h2⟩ | ⟨h1, h2, h3⟩ | ⟨h1, h2, h3, h4⟩ | ⟨h1, h2, h3, h4, h5⟩ | ⟨h1, h2, h3, h4, h5, h6⟩
  · simp only [h1, undef, push_cast, ↓Int.toNat_natCast, ↓Int.cast_ofNat_Int, Int.cast_ofNat_Int, ↓reduceIte, reduceCtorEq, Nat.reduceEqDiff, Nat.reduceLT, Nat.reduceLeDiff, Nat.reduceAdd, Nat.reduceSub, Nat.reduceMul, Int.reduceNeg, Int.reduceLE, Int.reduceLT, Int.reduceToNat, Int.reduceAdd, Int.reduceSub, Int.reduceMul, Int.reduceEq]
    refine endsAs [] ?_
    simp only [push_cast, ↓Int.toNat_natCast, ↓Int.cast_ofNat_Int, Int.cast_ofNat_Int, ↓reduceIte, reduceCtorEq, Nat.reduceEqDiff, Nat.reduceLT, Nat.reduceLeDiff, Nat.reduceAdd, Nat.reduceSub, Nat.reduceMul, Int.reduceNeg, Int.reduceLE, Int.reduceLT, Int.reduceToNat, Int.reduceAdd, Int.reduceSub, Int.reduceMul, Int.reduceEq]
  · simp only [h1, h2, undef, push_cast, ↓Int.toNat_natCast, ↓Int.cast_ofNat_Int, Int.cast_ofNat_Int, ↓reduceIte, reduceCtorEq, Nat.reduceEqDiff, Nat.reduceLT, Nat.reduceLeDiff, Nat.reduceAdd, Nat.reduceSub, Nat.reduceMul, Int.reduceNeg, Int.reduceLE, Int.reduceLT, Int.reduceToNat, Int.reduceAdd, Int.reduceSub, Int.reduceMul, Int.reduceEq]
    refine endsAs [] ?_
    simp only [push_cast, ↓Int.toNat_natCast, ↓Int.cast_ofNat_Int, Int.cast_ofNat_Int, ↓reduceIte, reduceCtorEq, Nat.reduceEqDiff, Nat.reduceLT, Nat.reduceLeDiff, Nat.reduceAdd, Nat.reduceSub, Nat.reduceMul, Int.reduceNeg, Int.reduceLE, Int.reduceLT, Int.reduceToNat, Int.reduceAdd, Int.reduceSub, Int.reduceMul, Int.reduceEq]
  · simp only [h1, h2, h3, undef, push_cast, ↓Int.toNat_natCast, ↓Int.cast_ofNat_Int, Int.cast_ofNat_Int, ↓reduceIte, reduceCtorEq, Nat.reduceEqDiff, Nat.reduceLT, Nat.reduceLeDiff, Nat.reduceAdd, Nat.reduceSub, Nat.reduceMul, Int.reduceNeg, Int.reduceLE, Int.reduceLT, Int.reduceToNat, Int.reduceAdd, Int.reduceSub, Int.reduceMul, Int.reduceEq]
    refine endsAs [] ?_
    simp only [push_cast, ↓Int.toNat_natCast, ↓Int.cast_ofNat_Int, Int.cast_ofNat_Int, ↓reduceIte, reduceCtorEq, Nat.reduceEqDiff, Nat.reduceLT, Nat.reduceLeDiff, Nat.reduceAdd, Nat.reduceSub, Nat.reduceMul, Int.reduceNeg, Int.reduceLE, Int.reduceLT, Int.reduceToNat, Int.reduceAdd, Int.reduceSub, Int.reduceMul, Int.reduceEq]
  · simp only [h1, h2, h3, h4, undef, push_cast, ↓Int.toNat_natCast, ↓Int.cast_ofNat_Int, Int.cast_ofNat_Int, ↓reduceIte, reduceCtorEq, Nat.reduceEqDiff, Nat.reduceLT, Nat.reduceLeDiff, Nat.reduceAdd, Nat.reduceSub, Nat.reduceMul, Int.reduceNeg, Int.reduceLE, Int.reduceLT, Int.reduceToNat, Int.reduceAdd, Int.reduceSub, Int.reduceMul, Int.reduceEq]
    refine endsAs [] ?_
    simp only [push_cast, ↓Int.toNat_natCast, ↓Int.cast_ofNat_Int, Int.cast_ofNat_Int, ↓reduceIte, reduceCtorEq, Nat.reduceEqDiff, Nat.reduceLT, Nat.reduceLeDiff, Nat.reduceAdd, Nat.reduceSub, Nat.reduceMul, Int.reduceNeg, Int.reduceLE, Int.reduceLT, Int.reduceToNat, Int.reduceAdd, Int.reduceSub, Int.reduceMul, Int.reduceEq]
  · simp only [h1, h2, h3, h4, h5, undef, push_cast, ↓Int.toNat_natCast, ↓Int.cast_ofNat_Int, Int.cast_ofNat_Int, ↓reduceIte, reduceCtorEq, Nat.reduceEqDiff, Nat.reduceLT, Nat.reduceLeDiff, Nat.reduceAdd, Nat.reduceSub, Nat.reduceMul, Int.reduceNeg, Int.reduceLE, Int.reduceLT, Int.reduceToNat, Int.reduceAdd, Int.reduceSub, Int.reduceMul, Int.reduceEq]
    refine endsAs [] ?_
    simp only [push_cast, ↓Int.toNat_natCast, ↓Int.cast_ofNat_Int, Int.cast_ofNat_Int, ↓reduceIte, reduceCtorEq, Nat.reduceEqDiff, Nat.reduceLT, Nat.reduceLeDiff, Nat.reduceAdd, Nat.reduceSub, Nat.reduceMul, Int.reduceNeg, Int.reduceLE, Int.reduceLT, Int.reduceToNat, Int.reduceAdd, Int.reduceSub, Int.reduceMul, Int.reduceEq]
  · simp only [h1, h2, h3, h4, h5, h6, undef, push_cast, ↓Int.toNat_natCast, ↓Int.cast_ofNat_Int, Int.cast_ofNat_Int, ↓reduceIte, reduceCtorEq, Nat.reduceEqDiff, Nat.reduceLT, Nat.reduceLeDiff, Nat.reduceAdd, Nat.reduceSub, Nat.reduceMul, Int.reduceNeg, Int.reduceLE, Int.reduceLT, Int.reduceToNat, Int.reduceAdd, Int.reduceSub, Int.reduceMul, Int.reduceEq]
    refine endsAs [] ?_
    simp only [push_cast, ↓Int.toNat_natCast, ↓Int.cast_ofNat_Int, Int.cast_ofNat_Int, ↓reduceIte, reduceCtorEq, Nat.reduceEqDiff, Nat.reduceLT, Nat.reduceLeDiff, Nat.reduceAdd, Nat.reduceSub, Nat.reduceMul, Int.reduceNeg, Int.reduceLE, Int.reduceLT, Int.reduceToNat, Int.reduceAdd, Int.reduceSub, Int.reduceMul, Int.reduceEq]
set_option maxRecDepth 100000 in
set_option maxHeartbeats 4000000 in
theorem for_yes (x : UInt64) (c g m : Nat) (hc : c < 64) (hg1 : 1 ≤ g) (hg : g ≤ 1073741824) (hm : m < 12) (w : World) (hk : LaidK 5 w) (ht : TabW w) : Calls Tryd.prog 19 (List.map (Sv.val []) [.x (.a (.v (vU64 x))), .x (.a (.v (.int .i64 c))), .x (.a (.v (.int .i64 g))), .x (.a (.v (.int .i64 m)))]).toArray w fun e w' => ∃ γ1, e = .returned ((Sv.t [.g [.v (vU64 (nAt x (bstr (lotL c g)) 0)), .v (vU64 (nAt x (bstr (lotL c g)) 1)), .o 0, .o 1], .a (.v .nilIface)]).val γ1) ∧ Sat w No γ1 [.own 47 (.u64 (eTo x (bstr (lotL c g)) 2 m)), .own 47 (.u64 (eTo x (bstr (lotL c g)) 3 m))] w' := by
  have hlab := lotL_ok c g hc hg
  have hw : ∀ i : Nat, i ≤ 100 → wErr (bstr (lotL c g)) i 1048576 = .nilIface := fun i hi => wErr_yes (wOk_yes hlab (by omega) (by omega))
  have hj := lotL_eq c g
  have d1 := dec_len 2 c (by omega)
  have d2 := dec_len 10 g (by omega)
  refine calls_fun (n := 107) Tryd.func19 rfl Tryd.ntmps19 [.x (.a (.v (vU64 x))), .x (.a (.v (.int .i64 c))), .x (.a (.v (.int .i64 g))), .x (.a (.v (.int .i64 m)))] (Sat.init w No) (by simp) _ _ ?_
  have h1 : ¬ (c : Int) < 0 := by omega
  have h2 : ¬ (64 : Int) ≤ c := by omega
  have h3 : ¬ (g : Int) < 1 := by omega
  have h4 : ¬ (1073741824 : Int) < g := by omega
  have h5 : ¬ (m : Int) < 0 := by omega
  have h6 : ¬ (12 : Int) ≤ m := by omega
  simp only [h1, h2, h3, h4, h5, h6, undef, push_cast, ↓Int.toNat_natCast, ↓Int.cast_ofNat_Int, Int.cast_ofNat_Int, ↓reduceIte, reduceCtorEq, Nat.reduceEqDiff, Nat.reduceLT, Nat.reduceLeDiff, Nat.reduceAdd, Nat.reduceSub, Nat.reduceMul, Int.reduceNeg, Int.reduceLE, Int.reduceLT, Int.reduceToNat, Int.reduceAdd, Int.reduceSub, Int.reduceMul, Int.reduceEq]
  (repeat (refine And.intro (by first | omega | decide) ?_))
  refine callG_v rfl cb28 rfl (itoaOK c (by omega) ht) (dOk_lt rfl) ?_
  simp only [lot_pre, lot_mid, bstr_app, bstr_size, push_cast, ↓Int.toNat_natCast, ↓Int.cast_ofNat_Int, Int.cast_ofNat_Int, ↓reduceIte, reduceCtorEq, Nat.reduceEqDiff, Nat.reduceLT, Nat.reduceLeDiff, Nat.reduceAdd, Nat.reduceSub, Nat.reduceMul, Int.reduceNeg, Int.reduceLE, Int.reduceLT, Int.reduceToNat, Int.reduceAdd, Int.reduceSub, Int.reduceMul, Int.reduceEq]
  (repeat (refine And.intro (by first | omega | decide) ?_))
  refine callG_v rfl cb28 rfl (itoaOK g (by omega) ht) (dOk_lt rfl) ?_
  simp only [lot_pre, lot_mid, bstr_app, bstr_size, hj, push_cast, ↓Int.toNat_natCast, ↓Int.cast_ofNat_Int, Int.cast_ofNat_Int, ↓reduceIte, reduceCtorEq, Nat.reduceEqDiff, Nat.reduceLT, Nat.reduceLeDiff, Nat.reduceAdd, Nat.reduceSub, Nat.reduceMul, Int.reduceNeg, Int.reduceLE, Int.reduceLT, Int.reduceToNat, Int.reduceAdd, Int.reduceSub, Int.reduceMul, Int.reduceEq]
  (repeat (refine And.intro (by first | omega | decide) ?_))
  generalize hs : bstr (lotL c g) = s at *
  refine loop_rule (ι := Nat) (fun i => ⟨[(0, .x (.a (.v (vU64 x)))), (8, .x (.a (.p 0 0))), (10, .x (.a (.v (.string s)))), (11, .x (.a (.o 1))), (54, .x (.a (.v (.int .i64 (2 + 2 * (m : Int)))))), (55, .x (.a (.v (.int .i64 i))))],
    [.blk 51 (.c [.v (.int .u64 0), .v (.int .u64 0), .v (.slice none 0 0), .v (.slice none 0 0)]), .own 47 (.u64 (nTo x s i))]⟩) (fun i => i ≤ 2 + 2 * m) (fun i => 2 + 2 * m - i) 0 [0, 1] (by omega) ?_ ?_
  · simp only [nTo_zero, List.replicate_zero, push_cast, ↓Int.toNat_natCast, ↓Int.cast_ofNat_Int, Int.cast_ofNat_Int, ↓reduceIte, reduceCtorEq, Nat.reduceEqDiff, Nat.reduceLT, Nat.reduceLeDiff, Nat.reduceAdd, Nat.reduceSub, Nat.reduceMul, Int.reduceNeg, Int.reduceLE, Int.reduceLT, Int.reduceToNat, Int.reduceAdd, Int.reduceSub, Int.reduceMul, Int.reduceEq]
  · intro i hi
    have hnl := nTo_length x s i
    have hwi := hw i (by omega)
    by_cases hlt : (i : Int) < 2 + 2 * (m : Int)
    · simp only [hlt, undef, push_cast, ↓Int.toNat_natCast, ↓Int.cast_ofNat_Int, Int.cast_ofNat_Int, ↓reduceIte, reduceCtorEq, Nat.reduceEqDiff, Nat.reduceLT, Nat.reduceLeDiff, Nat.reduceAdd, Nat.reduceSub, Nat.reduceMul, Int.reduceNeg, Int.reduceLE, Int.reduceLT, Int.reduceToNat, Int.reduceAdd, Int.reduceSub, Int.reduceMul, Int.reduceEq]
      (repeat (refine And.intro (by first | omega | decide) ?_))
      refine callG_v rfl cb33 rfl (num7OK x s i hk) (dOk_lt rfl) ?_
      simp only [hlt, hwi, hnl, undef, push_cast, ↓Int.toNat_natCast, ↓Int.cast_ofNat_Int, Int.cast_ofNat_Int, ↓reduceIte, reduceCtorEq, Nat.reduceEqDiff, Nat.reduceLT, Nat.reduceLeDiff, Nat.reduceAdd, Nat.reduceSub, Nat.reduceMul, Int.reduceNeg, Int.reduceLE, Int.reduceLT, Int.reduceToNat, Int.reduceAdd, Int.reduceSub, Int.reduceMul, Int.reduceEq]
      (repeat (refine And.intro (by first | omega | decide) ?_))
      refine loopK_normal (i + 1) [0, 3] (by omega) (by omega) ?_
      simp only [nTo_succ, nAt, push_cast, ↓Int.toNat_natCast, ↓Int.cast_ofNat_Int, Int.cast_ofNat_Int, ↓reduceIte, reduceCtorEq, Nat.reduceEqDiff, Nat.reduceLT, Nat.reduceLeDiff, Nat.reduceAdd, Nat.reduceSub, Nat.reduceMul, Int.reduceNeg, Int.reduceLE, Int.reduceLT, Int.reduceToNat, Int.reduceAdd, Int.reduceSub, Int.reduceMul, Int.reduceEq]
    · have e : i = 2 + 2 * m := by omega
      subst e
      have g0 := nTo_ix x s (2 + 2 * m) 0 (by omega)
      have g1 := nTo_ix x s (2 + 2 * m) 1 (by omega)
      simp only [Int.lt_irrefl, undef, push_cast, ↓Int.toNat_natCast, ↓Int.cast_ofNat_Int, Int.cast_ofNat_Int, ↓reduceIte, reduceCtorEq, Nat.reduceEqDiff, Nat.reduceLT, Nat.reduceLeDiff, Nat.reduceAdd, Nat.reduceSub, Nat.reduceMul, Int.reduceNeg, Int.reduceLE, Int.reduceLT, Int.reduceToNat, Int.reduceAdd, Int.reduceSub, Int.reduceMul, Int.reduceEq]
      (repeat (refine And.intro (by first | omega | decide) ?_))
      refine drawT_rule 8 [(0, true), (1, true), (2, true), (3, true), (4, true), (5, true), (6, true), (7, false)] (by kernel_rfl) (by kernel_rfl) ?_
      simp only [hnl, g0, g1, undef, push_cast, ↓Int.toNat_natCast, ↓Int.cast_ofNat_Int, Int.cast_ofNat_Int, ↓reduceIte, reduceCtorEq, Nat.reduceEqDiff, Nat.reduceLT, Nat.reduceLeDiff, Nat.reduceAdd, Nat.reduceSub, Nat.reduceMul, Int.reduceNeg, Int.reduceLE, Int.reduceLT, Int.reduceToNat, Int.reduceAdd, Int.reduceSub, Int.reduceMul, Int.reduceEq]
      (repeat (refine And.intro (by first | omega | decide) ?_))
      refine loop_keep (16 :: [8, 11, 15]) ?_
      simp only [push_cast, ↓Int.toNat_natCast, ↓Int.cast_ofNat_Int, Int.cast_ofNat_Int, ↓reduceIte, reduceCtorEq, Nat.reduceEqDiff, Nat.reduceLT, Nat.reduceLeDiff, Nat.reduceAdd, Nat.reduceSub, Nat.reduceMul, Int.reduceNeg, Int.reduceLE, Int.reduceLT, Int.reduceToNat, Int.reduceAdd, Int.reduceSub, Int.reduceMul, Int.reduceEq]
      refine loop_ghostC 2 2 51 47 _ (.u64 []) rfl rfl rfl trivial (by simp only [push_cast, ↓Int.toNat_natCast, ↓Int.cast_ofNat_Int, Int.cast_ofNat_Int, ↓reduceIte, reduceCtorEq, Nat.reduceEqDiff, Nat.reduceLT, Nat.reduceLeDiff, Nat.reduceAdd, Nat.reduceSub, Nat.reduceMul, Int.reduceNeg, Int.reduceLE, Int.reduceLT, Int.reduceToNat, Int.reduceAdd, Int.reduceSub, Int.reduceMul, Int.reduceEq]) ?_
      simp only [push_cast, ↓Int.toNat_natCast, ↓Int.cast_ofNat_Int, Int.cast_ofNat_Int, ↓reduceIte, reduceCtorEq, Nat.reduceEqDiff, Nat.reduceLT, Nat.reduceLeDiff, Nat.reduceAdd, Nat.reduceSub, Nat.reduceMul, Int.reduceNeg, Int.reduceLE, Int.reduceLT, Int.reduceToNat, Int.reduceAdd, Int.reduceSub, Int.reduceMul, Int.reduceEq]
      refine loop_ghostC 2 3 51 47 _ (.u64 []) rfl rfl rfl trivial (by simp only [push_cast, ↓Int.toNat_natCast, ↓Int.cast_ofNat_Int, Int.cast_ofNat_Int, ↓reduceIte, reduceCtorEq, Nat.reduceEqDiff, Nat.reduceLT, Nat.reduceLeDiff, Nat.reduceAdd, Nat.reduceSub, Nat.reduceMul, Int.reduceNeg, Int.reduceLE, Int.reduceLT, Int.reduceToNat, Int.reduceAdd, Int.reduceSub, Int.reduceMul, Int.reduceEq]) ?_
      simp only [push_cast, ↓Int.toNat_natCast, ↓Int.cast_ofNat_Int, Int.cast_ofNat_Int, ↓reduceIte, reduceCtorEq, Nat.reduceEqDiff, Nat.reduceLT, Nat.reduceLeDiff, Nat.reduceAdd, Nat.reduceSub, Nat.reduceMul, Int.reduceNeg, Int.reduceLE, Int.reduceLT, Int.reduceToNat, Int.reduceAdd, Int.reduceSub, Int.reduceMul, Int.reduceEq]
      refine loop_rule (ι := Nat) (fun k => ⟨[(8, .x (.a (.p 0 0))), (11, .x (.a (.o 1))), (15, .x (.a (.p 2 0))), (16, .x (.a (.v (.int .i64 (2 * (k : Int) + 2)))))],
        [.blk 51 (.c [.v (.int .u64 0), .v (.int .u64 0), .v (.slice none 0 0), .v (.slice none 0 0)]), .own 47 (.u64 (nTo x s (2 + 2 * m))), .blk 51 (.c [.v (vU64 (nAt x s 0)), .v (vU64 (nAt x s 1)), .o 3, .o 4]), .own 47 (.u64 (eTo x s 2 k)), .own 47 (.u64 (eTo x s 3 k))]⟩) (fun k => k ≤ m) (fun k => m - k) 0 [0, 1, 2, 3, 4] (by omega) ?_ ?_
      · simp only [eTo_zero, push_cast, ↓Int.toNat_natCast, ↓Int.cast_ofNat_Int, Int.cast_ofNat_Int, ↓reduceIte, reduceCtorEq, Nat.reduceEqDiff, Nat.reduceLT, Nat.reduceLeDiff, Nat.reduceAdd, Nat.reduceSub, Nat.reduceMul, Int.reduceNeg, Int.reduceLE, Int.reduceLT, Int.reduceToNat, Int.reduceAdd, Int.reduceSub, Int.reduceMul, Int.reduceEq]
      · intro k hkm
        have e2 := eTo_length x s 2 k
        have e3 := eTo_length x s 3 k
        by_cases hlk : 2 * (k : Int) + 2 < 2 + 2 * (m : Int)
        · have t0 : (2 * (k : Int) + 2).toNat = 2 * k + 2 := by omega
          have t1 : (2 * (k : Int) + 2 + 1).toNat = 2 * k + 3 := by omega
          have i0 := nTo_ix x s (2 + 2 * m) (2 * k + 2) (by omega)
          have i1 := nTo_ix x s (2 + 2 * m) (2 * k + 3) (by omega)
          simp only [hnl, hlk, undef, push_cast, ↓Int.toNat_natCast, ↓Int.cast_ofNat_Int, Int.cast_ofNat_Int, ↓reduceIte, reduceCtorEq, Nat.reduceEqDiff, Nat.reduceLT, Nat.reduceLeDiff, Nat.reduceAdd, Nat.reduceSub, Nat.reduceMul, Int.reduceNeg, Int.reduceLE, Int.reduceLT, Int.reduceToNat, Int.reduceAdd, Int.reduceSub, Int.reduceMul, Int.reduceEq]
          (repeat (refine And.intro (by first | omega | decide) ?_))
          refine drawT_rule 7 [(0, true), (1, true), (2, true), (3, true), (4, true), (5, true), (6, false)] (by kernel_rfl) (by kernel_rfl) ?_
          simp only [hnl, hlk, t0, t1, i0, i1, e2, e3, undef, push_cast, ↓Int.toNat_natCast, ↓Int.cast_ofNat_Int, Int.cast_ofNat_Int, ↓reduceIte, reduceCtorEq, Nat.reduceEqDiff, Nat.reduceLT, Nat.reduceLeDiff, Nat.reduceAdd, Nat.reduceSub, Nat.reduceMul, Int.reduceNeg, Int.reduceLE, Int.reduceLT, Int.reduceToNat, Int.reduceAdd, Int.reduceSub, Int.reduceMul, Int.reduceEq]
          (repeat (refine And.intro (by first | omega | decide) ?_))
          refine drawT_rule 8 [(0, true), (1, true), (2, true), (3, true), (4, true), (5, true), (6, true), (7, false)] (by kernel_rfl) (by kernel_rfl) ?_
          simp only [hnl, hlk, t0, t1, i0, i1, e2, e3, undef, push_cast, ↓Int.toNat_natCast, ↓Int.cast_ofNat_Int, Int.cast_ofNat_Int, ↓reduceIte, reduceCtorEq, Nat.reduceEqDiff, Nat.reduceLT, Nat.reduceLeDiff, Nat.reduceAdd, Nat.reduceSub, Nat.reduceMul, Int.reduceNeg, Int.reduceLE, Int.reduceLT, Int.reduceToNat, Int.reduceAdd, Int.reduceSub, Int.reduceMul, Int.reduceEq]
          (repeat (refine And.intro (by first | omega | decide) ?_))
          refine loopK_normal (k + 1) [0, 1, 2, 6, 8] (by omega) (by omega) ?_
          simp only [eTo_succ, push_cast, ↓Int.toNat_natCast, ↓Int.cast_ofNat_Int, Int.cast_ofNat_Int, ↓reduceIte, reduceCtorEq, Nat.reduceEqDiff, Nat.reduceLT, Nat.reduceLeDiff, Nat.reduceAdd, Nat.reduceSub, Nat.reduceMul, Int.reduceNeg, Int.reduceLE, Int.reduceLT, Int.reduceToNat, Int.reduceAdd, Int.reduceSub, Int.reduceMul, Int.reduceEq]
          all_goals omega
        · have ek : k = m := by omega
          subst ek
          simp only [hnl, hlk, Int.lt_irrefl, undef, push_cast, ↓Int.toNat_natCast, ↓Int.cast_ofNat_Int, Int.cast_ofNat_Int, ↓reduceIte, reduceCtorEq, Nat.reduceEqDiff, Nat.reduceLT, Nat.reduceLeDiff, Nat.reduceAdd, Nat.reduceSub, Nat.reduceMul, Int.reduceNeg, Int.reduceLE, Int.reduceLT, Int.reduceToNat, Int.reduceAdd, Int.reduceSub, Int.reduceMul, Int.reduceEq]
          (repeat (refine And.intro (by first | omega | decide) ?_))
          refine endsAs [3, 4] ?_
          simp only [push_cast, ↓Int.toNat_natCast, ↓Int.cast_ofNat_Int, Int.cast_ofNat_Int, ↓reduceIte, reduceCtorEq, Nat.reduceEqDiff, Nat.reduceLT, Nat.reduceLeDiff, Nat.reduceAdd, Nat.reduceSub, Nat.reduceMul, Int.reduceNeg, Int.reduceLE, Int.reduceLT, Int.reduceToNat, Int.reduceAdd, Int.reduceSub, Int.reduceMul, Int.reduceEq]
end Go.Proofs.YtohnlajccfnecaaDoor
