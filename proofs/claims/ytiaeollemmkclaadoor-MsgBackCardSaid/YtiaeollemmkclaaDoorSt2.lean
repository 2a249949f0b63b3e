import Derived.Test.YtiaeollemmkclaaDoorSetA
import Derived.Test.YtiaeollemmkclaaDoorShA
/- Layer 15: sets (set.can, Bits, From, Either, Both, Less, Has, Check). -/
namespace Go.Proofs.YtiaeollemmkclaaDoor
open Go.RowKit
set_option linter.unusedSimpArgs false
set_option linter.unusedVariables false
def canF (n : Int) : Bool := decide (0 ≤ n ∧ n < 64)
theorem canF_yes {n : Int} (h : 0 ≤ n ∧ n < 64) : canF n = true := decide_eq_true h
theorem canF_no {n : Int} (h : ¬ (0 ≤ n ∧ n < 64)) : canF n = false := decide_eq_false h
attribute [local irreducible] Callable CallOK CallG CallM DrawG LoopG symR symM
attribute [local irreducible] bitsF fromF bitStep canF
section
variable {w0 : World} {ow : Nat → Prop} {hp : List Res}
set_option maxRecDepth 100000 in
theorem can_any (n : Int) (w : World) : Calls Tryd.prog 84 #[.int .i64 n] w fun e w' => e = .returned (.bool (canF n)) ∧ Below w.heap.size w w' := by
  refine calls_v (n := 9) Tryd.func84 rfl Tryd.ntmps84 [.x (.a (.v (.int .i64 n)))] (by simp) (.x (.a (.v (.bool (canF n))))) (fun _ => rfl) ?_
  by_cases h : (0 : Int) ≤ n
  · by_cases h1 : n < 64
    · have hd := canF_yes ⟨h, h1⟩
      simp (config := { maxSteps := 1000000 }) only [h, h1, hd, push_cast, ↓reduceIte, reduceCtorEq, Nat.reduceEqDiff, Nat.reduceLT]
      done
    · have hd := canF_no (n := n) fun e => h1 e.2
      simp (config := { maxSteps := 1000000 }) only [h, h1, hd, push_cast, ↓reduceIte, reduceCtorEq, Nat.reduceEqDiff, Nat.reduceLT]
      done
  · have hd := canF_no (n := n) fun e => h e.1
    simp (config := { maxSteps := 1000000 }) only [h, hd, undef, push_cast, ↓reduceIte, reduceCtorEq, Nat.reduceEqDiff, Nat.reduceLT]
    done
theorem canK (n : Int) : CallOK Tryd.prog w0 ow 84 [.x (.a (.v (.int .i64 n)))] hp (.x (.a (.v (.bool (canF n))))) hp := callOK_v fun γ w _ => can_any n w
def fromTo (v : UInt64) (n : Nat) : List Int := ((List.range n).filter (bitT v)).map Int.ofNat
attribute [local irreducible] fromTo
end
end Go.Proofs.YtiaeollemmkclaaDoor
/- Layer 15: sets out of two, what is in, what may be. -/
namespace Go.Proofs.YtiaeollemmkclaaDoor
open Go.RowKit
set_option linter.unusedSimpArgs false
set_option linter.unusedVariables false
attribute [local irreducible] Callable CallOK CallG CallM DrawG LoopG symR symM
attribute [local irreducible] bitsF fromF canF hasF chkS
section
variable {w0 : World} {ow : Nat → Prop} {hp : List Res} {a b : List Int} {s1 s2 : Sv}
/-- An error, or none. -/
def okV (b : Bool) (n : Int) : Value := if b = true then .nilIface else .iface 137 (.int .i64 n)
theorem okV_true (n : Int) : okV true n = .nilIface := rfl
theorem okV_false (n : Int) : okV false n = .iface 137 (.int .i64 n) := rfl
attribute [local irreducible] okV
set_option maxRecDepth 100000 in
theorem check_any (l : List Int) (A : Option Addr) (c : Nat) (w : World) (hm : l.length ≤ 1000000) (hR : RdV w w.heap.size A (l.map (Value.int .i64))) :
    Calls Tryd.prog 119 #[.slice A l.length c] w fun e w' => e = .returned (okV (chkS (-1) l) 1) ∧ Below w.heap.size w w' := by
  have F := FM.of hR
  refine calls_v (n := 23) Tryd.func119 rfl Tryd.ntmps119 [.x (.a (.v (.slice A l.length c)))] (by simp) (.x (.a (.v (okV (chkS (-1) l) 1)))) (fun _ => rfl) ?_
  simp (config := { maxSteps := 1000000 }) only [push_cast, ↓reduceIte, reduceCtorEq, Nat.reduceLT, Int.reduceNeg]
  refine loop_rule (ι := Nat × Int) (fun x => ⟨[(3, .x (.a (.v (.int .i64 x.2)))), (6, .x (.a (.v (.slice A l.length c)))), (7, .x (.a (.v (.int .i64 l.length)))), (8, .x (.a (.v (.int .i64 (x.1 : Nat)))))], []⟩) (fun x => x.1 ≤ l.length ∧ chkS (-1) l = chkS x.2 (l.drop x.1)) (fun x => l.length - x.1) (0, -1) [] ⟨Nat.zero_le _, rfl⟩ ?_ ?_
  · simp (config := { maxSteps := 1000000 }) only [push_cast, ↓Int.cast_ofNat_Int, Int.cast_ofNat_Int, ↓reduceIte, Nat.reduceEqDiff, Int.reduceNeg]
  rintro ⟨i, last⟩ ⟨hi, hk⟩
  dsimp only at hi hk
  by_cases hlt : (i : Int) < l.length
  · have hil : i < l.length := by omega
    have i0 : (0 : Int) ≤ i := by omega
    have c0 := F.cell i hil
    have o0 := F.ok i hil
    have hA := F.some_ (by omega)
    have hd : l.drop i = ix l i :: l.drop (i + 1) := by
      rw [List.drop_eq_getElem_cons hil, ix, List.getD_eq_getElem?_getD, List.getElem?_eq_getElem hil]; rfl
    rw [hd, chkS] at hk
    generalize ix l i = n at *
    have nx : (i : Int) + 1 ≤ 9223372036854775807 := by omega
    by_cases hle : n ≤ last
    · rw [if_pos (.inl hle)] at hk
      have hf := okV_false 1
      simp (config := { maxSteps := 1000000 }) only [hlt, i0, c0, o0, hA, hle, hk, hf, undef, push_cast, ↓Int.toNat_natCast, ↓reduceIte, reduceCtorEq, Nat.reduceEqDiff, Nat.reduceLT, Int.reduceNeg]
      done
    · simp (config := { maxSteps := 1000000 }) only [hlt, i0, c0, o0, hA, hle, push_cast, ↓Int.toNat_natCast, ↓reduceIte, reduceCtorEq, Nat.reduceEqDiff, Nat.reduceLT, Int.reduceNeg]
      (repeat (refine And.intro (by first | omega | decide) ?_))
      refine callG_v rfl cb84 rfl (canK _) (dOk_lt rfl) ?_
      by_cases h : 0 ≤ n ∧ n < 64
      · rw [if_neg (by intro e; rcases e with e | e; exact hle e; exact e h)] at hk
        have hc := canF_yes h
        simp (config := { maxSteps := 1000000 }) only [hc, push_cast, ↓reduceIte, Nat.reduceEqDiff, Nat.reduceLT, Int.reduceNeg]
        (repeat (refine And.intro (by first | omega | decide) ?_))
        refine loopK_normal (i + 1, n) [] ⟨by show i + 1 ≤ l.length; omega, hk⟩ (by show l.length - (i + 1) < l.length - i; omega) ?_
        simp (config := { maxSteps := 1000000 }) only [push_cast, ↓reduceIte, Nat.reduceEqDiff]
        done
      · rw [if_pos (.inr h)] at hk
        have hc := canF_no h
        have hf := okV_false 1
        simp (config := { maxSteps := 1000000 }) only [hc, hk, hf, push_cast, ↓reduceIte, Nat.reduceEqDiff, Nat.reduceLT, Int.reduceNeg]
        done
  · obtain rfl : i = l.length := by omega
    rw [List.drop_length, chkS] at hk
    have hf := okV_true 1
    simp (config := { maxSteps := 1000000 }) only [hlt, hk, hf, push_cast, ↓reduceIte, Nat.reduceEqDiff, Nat.reduceLT, Int.reduceNeg]
    done
theorem checkK {sv : Sv} {l : List Int} (hm : l.length ≤ 1000000) (h : Shows w0 ow hp sv (l.map (Value.int .i64))) : CallOK Tryd.prog w0 ow 119 [sv] hp (.x (.a (.v (okV (chkS (-1) l) 1)))) hp := callOK_v fun γ w hS => by
  obtain ⟨A, c, e1, b1, r1⟩ := h γ w hS
  rw [List.length_map] at e1
  show Calls _ _ #[sv.val γ] w _
  rw [e1]
  exact check_any l A c w hm r1
end
end Go.Proofs.YtiaeollemmkclaaDoor
