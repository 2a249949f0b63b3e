import Derived.Test.YtiaeollemmkclaaDoorPk4
/- pack.Writer: a field more (layer 13). -/
namespace Go.Proofs.YtiaeollemmkclaaDoor
open Go.RowKit
set_option linter.unusedSimpArgs false
set_option linter.unusedVariables false
attribute [local irreducible] Callable CallOK CallG CallM DrawG LoopG symR symM
attribute [local irreducible] putV dgV nb8
set_option maxRecDepth 100000 in
theorem put_any {r : List (List UInt8)} {n : Nat} {b : List UInt8} {X : Nat → Prop} {γ : List Nm} {w : World} (g : Nat) (hn : n + b.length ≤ 1000000000) (hS : Sat w X γ [.pin g 47 (.c [.o 1, .v (.int .i64 (n : Int))]), .abs (ChR 125 r), .own 5 (.u8 b)] w) :
    Calls Tryd.prog 109 (List.map (Sv.val γ) [.x (.a (.p 0 0)), .x (.a (.o 2))]).toArray w fun e w' => ∃ γ1, e = .returned ((Sv.t []).val γ1) ∧ Sat w X γ1 [.pin g 47 (.c [.o 1, .v (.int .i64 ((n + b.length : Nat) : Int))]), .abs (ChR 125 (b :: r))] w' := by
  refine (calls_fun (n := 25) Tryd.func109 rfl Tryd.ntmps109 _ hS (by simp) (.t []) [.pin g 47 (.c [.p 3 0, .v (.int .i64 ((n + b.length : Nat) : Int))]), .abs (ChR 125 r), .own 5 (.u8 b), .blk 125 (.c [.o 1, .o 2])] ?_).mono ?_
  · simp (config := { maxSteps := 1000000 }) only [undef, push_cast, ↓Int.toNat_natCast, ↓Int.cast_ofNat_Int, Int.cast_ofNat_Int, ↓reduceIte, reduceCtorEq, Nat.reduceEqDiff, Nat.reduceLT, Nat.reduceLeDiff, Nat.reduceAdd, Nat.reduceSub, Nat.reduceMul, Int.reduceNeg, Int.reduceLE, Int.reduceLT, Int.reduceToNat, Int.reduceAdd, Int.reduceSub, Int.reduceMul, Int.reduceEq]
    refine ⟨by omega, endsAs [0, 1, 2, 3] ?_⟩
    simp (config := { maxSteps := 1000000 }) only [push_cast, ↓Int.toNat_natCast, ↓Int.cast_ofNat_Int, Int.cast_ofNat_Int, ↓reduceIte, reduceCtorEq, Nat.reduceEqDiff, Nat.reduceLT, Nat.reduceLeDiff, Nat.reduceAdd, Nat.reduceSub, Nat.reduceMul, Int.reduceNeg, Int.reduceLE, Int.reduceLT, Int.reduceToNat, Int.reduceAdd, Int.reduceSub, Int.reduceMul, Int.reduceEq]
  · rintro e w' ⟨γ1, he, h1⟩
    obtain ⟨γ2, h2⟩ := h1.chain
    exact ⟨γ2, by rw [he]; rfl, h2⟩
/-- How memory stands behind a call that wrote a field more. -/
def wrS (hp : List Res) (k0 : Nat) (ks : List Nat) (r : List (List UInt8)) (n : Nat) (b : List UInt8) : List Res :=
  moveR (hp.length + 0) k0 (bput hp[k0]? 47 (Cont.ren (shiftL hp.length 2) (.c [.o 1, .v (.int .i64 ((n + b.length : Nat) : Int))]))) (goneAll ks hp ++ [Res.pin 0 47 (.c [.o 1, .v (.int .i64 ((n + b.length : Nat) : Int))]), .abs (ChR 125 (b :: r))].map (Res.ren (shiftL hp.length 2)))
section
variable {w0 : World} {ow : Nat → Prop} {hp : List Res} {k0 k1 k2 n : Nat} {r : List (List UInt8)} {b : List UInt8} {f : FuncId} {svs : List Sv}
/-- A call that writes a field more, as its caller sees it. -/
theorem writerK (hn1 : k0 ≠ k1) (hbr : ∀ r ∈ hp, Res.bnd hp.length r) (hk : bview hp[k0]? = some (47, .c [.o k1, .v (.int .i64 (n : Int))])) (h1 : hp[k1]? = some (.abs (ChR 125 r)))
    (h : ∀ γ w, Sat w0 ow γ hp w → ∀ (X : Nat → Prop), (∀ b, X b → ∃ (k : Nat) (r : Res), k ∈ [k0, k1] ∧ hp[k]? = some r ∧ r.has γ k b) → ∀ (γ0 : List Nm) (g : Nat), Sat w X γ0 [.pin g 47 (.c [.o 1, .v (.int .i64 (n : Int))]), .abs (ChR 125 r)] w → (Sv.x (.a (.p 0 0))).val γ0 = (Sv.x (.a (.p k0 0))).val γ →
      Calls Tryd.prog f (List.map (Sv.val γ) svs).toArray w fun e w' => ∃ γ1, e = .returned ((Sv.t []).val γ1) ∧ Sat w X γ1 [.pin g 47 (.c [.o 1, .v (.int .i64 ((n + b.length : Nat) : Int))]), .abs (ChR 125 (b :: r))] w') :
    CallOK Tryd.prog w0 ow f svs hp (.t []) (wrS hp k0 [k0, k1] r n b) := by
  have := callOK_pin (P := Tryd.prog) (w0 := w0) (ow := ow) (f := f) (svs := svs) (hp := hp) (sv1 := .t []) [k0, k1] 0 k0 (c := .c [.o k1, .v (.int .i64 (n : Int))]) (c1 := .c [.o 1, .v (.int .i64 ((n + b.length : Nat) : Int))])
    (fun g => [.pin g 47 (.c [.o 1, .v (.int .i64 ((n + b.length : Nat) : Int))]), .abs (ChR 125 (b :: r))]) (by simp) hk (fun _ => rfl) (fun _ => rfl) hbr (fun _ => by simp only [push_cast, ↓Int.toNat_natCast, ↓Int.cast_ofNat_Int, Int.cast_ofNat_Int, ↓reduceIte, reduceCtorEq, Nat.reduceEqDiff, Nat.reduceLT, Nat.reduceLeDiff, Nat.reduceAdd, Nat.reduceSub, Nat.reduceMul, Int.reduceNeg, Int.reduceLE, Int.reduceLT, Int.reduceToNat, Int.reduceAdd, Int.reduceSub, Int.reduceMul, Int.reduceEq]) (by simp only [push_cast, ↓Int.toNat_natCast, ↓Int.cast_ofNat_Int, Int.cast_ofNat_Int, ↓reduceIte, reduceCtorEq, Nat.reduceEqDiff, Nat.reduceLT, Nat.reduceLeDiff, Nat.reduceAdd, Nat.reduceSub, Nat.reduceMul, Int.reduceNeg, Int.reduceLE, Int.reduceLT, Int.reduceToNat, Int.reduceAdd, Int.reduceSub, Int.reduceMul, Int.reduceEq])
    (fun g => moveR_pin (by rw [goneAll_length]; rfl)) fun γ w hS => by
    obtain ⟨g1, g2, g3⟩ := hS.hand (k := k0) (ρ := [k0, k1]) (hp0 := [.pin (nmB γ k0) 47 (.c [.o 1, .v (.int .i64 (n : Int))]), .abs (ChR 125 r)]) hk
      ⟨by rw [List.getElem?_set_self (by
            obtain ⟨_, _, r0, hr0, _⟩ := hS.bv hk
            exact lt_of_get hr0)]; rfl, by rw [List.getElem?_set_ne hn1, h1]; rfl, trivial⟩ ⟨⟨hn1.symm, trivial⟩, trivial, trivial⟩ (by simp only [push_cast, ↓Int.toNat_natCast, ↓Int.cast_ofNat_Int, Int.cast_ofNat_Int, ↓reduceIte, reduceCtorEq, Nat.reduceEqDiff, Nat.reduceLT, Nat.reduceLeDiff, Nat.reduceAdd, Nat.reduceSub, Nat.reduceMul, Int.reduceNeg, Int.reduceLE, Int.reduceLT, Int.reduceToNat, Int.reduceAdd, Int.reduceSub, Int.reduceMul, Int.reduceEq])
    exact ⟨_, g2, h γ w hS _ g2 _ _ g1 (g3 (.x (.a (.p 0 0))) (by show (0 : Nat) < 2; omega))⟩
  exact this
theorem putK (hn : n + b.length ≤ 1000000000) (hn1 : k0 ≠ k1) (hn2 : k0 ≠ k2) (hn3 : k1 ≠ k2) (hbr : ∀ r ∈ hp, Res.bnd hp.length r) (hk : bview hp[k0]? = some (47, .c [.o k1, .v (.int .i64 (n : Int))])) (h1 : hp[k1]? = some (.abs (ChR 125 r))) (h2 : hp[k2]? = some (.own 5 (.u8 b))) :
    CallOK Tryd.prog w0 ow 109 [.x (.a (.p k0 0)), .x (.a (.o k2))] hp (.t []) (wrS hp k0 [k0, k1, k2] r n b) := by
  have := callOK_pin (P := Tryd.prog) (w0 := w0) (ow := ow) (f := 109) (svs := [.x (.a (.p k0 0)), .x (.a (.o k2))]) (hp := hp) (sv1 := .t []) [k0, k1, k2] 0 k0 (c := .c [.o k1, .v (.int .i64 (n : Int))]) (c1 := .c [.o 1, .v (.int .i64 ((n + b.length : Nat) : Int))])
    (fun g => [.pin g 47 (.c [.o 1, .v (.int .i64 ((n + b.length : Nat) : Int))]), .abs (ChR 125 (b :: r))]) (by simp) hk (fun _ => rfl) (fun _ => rfl) hbr (fun _ => by simp only [push_cast, ↓Int.toNat_natCast, ↓Int.cast_ofNat_Int, Int.cast_ofNat_Int, ↓reduceIte, reduceCtorEq, Nat.reduceEqDiff, Nat.reduceLT, Nat.reduceLeDiff, Nat.reduceAdd, Nat.reduceSub, Nat.reduceMul, Int.reduceNeg, Int.reduceLE, Int.reduceLT, Int.reduceToNat, Int.reduceAdd, Int.reduceSub, Int.reduceMul, Int.reduceEq]) (by simp only [push_cast, ↓Int.toNat_natCast, ↓Int.cast_ofNat_Int, Int.cast_ofNat_Int, ↓reduceIte, reduceCtorEq, Nat.reduceEqDiff, Nat.reduceLT, Nat.reduceLeDiff, Nat.reduceAdd, Nat.reduceSub, Nat.reduceMul, Int.reduceNeg, Int.reduceLE, Int.reduceLT, Int.reduceToNat, Int.reduceAdd, Int.reduceSub, Int.reduceMul, Int.reduceEq])
    (fun g => moveR_pin (by rw [goneAll_length]; rfl)) fun γ w hS => by
    obtain ⟨g1, g2, g3⟩ := hS.hand (k := k0) (ρ := [k0, k1, k2]) (hp0 := [.pin (nmB γ k0) 47 (.c [.o 1, .v (.int .i64 (n : Int))]), .abs (ChR 125 r), .own 5 (.u8 b)]) hk
      ⟨by rw [List.getElem?_set_self (by
            obtain ⟨_, _, r0, hr0, _⟩ := hS.bv hk
            exact lt_of_get hr0)]; rfl, by rw [List.getElem?_set_ne hn1, h1]; rfl, by rw [List.getElem?_set_ne hn2, h2]; rfl, trivial⟩ ⟨⟨hn1.symm, hn2.symm, trivial⟩, ⟨hn3.symm, trivial⟩, trivial, trivial⟩ (by simp only [push_cast, ↓Int.toNat_natCast, ↓Int.cast_ofNat_Int, Int.cast_ofNat_Int, ↓reduceIte, reduceCtorEq, Nat.reduceEqDiff, Nat.reduceLT, Nat.reduceLeDiff, Nat.reduceAdd, Nat.reduceSub, Nat.reduceMul, Int.reduceNeg, Int.reduceLE, Int.reduceLT, Int.reduceToNat, Int.reduceAdd, Int.reduceSub, Int.reduceMul, Int.reduceEq])
    refine ⟨_, g2, ?_⟩
    have := put_any (nmB γ k0) hn g1
    rw [show List.map (Sv.val (reγ [k0, k1, k2] γ)) [.x (.a (.p 0 0)), .x (.a (.o 2))] = List.map (Sv.val γ) [.x (.a (.p k0 0)), .x (.a (.o k2))] from by
      simp only [List.map_cons, List.map_nil]; rw [g3 (.x (.a (.p 0 0))) (by show (0 : Nat) < 3; omega), g3 (.x (.a (.o 2))) (by show (2 : Nat) < 3; omega)]; rfl] at this
    exact this
  exact this
end
attribute [push_cast] wrS
end Go.Proofs.YtiaeollemmkclaaDoor
