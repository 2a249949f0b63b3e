import Derived.Test.YtiaeollemmkclaaDoorPk7
/- pack.Reader: how it stands, a number off it, and how many there are (layer 13). -/
namespace Go.Proofs.YtiaeollemmkclaaDoor
open Go.RowKit
set_option linter.unusedSimpArgs false
set_option linter.unusedVariables false
/-- How a reader stands: where what is left lies, and whether something was wrong. -/
structure RS where
  A : Option Addr
  c : Nat
  l : List UInt8
  bad : Bool
def RS.cut (n : Nat) (s : RS) : RS := ⟨pCut s.A n s.c, s.c - n, s.l.drop n, s.bad⟩
def RS.fail : RS := ⟨none, 0, [], true⟩
def RS.rs (s : RS) : Rs := (s.l, s.bad)
theorem RS.cut_l (n : Nat) (s : RS) : (s.cut n).l = s.l.drop n := rfl
structure RS.Ok (s : RS) (X : Nat → Prop) (w : World) : Prop where
  len : s.l.length ≤ s.c
  max : s.l.length ≤ 10000000
  fw : FW w X s.A (s.l.map vU8)
theorem RS.Ok.cut {s : RS} {X : Nat → Prop} {w : World} (h : s.Ok X w) (n : Nat) : (s.cut n).Ok X w := by
  have h1 := h.len
  have h2 := h.max
  refine ⟨by simp [RS.cut]; omega, by simp [RS.cut]; omega, ?_⟩
  have := (Sub.drop s.A (s.l.map vU8) n s.c (by simpa using h1)).fw h.fw
  simpa [RS.cut] using this
theorem RS.Ok.fail {X : Nat → Prop} {w : World} : RS.fail.Ok X w := ⟨Nat.le_refl _, Nat.zero_le _, RdV.nil_, fun h => absurd h (by simp [RS.fail])⟩
def numS (most : UInt64) (s : RS) : UInt64 × Bool × RS := match getV s.l with
  | some (v, n) => if v ≤ most then (v, true, s.cut n) else (0, false, RS.fail)
  | none => (0, false, RS.fail)
theorem numS_rs (most : UInt64) (s : RS) : ((numS most s).1, (numS most s).2.1, (numS most s).2.2.rs) = numR most s.rs := by
  unfold numS numR RS.rs
  cases getV s.l with
  | none => rfl
  | some q => simp only; split <;> rfl
theorem numS_none {most : UInt64} {s : RS} (h : getV s.l = none) : numS most s = (0, false, RS.fail) := by unfold numS; rw [h]
theorem numS_some {most v : UInt64} {n : Nat} {s : RS} (h : getV s.l = some (v, n)) : numS most s = if v ≤ most then (v, true, s.cut n) else (0, false, RS.fail) := by unfold numS; rw [h]
theorem numS_ok {most : UInt64} {s : RS} {X : Nat → Prop} {w : World} (h : s.Ok X w) : (numS most s).2.2.Ok X w := by
  unfold numS
  split
  · split
    · exact h.cut _
    · exact RS.Ok.fail
  · exact RS.Ok.fail
theorem getV_le {l : List UInt8} {v : UInt64} {n : Nat} (h : getV l = some (v, n)) : n ≤ l.length := by
  obtain ⟨h1, h2⟩ := getV_some h
  have := congrArg List.length h2
  rw [List.length_append] at this
  omega
/-- What a reader's method does, in the callee's own world. -/
def RdG (f : FuncId) (args : List Sv) (sv : Sv) (s t : RS) (new : List Res) (X : Nat → Prop) (w : World) : Prop := ∀ (g : Nat) (γ : List Nm), Sat w X γ [.pin g 132 (.c [.v (.slice s.A s.l.length s.c), .v (.bool s.bad)])] w →
  Calls Tryd.prog f (List.map (Sv.val γ) (.x (.a (.p 0 0)) :: args)).toArray w fun e w' => ∃ γ1, e = .returned (sv.val γ1) ∧ Sat w X γ1 (.pin g 132 (.c [.v (.slice t.A t.l.length t.c), .v (.bool t.bad)]) :: new) w'
/-- Memory behind it. -/
def rdS (hp : List Res) (k0 : Nat) (t : RS) (new : List Res) : List Res :=
  moveR (hp.length + 0) k0 (bput hp[k0]? 132 (.c [.v (.slice t.A t.l.length t.c), .v (.bool t.bad)])) (goneAll [k0] hp ++ (.pin 0 132 (.c [.v (.slice t.A t.l.length t.c), .v (.bool t.bad)]) :: new).map (Res.ren (shiftL hp.length (new.length + 1))))
def rdV (hp : List Res) (k0 : Nat) (new : List Res) (sv : Sv) : Sv := (sv.ren (shiftL hp.length (new.length + 1))).ren (mvL (hp.length + 0) k0 (hp.length + (new.length + 1)))
section
variable {w0 : World} {ow : Nat → Prop} {hp : List Res} {k0 : Nat} {s t : RS} {f : FuncId} {args : List Sv} {sv : Sv} {new : List Res}
theorem readerK (hbr : ∀ r ∈ hp, Res.bnd hp.length r) (hk : bview hp[k0]? = some (132, (.c [.v (.slice s.A s.l.length s.c), .v (.bool s.bad)]))) (hb1 : ∀ r ∈ new, Res.bnd (new.length + 1) r) (hsb : sv.bnd (new.length + 1)) (ha : ∀ γ γ', List.map (Sv.val γ) args = List.map (Sv.val γ') args)
    (h : ∀ γ w, Sat w0 ow γ hp w → ∀ (X : Nat → Prop), (∀ b, X b → ∃ (k : Nat) (r : Res), k ∈ [k0] ∧ hp[k]? = some r ∧ r.has γ k b) → RdG f args sv s t new X w) :
    CallOK Tryd.prog w0 ow f (.x (.a (.p k0 0)) :: args) hp (rdV hp k0 new sv) (rdS hp k0 t new) := by
  have := callOK_pin (P := Tryd.prog) (w0 := w0) (ow := ow) (f := f) (svs := .x (.a (.p k0 0)) :: args) (hp := hp) (sv1 := sv) [k0] 0 k0 (c := (.c [.v (.slice s.A s.l.length s.c), .v (.bool s.bad)])) (c1 := (.c [.v (.slice t.A t.l.length t.c), .v (.bool t.bad)]))
    (fun g => .pin g 132 (.c [.v (.slice t.A t.l.length t.c), .v (.bool t.bad)]) :: new) (by simp) hk (fun _ => rfl) (fun _ => rfl) hbr (fun _ r hr => by
      rw [List.length_cons]
      rcases List.mem_cons.1 hr with rfl | hr
      · simp only [push_cast, ↓Int.toNat_natCast, ↓Int.cast_ofNat_Int, Int.cast_ofNat_Int, ↓reduceIte, reduceCtorEq, Nat.reduceEqDiff, Nat.reduceLT, Nat.reduceLeDiff, Nat.reduceAdd, Nat.reduceSub, Nat.reduceMul, Int.reduceNeg, Int.reduceLE, Int.reduceLT, Int.reduceToNat, Int.reduceAdd, Int.reduceSub, Int.reduceMul, Int.reduceEq]
      · exact hb1 r hr) (by rw [List.length_cons]; exact hsb)
    (fun g => moveR_pin (by rw [goneAll_length]; rfl)) fun γ w hS => by
    obtain ⟨g1, g2, g3⟩ := hS.hand (k := k0) (ρ := [k0]) (hp0 := [.pin (nmB γ k0) 132 (.c [.v (.slice s.A s.l.length s.c), .v (.bool s.bad)])]) hk
      ⟨by rw [List.getElem?_set_self (by
            obtain ⟨_, _, r0, hr0, _⟩ := hS.bv hk
            exact lt_of_get hr0)]; rfl, trivial⟩ ⟨trivial, trivial⟩ (by simp only [push_cast, ↓Int.toNat_natCast, ↓Int.cast_ofNat_Int, Int.cast_ofNat_Int, ↓reduceIte, reduceCtorEq, Nat.reduceEqDiff, Nat.reduceLT, Nat.reduceLeDiff, Nat.reduceAdd, Nat.reduceSub, Nat.reduceMul, Int.reduceNeg, Int.reduceLE, Int.reduceLT, Int.reduceToNat, Int.reduceAdd, Int.reduceSub, Int.reduceMul, Int.reduceEq])
    refine ⟨_, g2, ?_⟩
    have := h γ w hS _ g2 (nmB γ k0) _ g1
    rw [List.map_cons, g3 (.x (.a (.p 0 0))) (by show (0 : Nat) < 1; omega), ha _ γ] at this
    exact this
  exact this
end
attribute [push_cast] rdS rdV
attribute [local irreducible] Callable CallOK CallG CallM DrawG LoopG symR symM
section
variable {X : Nat → Prop} {w : World} {s : RS}
set_option maxRecDepth 100000 in
theorem fail_any : RdG 69 [] (.t []) s RS.fail [] X w := fun g γ hS => by
  refine calls_fun (n := 8) Tryd.func69 rfl Tryd.ntmps69 _ hS (by simp) (.t []) _ ?_
  simp (config := { maxSteps := 1000000 }) only [RS.fail, undef, push_cast, ↓Int.toNat_natCast, ↓Int.cast_ofNat_Int, Int.cast_ofNat_Int, ↓reduceIte, reduceCtorEq, Nat.reduceEqDiff, Nat.reduceLT, Nat.reduceLeDiff, Nat.reduceAdd, Nat.reduceSub, Nat.reduceMul, Int.reduceNeg, Int.reduceLE, Int.reduceLT, Int.reduceToNat, Int.reduceAdd, Int.reduceSub, Int.reduceMul, Int.reduceEq]
  refine endsAs [0] ?_
  simp (config := { maxSteps := 1000000 }) only [push_cast, ↓Int.toNat_natCast, ↓Int.cast_ofNat_Int, Int.cast_ofNat_Int, ↓reduceIte, reduceCtorEq, Nat.reduceEqDiff, Nat.reduceLT, Nat.reduceLeDiff, Nat.reduceAdd, Nat.reduceSub, Nat.reduceMul, Int.reduceNeg, Int.reduceLE, Int.reduceLT, Int.reduceToNat, Int.reduceAdd, Int.reduceSub, Int.reduceMul, Int.reduceEq]
end
theorem failK {w0 : World} {ow : Nat → Prop} {hp : List Res} {k0 : Nat} {s : RS} (hbr : ∀ r ∈ hp, Res.bnd hp.length r) (hk : bview hp[k0]? = some (132, (.c [.v (.slice s.A s.l.length s.c), .v (.bool s.bad)]))) :
    CallOK Tryd.prog w0 ow 69 [.x (.a (.p k0 0))] hp (rdV hp k0 [] (.t [])) (rdS hp k0 RS.fail []) :=
  readerK (args := []) hbr hk (by simp only [push_cast, ↓Int.toNat_natCast, ↓Int.cast_ofNat_Int, Int.cast_ofNat_Int, ↓reduceIte, reduceCtorEq, Nat.reduceEqDiff, Nat.reduceLT, Nat.reduceLeDiff, Nat.reduceAdd, Nat.reduceSub, Nat.reduceMul, Int.reduceNeg, Int.reduceLE, Int.reduceLT, Int.reduceToNat, Int.reduceAdd, Int.reduceSub, Int.reduceMul, Int.reduceEq]) (by simp only [push_cast, ↓Int.toNat_natCast, ↓Int.cast_ofNat_Int, Int.cast_ofNat_Int, ↓reduceIte, reduceCtorEq, Nat.reduceEqDiff, Nat.reduceLT, Nat.reduceLeDiff, Nat.reduceAdd, Nat.reduceSub, Nat.reduceMul, Int.reduceNeg, Int.reduceLE, Int.reduceLT, Int.reduceToNat, Int.reduceAdd, Int.reduceSub, Int.reduceMul, Int.reduceEq]) (fun _ _ => rfl) fun γ w hS X hX => fail_any
section
variable {X : Nat → Prop} {w : World} {s : RS}
set_option maxRecDepth 100000 in
theorem number_any (most : UInt64) (hs : s.Ok X w) : RdG 65 [.x (.a (.v (vU64 most)))] (.t [.a (.v (vU64 (numS most s).1)), .a (.v (.bool (numS most s).2.1))]) s (numS most s).2.2 [] X w := fun g γ hS => by
  have hlen := hs.len
  have hmax := hs.max
  have hg : CallOK Tryd.prog w X 111 [.x (.a (.v (.slice s.A s.l.length s.c)))] [.pin g 132 (.c [.v (.slice s.A s.l.length s.c), .v (.bool s.bad)])] (.t (getT s.l)) [.pin g 132 (.c [.v (.slice s.A s.l.length s.c), .v (.bool s.bad)])] := getK s.l (shows_fv hs.fw _ _ (by simp) hlen)
  generalize hq : numS most s = q
  refine calls_fun (n := 39) Tryd.func65 rfl Tryd.ntmps65 _ hS (by simp) _ _ ?_
  simp (config := { maxSteps := 1000000 }) only [undef, push_cast, ↓Int.toNat_natCast, ↓Int.cast_ofNat_Int, Int.cast_ofNat_Int, ↓reduceIte, reduceCtorEq, Nat.reduceEqDiff, Nat.reduceLT, Nat.reduceLeDiff, Nat.reduceAdd, Nat.reduceSub, Nat.reduceMul, Int.reduceNeg, Int.reduceLE, Int.reduceLT, Int.reduceToNat, Int.reduceAdd, Int.reduceSub, Int.reduceMul, Int.reduceEq]
  (repeat (refine And.intro (by first | omega | decide) ?_))
  refine callG_v rfl cb111 rfl hg (dOk_lt rfl) ?_
  cases hv : getV s.l with
  | none =>
    rw [numS_none hv] at hq
    subst hq
    rw [getT_none hv]
    simp (config := { maxSteps := 1000000 }) only [undef, push_cast, ↓Int.toNat_natCast, ↓Int.cast_ofNat_Int, Int.cast_ofNat_Int, ↓reduceIte, reduceCtorEq, Nat.reduceEqDiff, Nat.reduceLT, Nat.reduceLeDiff, Nat.reduceAdd, Nat.reduceSub, Nat.reduceMul, Int.reduceNeg, Int.reduceLE, Int.reduceLT, Int.reduceToNat, Int.reduceAdd, Int.reduceSub, Int.reduceMul, Int.reduceEq]
    (repeat (refine And.intro (by first | omega | decide) ?_))
    refine callG_rule rfl cb69 rfl (failK (k0 := 0) (s := s) (by simp only [push_cast, ↓Int.toNat_natCast, ↓Int.cast_ofNat_Int, Int.cast_ofNat_Int, ↓reduceIte, reduceCtorEq, Nat.reduceEqDiff, Nat.reduceLT, Nat.reduceLeDiff, Nat.reduceAdd, Nat.reduceSub, Nat.reduceMul, Int.reduceNeg, Int.reduceLE, Int.reduceLT, Int.reduceToNat, Int.reduceAdd, Int.reduceSub, Int.reduceMul, Int.reduceEq]) rfl) (dOk_lt rfl) (fun _ => by simp only [push_cast, ↓Int.toNat_natCast, ↓Int.cast_ofNat_Int, Int.cast_ofNat_Int, ↓reduceIte, reduceCtorEq, Nat.reduceEqDiff, Nat.reduceLT, Nat.reduceLeDiff, Nat.reduceAdd, Nat.reduceSub, Nat.reduceMul, Int.reduceNeg, Int.reduceLE, Int.reduceLT, Int.reduceToNat, Int.reduceAdd, Int.reduceSub, Int.reduceMul, Int.reduceEq]) ?_
    simp (config := { maxSteps := 1000000 }) only [vU64_zero, undef, push_cast, ↓Int.toNat_natCast, ↓Int.cast_ofNat_Int, Int.cast_ofNat_Int, ↓reduceIte, reduceCtorEq, Nat.reduceEqDiff, Nat.reduceLT, Nat.reduceLeDiff, Nat.reduceAdd, Nat.reduceSub, Nat.reduceMul, Int.reduceNeg, Int.reduceLE, Int.reduceLT, Int.reduceToNat, Int.reduceAdd, Int.reduceSub, Int.reduceMul, Int.reduceEq]
    refine endsAs [0] ?_
    simp (config := { maxSteps := 1000000 }) only [push_cast, ↓Int.toNat_natCast, ↓Int.cast_ofNat_Int, Int.cast_ofNat_Int, ↓reduceIte, reduceCtorEq, Nat.reduceEqDiff, Nat.reduceLT, Nat.reduceLeDiff, Nat.reduceAdd, Nat.reduceSub, Nat.reduceMul, Int.reduceNeg, Int.reduceLE, Int.reduceLT, Int.reduceToNat, Int.reduceAdd, Int.reduceSub, Int.reduceMul, Int.reduceEq]
  | some p =>
    obtain ⟨v, k⟩ := p
    have hk := getV_le hv
    have hdl : (s.l.drop k).length = s.l.length - k := List.length_drop ..
    rw [numS_some hv] at hq
    rw [getT_some hv]
    by_cases hm : v ≤ most
    · rw [if_pos hm] at hq
      subst hq
      have hm2 : ¬ most < v := UInt64.not_lt.2 hm
      have k1 : (k : Int) ≤ s.l.length := by omega
      have k2 : (s.l.length : Int) ≤ s.c := by omega
      have k3 : (k : Int) ≤ s.c := by omega
      have k4 : (0 : Int) ≤ k := by omega
      simp (config := { maxSteps := 1000000 }) only [hm2, k1, k2, k3, k4, undef, push_cast, ↓Int.toNat_natCast, ↓Int.cast_ofNat_Int, Int.cast_ofNat_Int, ↓reduceIte, reduceCtorEq, Nat.reduceEqDiff, Nat.reduceLT, Nat.reduceLeDiff, Nat.reduceAdd, Nat.reduceSub, Nat.reduceMul, Int.reduceNeg, Int.reduceLE, Int.reduceLT, Int.reduceToNat, Int.reduceAdd, Int.reduceSub, Int.reduceMul, Int.reduceEq]
      refine endsAs [0] ?_
      simp (config := { maxSteps := 1000000 }) only [RS.cut, hdl, push_cast, ↓Int.toNat_natCast, ↓Int.cast_ofNat_Int, Int.cast_ofNat_Int, ↓reduceIte, reduceCtorEq, Nat.reduceEqDiff, Nat.reduceLT, Nat.reduceLeDiff, Nat.reduceAdd, Nat.reduceSub, Nat.reduceMul, Int.reduceNeg, Int.reduceLE, Int.reduceLT, Int.reduceToNat, Int.reduceAdd, Int.reduceSub, Int.reduceMul, Int.reduceEq]
    · rw [if_neg hm] at hq
      subst hq
      have hm2 : most < v := UInt64.not_le.1 hm
      simp (config := { maxSteps := 1000000 }) only [hm2, undef, push_cast, ↓Int.toNat_natCast, ↓Int.cast_ofNat_Int, Int.cast_ofNat_Int, ↓reduceIte, reduceCtorEq, Nat.reduceEqDiff, Nat.reduceLT, Nat.reduceLeDiff, Nat.reduceAdd, Nat.reduceSub, Nat.reduceMul, Int.reduceNeg, Int.reduceLE, Int.reduceLT, Int.reduceToNat, Int.reduceAdd, Int.reduceSub, Int.reduceMul, Int.reduceEq]
      (repeat (refine And.intro (by first | omega | decide) ?_))
      refine callG_rule rfl cb69 rfl (failK (k0 := 0) (s := s) (by simp only [push_cast, ↓Int.toNat_natCast, ↓Int.cast_ofNat_Int, Int.cast_ofNat_Int, ↓reduceIte, reduceCtorEq, Nat.reduceEqDiff, Nat.reduceLT, Nat.reduceLeDiff, Nat.reduceAdd, Nat.reduceSub, Nat.reduceMul, Int.reduceNeg, Int.reduceLE, Int.reduceLT, Int.reduceToNat, Int.reduceAdd, Int.reduceSub, Int.reduceMul, Int.reduceEq]) rfl) (dOk_lt rfl) (fun _ => by simp only [push_cast, ↓Int.toNat_natCast, ↓Int.cast_ofNat_Int, Int.cast_ofNat_Int, ↓reduceIte, reduceCtorEq, Nat.reduceEqDiff, Nat.reduceLT, Nat.reduceLeDiff, Nat.reduceAdd, Nat.reduceSub, Nat.reduceMul, Int.reduceNeg, Int.reduceLE, Int.reduceLT, Int.reduceToNat, Int.reduceAdd, Int.reduceSub, Int.reduceMul, Int.reduceEq]) ?_
      simp (config := { maxSteps := 1000000 }) only [vU64_zero, undef, push_cast, ↓Int.toNat_natCast, ↓Int.cast_ofNat_Int, Int.cast_ofNat_Int, ↓reduceIte, reduceCtorEq, Nat.reduceEqDiff, Nat.reduceLT, Nat.reduceLeDiff, Nat.reduceAdd, Nat.reduceSub, Nat.reduceMul, Int.reduceNeg, Int.reduceLE, Int.reduceLT, Int.reduceToNat, Int.reduceAdd, Int.reduceSub, Int.reduceMul, Int.reduceEq]
      refine endsAs [0] ?_
      simp (config := { maxSteps := 1000000 }) only [push_cast, ↓Int.toNat_natCast, ↓Int.cast_ofNat_Int, Int.cast_ofNat_Int, ↓reduceIte, reduceCtorEq, Nat.reduceEqDiff, Nat.reduceLT, Nat.reduceLeDiff, Nat.reduceAdd, Nat.reduceSub, Nat.reduceMul, Int.reduceNeg, Int.reduceLE, Int.reduceLT, Int.reduceToNat, Int.reduceAdd, Int.reduceSub, Int.reduceMul, Int.reduceEq]
end
end Go.Proofs.YtiaeollemmkclaaDoor
