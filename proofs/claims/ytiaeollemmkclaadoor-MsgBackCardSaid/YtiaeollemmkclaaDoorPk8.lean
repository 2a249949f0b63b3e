import Derived.Test.YtiaeollemmkclaaDoorPk6
/- pack.Writer.All: all bytes (layer 13). -/
namespace Go.Proofs.YtiaeollemmkclaaDoor
open Go.RowKit
set_option linter.unusedSimpArgs false
set_option linter.unusedVariables false
theorem ChW.ptr {t : TypeId} {r : List (List UInt8)} {v : Value} {B : Nat → Prop} {w : World} (h : ChW t r v B w) : ∃ A, v = .pointer A := by
  cases r with
  | nil => exact ⟨none, h⟩
  | cons b r => obtain ⟨g, u, s, h1, _⟩ := h; exact ⟨_, h1⟩
/-- A variable of two cells that was there before. -/
structure Two (w : World) (A : Option Addr) (u v : Value) : Prop where
  some_ : A.isSome = true
  none_ : A.isNone = false
  c0 : cellOf w A = u
  o0 : rawOk w No A
  c1 : cellOf w (pAdd A 1) = v
  o1 : rawOk w No (pAdd A 1)
theorem Two.of {w : World} {g : Nat} {u v : Value} (h0 : w.cell? ⟨g, 0, none⟩ = some u) (h1 : w.cell? ⟨g, 1, none⟩ = some v) : Two w (some ⟨g, 0, none⟩) u v := by
  have hb : g < w.heap.size := block_lt_of_cell h0
  have e : pAdd (some ⟨g, 0, none⟩) 1 = some ⟨g, 1, none⟩ := rfl
  exact ⟨rfl, rfl, by simp [cellOf, h0], ⟨_, _, rfl, hb, fun h => h, h0⟩, by rw [e]; simp [cellOf, h1], ⟨_, _, e, hb, fun h => h, h1⟩⟩
theorem chain_next {t : TypeId} {b : List UInt8} {r : List (List UInt8)} {A : Option Addr} {B : Nat → Prop} {w : World} (h : ChW t (b :: r) (.pointer A) B w) :
    ∃ A1 A2 c, Two w A (.pointer A1) (.slice A2 b.length c) ∧ b.length ≤ c ∧ RdV w w.heap.size A2 (b.map vU8) ∧ ChW t r (.pointer A1) B w := by
  obtain ⟨g, u, s, h1, h2, h3, ⟨A2, c, rfl, h5, h6, h7, h8⟩, h9⟩ := h
  injection h1 with h1
  subst h1
  obtain ⟨A1, rfl⟩ := h9.ptr
  rw [List.length_map] at h3 h5
  exact ⟨A1, A2, c, Two.of (h3.cell 0) (h3.cell 1), h5, h7, h9⟩
attribute [local irreducible] Callable CallOK CallG CallM DrawG LoopG symR symM
set_option maxRecDepth 100000 in
set_option maxHeartbeats 1000000 in
theorem all_any {r : List (List UInt8)} {A A0 : Option Addr} {B : Nat → Prop} {w : World} (hn : totB r ≤ 1000000000) (hT : Two w A (.pointer A0) (.int .i64 (totB r : Int))) (hC : ChW 125 r (.pointer A0) B w) :
    Calls Tryd.prog 10 #[.pointer A] w fun e w' => ∃ x, e = .returned x ∧ Own w' w.heap.size 5 x ((allB r).map vU8) ∧ Below w.heap.size w w' := by
  refine calls_own (n := 43) Tryd.func10 rfl Tryd.ntmps10 [.x (.a (.v (.pointer A)))] (by simp) 5 (.u8 (allB r)) (fun _ => rfl) ?_
  obtain ⟨h1, h2, h3, h4, h5, h6⟩ := hT
  have k1 : (totB r : Int) ≤ 2 ^ 63 - 1 := by omega
  have k2 : totB r ≤ 2 ^ 63 - 1 := by omega
  have k3 : totB r ≤ 140737488355328 := by omega
  simp (config := { maxSteps := 1000000 }) only [h1, h2, h3, h4, h5, h6, pAdd_zero, push_cast, ↓Int.toNat_natCast, ↓Int.cast_ofNat_Int, Int.cast_ofNat_Int, ↓reduceIte, reduceCtorEq, Nat.reduceLT]
  (repeat (refine And.intro (by first | omega | decide) ?_))
  refine loop_rule (ι := List (List UInt8) × List (List UInt8) × Option Addr) (fun y => ⟨[(3, .x (.a (.o 0))), (4, .x (.a (.v (.int .i64 (totB y.2.1 : Int))))), (5, .x (.a (.v (.pointer y.2.2))))], [.own 5 (.u8 (List.replicate (totB y.2.1) 0 ++ allB y.1))]⟩) (fun y => r = y.1 ++ y.2.1 ∧ ChW 125 y.2.1 (.pointer y.2.2) B w) (fun y => y.2.1.length) ([], r, A0) [0] ⟨rfl, hC⟩ ?_ ?_
  · have e0 : allB [] = [] := rfl
    simp (config := { maxSteps := 1000000 }) only [e0, push_cast, ↓reduceIte, Nat.reduceEqDiff, Nat.reduceLT]
    done
  rintro ⟨p, q, A1⟩ ⟨hr, hq⟩
  dsimp only at hr hq
  rcases q with _ | ⟨b, q⟩
  · obtain rfl : A1 = none := by injection hq
    obtain rfl : r = p := by rw [hr, List.append_nil]
    have e0 : totB [] = 0 := rfl
    simp (config := { maxSteps := 1000000 }) only [e0, List.replicate_zero, push_cast, ↓Int.cast_ofNat_Int, Int.cast_ofNat_Int, ↓reduceIte, Nat.reduceEqDiff, Nat.reduceLT]
    done
  · obtain ⟨A2, A3, c, ⟨g1, g2, g3, g4, g5, g6⟩, hc, hR, hq'⟩ := chain_next hq
    have e1 := totB_cons b q
    have e2 := allB_cons
    have F := F8.of (FV.no hR)
    have hrd := F.rd
    have hrdo := F.rdOk
    have ht : totB r = (allB p).length + (b.length + totB q) := by rw [hr, ← allB_length, allB_app, List.length_append, allB_length, allB_length, totB_cons]; omega
    have j1 : ((b.length + totB q : Nat) : Int) - b.length = (totB q : Int) := by omega
    push_cast at j1
    have j2 : (totB q : Int) ≤ (b.length : Int) + totB q + (allB p).length := by omega
    have j3 : (0 : Int) ≤ totB q := by omega
    have j4 : -9223372036854775808 ≤ (totB q : Int) ∧ (totB q : Int) ≤ 9223372036854775807 := by omega
    obtain ⟨j5, j6⟩ := j4
    simp (config := { maxSteps := 1000000 }) only [e1, g1, g2, g5, g6, j1, j5, j6, push_cast, ↓reduceIte, reduceCtorEq, Nat.reduceEqDiff, Nat.reduceLT, Int.reduceNeg]
    (repeat (refine And.intro (by first | omega | decide) ?_))
    refine drawT_rule 7 [(0, true), (1, true), (2, true), (3, true), (4, true), (5, true), (6, true)] (by kernel_rfl) (by kernel_rfl) ?_
    simp (config := { maxSteps := 1000000 }) only [g1, g5, g6, j2, j3, push_cast, ↓Int.toNat_natCast, ↓reduceIte, reduceCtorEq, Nat.reduceEqDiff, Nat.reduceLT]
    refine ⟨Int.le_refl _, ?_⟩
    have m1 : ((b.length : Int) + (totB q : Int) + ((allB p).length : Int)).toNat - totB q = b.length + (allB p).length := by omega
    have m2 : min b.length (b.length + (allB p).length) = b.length := by omega
    have m3 : (List.replicate (b.length + totB q) (0 : UInt8) ++ allB p).take (totB q) = List.replicate (totB q) 0 := by
      rw [List.take_append_of_le_length (by simp), List.take_replicate, Nat.min_eq_left (by omega)]
    have m4 : (List.replicate (b.length + totB q) (0 : UInt8) ++ allB p).drop (totB q + b.length) = allB p := by
      rw [List.drop_append_of_le_length (by simp; omega), List.drop_of_length_le (by simp; omega), List.nil_append]
    rw [m1]
    refine copyG rfl rfl rfl (by simp only [copyS, dstS, Cont.lay, hrd, m2, m3, m4, Res.with, push_cast, ↓reduceIte]; exact ⟨rfl, rfl, rfl⟩) ?_ (dOk_lt rfl) (by simp only [push_cast, Nat.reduceLT]) ?_
    · simp (config := { maxSteps := 1000000 }) only [hrdo, push_cast]
      omega
    simp (config := { maxSteps := 1000000 }) only [g1, g3, g4, pAdd_zero, push_cast, ↓reduceIte, reduceCtorEq, Nat.reduceEqDiff, Nat.reduceLT]
    (repeat (refine And.intro (by first | omega | decide) ?_))
    refine loopK_normal (p ++ [b], q, A2) [0] ⟨by rw [hr]; simp, hq'⟩ (by show q.length < q.length + 1; omega) ?_
    have e3 : allB (p ++ [b]) = b ++ allB p := by rw [allB_app]; simp [allB]
    simp (config := { maxSteps := 1000000 }) only [e3, push_cast, ↓reduceIte, Nat.reduceEqDiff, Nat.reduceLT]
    done
section
variable {w0 : World} {ow : Nat → Prop} {hp : List Res} {k0 k1 : Nat} {r : List (List UInt8)}
theorem allK (hn : totB r ≤ 1000000000) (hbr : ∀ r ∈ hp, Res.bnd hp.length r) (hk : bview hp[k0]? = some (47, .c [.o k1, .v (.int .i64 (totB r : Int))])) (h1 : hp[k1]? = some (.abs (ChR 125 r))) :
    CallOK Tryd.prog w0 ow 10 [.x (.a (.p k0 0))] hp (.x (.a (.o hp.length))) (hp ++ [.own 5 (.u8 (allB r))]) := callOK_own hbr trivial fun γ w hS => by
  obtain ⟨_, _, hc⟩ := hS.holds k1 _ h1
  have hc : ChW 125 r (nmS γ k1) (nmM γ k1) w := hc
  obtain ⟨A0, e0⟩ := hc.ptr
  have d0 := hS.cellv hk (i := 0) (by show 0 < 2; omega)
  have d1 := hS.cellv hk (i := 1) (by show 1 < 2; omega)
  have d0 : w.cell? ⟨nmB γ k0, 0, none⟩ = some (nmS γ k1) := d0
  rw [e0] at d0 hc
  exact all_any hn (Two.of d0 d1) hc
end
end Go.Proofs.YtiaeollemmkclaaDoor
/- pack.Reader: how it stands, a number off it, and how many there are (layer 13). -/
namespace Go.Proofs.YtiaeollemmkclaaDoor
open Go.RowKit
set_option linter.unusedSimpArgs false
set_option linter.unusedVariables false
/-- How a reader stands: where what is left lies, and whether something was wrong. -/
structure RS where
  A : Option Addr
  c : Nat
  l : List UInt8
  bad : Bool
def RS.cut (n : Nat) (s : RS) : RS := ⟨pCut s.A n s.c, s.c - n, s.l.drop n, s.bad⟩
def RS.fail : RS := ⟨none, 0, [], true⟩
def RS.rs (s : RS) : Rs := (s.l, s.bad)
structure RS.Ok (s : RS) (X : Nat → Prop) (w : World) : Prop where
  len : s.l.length ≤ s.c
  max : s.l.length ≤ 10000000
  fw : FW w X s.A (s.l.map vU8)
theorem RS.Ok.cut {s : RS} {X : Nat → Prop} {w : World} (h : s.Ok X w) (n : Nat) : (s.cut n).Ok X w := by
  have h1 := h.len
  have h2 := h.max
  refine ⟨by simp [RS.cut]; omega, by simp [RS.cut]; omega, ?_⟩
  have := (Sub.drop s.A (s.l.map vU8) n s.c (by simpa using h1)).fw h.fw
  simpa [RS.cut] using this
theorem RS.Ok.fail {X : Nat → Prop} {w : World} : RS.fail.Ok X w := ⟨Nat.le_refl _, Nat.zero_le _, RdV.nil_, fun h => absurd h (by simp [RS.fail])⟩
def numS (most : UInt64) (s : RS) : UInt64 × Bool × RS := match getV s.l with
  | some (v, n) => if v ≤ most then (v, true, s.cut n) else (0, false, RS.fail)
  | none => (0, false, RS.fail)
theorem numS_rs (most : UInt64) (s : RS) : ((numS most s).1, (numS most s).2.1, (numS most s).2.2.rs) = numR most s.rs := by
  unfold numS numR RS.rs
  cases getV s.l with
  | none => rfl
  | some q => simp only; split <;> rfl
theorem numS_none {most : UInt64} {s : RS} (h : getV s.l = none) : numS most s = (0, false, RS.fail) := by unfold numS; rw [h]
theorem numS_some {most v : UInt64} {n : Nat} {s : RS} (h : getV s.l = some (v, n)) : numS most s = if v ≤ most then (v, true, s.cut n) else (0, false, RS.fail) := by unfold numS; rw [h]
theorem numS_ok {most : UInt64} {s : RS} {X : Nat → Prop} {w : World} (h : s.Ok X w) : (numS most s).2.2.Ok X w := by
  unfold numS
  split
  · split
    · exact h.cut _
    · exact RS.Ok.fail
  · exact RS.Ok.fail
theorem getV_le {l : List UInt8} {v : UInt64} {n : Nat} (h : getV l = some (v, n)) : n ≤ l.length := by
  obtain ⟨h1, h2⟩ := getV_some h
  have := congrArg List.length h2
  rw [List.length_append] at this
  omega
/-- What a reader's method does, in the callee's own world. -/
def RdG (f : FuncId) (args : List Sv) (sv : Sv) (s t : RS) (new : List Res) (X : Nat → Prop) (w : World) : Prop := ∀ (g : Nat) (γ : List Nm), Sat w X γ [.pin g 132 (.c [.v (.slice s.A s.l.length s.c), .v (.bool s.bad)])] w →
  Calls Tryd.prog f (List.map (Sv.val γ) (.x (.a (.p 0 0)) :: args)).toArray w fun e w' => ∃ γ1, e = .returned (sv.val γ1) ∧ Sat w X γ1 (.pin g 132 (.c [.v (.slice t.A t.l.length t.c), .v (.bool t.bad)]) :: new) w'
/-- Memory behind it. -/
def rdS (hp : List Res) (k0 : Nat) (t : RS) (new : List Res) : List Res :=
  moveR (hp.length + 0) k0 (bput hp[k0]? 132 (.c [.v (.slice t.A t.l.length t.c), .v (.bool t.bad)])) (goneAll [k0] hp ++ (.pin 0 132 (.c [.v (.slice t.A t.l.length t.c), .v (.bool t.bad)]) :: new).map (Res.ren (shiftL hp.length (new.length + 1))))
def rdV (hp : List Res) (k0 : Nat) (new : List Res) (sv : Sv) : Sv := (sv.ren (shiftL hp.length (new.length + 1))).ren (mvL (hp.length + 0) k0 (hp.length + (new.length + 1)))
section
variable {w0 : World} {ow : Nat → Prop} {hp : List Res} {k0 : Nat} {s t : RS} {f : FuncId} {args : List Sv} {sv : Sv} {new : List Res}
theorem readerK (hbr : ∀ r ∈ hp, Res.bnd hp.length r) (hk : bview hp[k0]? = some (132, (.c [.v (.slice s.A s.l.length s.c), .v (.bool s.bad)]))) (hb1 : ∀ r ∈ new, Res.bnd (new.length + 1) r) (hsb : sv.bnd (new.length + 1)) (ha : ∀ γ γ', List.map (Sv.val γ) args = List.map (Sv.val γ') args)
    (h : ∀ γ w, Sat w0 ow γ hp w → ∀ (X : Nat → Prop), (∀ b, X b → ∃ (k : Nat) (r : Res), k ∈ [k0] ∧ hp[k]? = some r ∧ r.has γ k b) → RdG f args sv s t new X w) :
    CallOK Tryd.prog w0 ow f (.x (.a (.p k0 0)) :: args) hp (rdV hp k0 new sv) (rdS hp k0 t new) := by
  have := callOK_pin (P := Tryd.prog) (w0 := w0) (ow := ow) (f := f) (svs := .x (.a (.p k0 0)) :: args) (hp := hp) (sv1 := sv) [k0] 0 k0 (c := (.c [.v (.slice s.A s.l.length s.c), .v (.bool s.bad)])) (c1 := (.c [.v (.slice t.A t.l.length t.c), .v (.bool t.bad)]))
    (fun g => .pin g 132 (.c [.v (.slice t.A t.l.length t.c), .v (.bool t.bad)]) :: new) (by simp) hk (fun _ => rfl) (fun _ => rfl) hbr (fun _ r hr => by
      rw [List.length_cons]
      rcases List.mem_cons.1 hr with rfl | hr
      · simp only [push_cast]
      · exact hb1 r hr) (by rw [List.length_cons]; exact hsb)
    (fun g => moveR_pin (by rw [goneAll_length]; rfl)) fun γ w hS => by
    obtain ⟨g1, g2, g3⟩ := hS.hand (k := k0) (ρ := [k0]) (hp0 := [.pin (nmB γ k0) 132 (.c [.v (.slice s.A s.l.length s.c), .v (.bool s.bad)])]) hk
      ⟨by rw [List.getElem?_set_self (by
            obtain ⟨_, _, r0, hr0, _⟩ := hS.bv hk
            exact lt_of_get hr0)]; rfl, trivial⟩ ⟨trivial, trivial⟩ (by simp only [push_cast])
    refine ⟨_, g2, ?_⟩
    have := h γ w hS _ g2 (nmB γ k0) _ g1
    rw [List.map_cons, g3 (.x (.a (.p 0 0))) (by show (0 : Nat) < 1; omega), ha _ γ] at this
    exact this
  exact this
end
attribute [push_cast] rdS rdV
attribute [local irreducible] Callable CallOK CallG CallM DrawG LoopG symR symM
section
variable {X : Nat → Prop} {w : World} {s : RS}
set_option maxRecDepth 100000 in
theorem fail_any : RdG 69 [] (.t []) s RS.fail [] X w := fun g γ hS => by
  refine calls_fun (n := 8) Tryd.func69 rfl Tryd.ntmps69 _ hS (by simp) (.t []) _ ?_
  simp (config := { maxSteps := 1000000 }) only [RS.fail, undef, push_cast, ↓reduceIte, reduceCtorEq, Nat.reduceLT, Nat.reduceAdd]
  refine endsAs [0] ?_
  simp (config := { maxSteps := 1000000 }) only [push_cast, ↓reduceIte]
end
theorem failK {w0 : World} {ow : Nat → Prop} {hp : List Res} {k0 : Nat} {s : RS} (hbr : ∀ r ∈ hp, Res.bnd hp.length r) (hk : bview hp[k0]? = some (132, (.c [.v (.slice s.A s.l.length s.c), .v (.bool s.bad)]))) :
    CallOK Tryd.prog w0 ow 69 [.x (.a (.p k0 0))] hp (rdV hp k0 [] (.t [])) (rdS hp k0 RS.fail []) :=
  readerK (args := []) hbr hk (by simp only [push_cast]) (by simp only [push_cast]) (fun _ _ => rfl) fun γ w hS X hX => fail_any
section
variable {X : Nat → Prop} {w : World} {s : RS}
set_option maxRecDepth 100000 in
theorem number_any (most : UInt64) (hs : s.Ok X w) : RdG 65 [.x (.a (.v (vU64 most)))] (.t [.a (.v (vU64 (numS most s).1)), .a (.v (.bool (numS most s).2.1))]) s (numS most s).2.2 [] X w := fun g γ hS => by
  have hlen := hs.len
  have hmax := hs.max
  have hg : CallOK Tryd.prog w X 111 [.x (.a (.v (.slice s.A s.l.length s.c)))] [.pin g 132 (.c [.v (.slice s.A s.l.length s.c), .v (.bool s.bad)])] (.t (getT s.l)) [.pin g 132 (.c [.v (.slice s.A s.l.length s.c), .v (.bool s.bad)])] := getK s.l (shows_fv hs.fw _ _ (by simp) hlen)
  generalize hq : numS most s = q
  refine calls_fun (n := 39) Tryd.func65 rfl Tryd.ntmps65 _ hS (by simp) _ _ ?_
  simp (config := { maxSteps := 1000000 }) only [undef, push_cast, ↓reduceIte, reduceCtorEq, Nat.reduceLT, Nat.reduceAdd]
  (repeat (refine And.intro (by first | omega | decide) ?_))
  refine callG_v rfl cb111 rfl hg (dOk_lt rfl) ?_
  cases hv : getV s.l with
  | none =>
    rw [numS_none hv] at hq
    subst hq
    rw [getT_none hv]
    simp (config := { maxSteps := 1000000 }) only [undef, push_cast, ↓reduceIte, reduceCtorEq, Nat.reduceEqDiff, Nat.reduceLT]
    (repeat (refine And.intro (by first | omega | decide) ?_))
    refine callG_rule rfl cb69 rfl (failK (k0 := 0) (s := s) (by simp only [push_cast]) rfl) (dOk_lt rfl) (fun _ => by simp only [push_cast, Nat.reduceLT]) ?_
    simp (config := { maxSteps := 1000000 }) only [vU64_zero, push_cast, ↓reduceIte, Nat.reduceEqDiff, Nat.reduceLT, Nat.reduceAdd]
    refine endsAs [0] ?_
    simp (config := { maxSteps := 1000000 }) only [push_cast, ↓reduceIte]
  | some p =>
    obtain ⟨v, k⟩ := p
    have hk := getV_le hv
    have hdl : (s.l.drop k).length = s.l.length - k := List.length_drop ..
    rw [numS_some hv] at hq
    rw [getT_some hv]
    by_cases hm : v ≤ most
    · rw [if_pos hm] at hq
      subst hq
      have hm2 : ¬ most < v := UInt64.not_lt.2 hm
      have k1 : (k : Int) ≤ s.l.length := by omega
      have k2 : (s.l.length : Int) ≤ s.c := by omega
      have k3 : (k : Int) ≤ s.c := by omega
      have k4 : (0 : Int) ≤ k := by omega
      simp (config := { maxSteps := 1000000 }) only [hm2, k1, k2, k4, undef, push_cast, ↓Int.toNat_natCast, ↓reduceIte, reduceCtorEq, Nat.reduceEqDiff, Nat.reduceLT, Nat.reduceAdd]
      refine endsAs [0] ?_
      simp (config := { maxSteps := 1000000 }) only [RS.cut, hdl, push_cast, ↓reduceIte]
    · rw [if_neg hm] at hq
      subst hq
      have hm2 : most < v := UInt64.not_le.1 hm
      simp (config := { maxSteps := 1000000 }) only [hm2, push_cast, ↓reduceIte, reduceCtorEq, Nat.reduceEqDiff, Nat.reduceLT]
      (repeat (refine And.intro (by first | omega | decide) ?_))
      refine callG_rule rfl cb69 rfl (failK (k0 := 0) (s := s) (by simp only [push_cast]) rfl) (dOk_lt rfl) (fun _ => by simp only [push_cast, Nat.reduceLT]) ?_
      simp (config := { maxSteps := 1000000 }) only [vU64_zero, push_cast, ↓reduceIte, Nat.reduceEqDiff, Nat.reduceLT, Nat.reduceAdd]
      refine endsAs [0] ?_
      simp (config := { maxSteps := 1000000 }) only [push_cast, ↓reduceIte]
end
end Go.Proofs.YtiaeollemmkclaaDoor
