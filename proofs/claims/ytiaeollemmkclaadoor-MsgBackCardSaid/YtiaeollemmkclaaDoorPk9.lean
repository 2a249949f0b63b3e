import Derived.Test.YtiaeollemmkclaaDoorPk8
/- pack.Reader: count, Num, Nums (layer 13). -/
namespace Go.Proofs.YtiaeollemmkclaaDoor
open Go.RowKit
set_option linter.unusedSimpArgs false
set_option linter.unusedVariables false
def cntS (many : Int) (each : Nat) (s : RS) : Nat × Bool × RS :=
  if (numS (manyU many) s).2.1 = true then
    (if (numS (manyU many) s).1.toNat ≤ (numS (manyU many) s).2.2.l.length / each then ((numS (manyU many) s).1.toNat, true, (numS (manyU many) s).2.2) else (0, false, RS.fail))
  else (0, false, RS.fail)
theorem cntS_rs (many : Int) (each : Nat) (s : RS) : ((cntS many each s).1, (cntS many each s).2.1, (cntS many each s).2.2.rs) = cntR many each s.rs := by
  have h := numS_rs (manyU many) s
  have h1 := congrArg Prod.fst h
  have h2 := congrArg (fun x => x.2.1) h
  have h3 := congrArg (fun x => x.2.2) h
  dsimp only at h1 h2 h3
  unfold cntS cntR
  rw [← h1, ← h2, ← h3]
  split
  · show (_ : Nat × Bool × Rs) = if _ ≤ (numS (manyU many) s).2.2.l.length / each then _ else _
    split <;> rfl
  · rfl
theorem numS_fail {most : UInt64} {s : RS} (h : ¬ (numS most s).2.1 = true) : numS most s = (0, false, RS.fail) := by
  unfold numS at h ⊢
  split
  · rename_i v n e
    rw [e] at h
    simp only at h
    split
    · rename_i hm
      rw [if_pos hm] at h
      exact absurd rfl h
    · rfl
  · rfl
theorem cntS_ok {many : Int} {each : Nat} {s : RS} {X : Nat → Prop} {w : World} (h : s.Ok X w) : (cntS many each s).2.2.Ok X w := by
  unfold cntS
  split
  · split
    · exact numS_ok h
    · exact RS.Ok.fail
  · exact RS.Ok.fail
theorem cntS_le {many : Int} {each : Nat} {s : RS} (h : (cntS many each s).2.1 = true) : (cntS many each s).1 ≤ (cntS many each s).2.2.l.length / each := by
  unfold cntS at h ⊢
  split
  · split
    · rename_i h2; exact h2
    · rename_i h1 h2
      rw [if_pos h1, if_neg h2] at h
      cases h
  · rename_i h1
    rw [if_neg h1] at h
    cases h
theorem cntS_fail {many : Int} {each : Nat} {s : RS} (h : ¬ (cntS many each s).2.1 = true) : cntS many each s = (0, false, RS.fail) := by
  unfold cntS at h ⊢
  split
  · split
    · rename_i h1 h2
      rw [if_pos h1, if_pos h2] at h
      exact absurd rfl h
    · rfl
  · rfl
attribute [local irreducible] Callable CallOK CallG CallM DrawG LoopG symR symM
section
variable {w0 : World} {ow : Nat → Prop} {hp : List Res} {k0 : Nat} {s : RS}
/-- What may be known of a reader's bytes to whom its variable is lent. -/
def RS.Far (s : RS) (w0 : World) (ow : Nat → Prop) (hp : List Res) (k0 : Nat) : Prop := ∀ γ w, Sat w0 ow γ hp w → ∀ X : Nat → Prop, (∀ b, X b → ∃ (k : Nat) (r : Res), k ∈ [k0] ∧ hp[k]? = some r ∧ r.has γ k b) → s.Ok X w
theorem numberK (most : UInt64) (hbr : ∀ r ∈ hp, Res.bnd hp.length r) (hk : bview hp[k0]? = some (132, (.c [.v (.slice s.A s.l.length s.c), .v (.bool s.bad)]))) (hs : s.Far w0 ow hp k0) :
    CallOK Tryd.prog w0 ow 65 [.x (.a (.p k0 0)), .x (.a (.v (vU64 most)))] hp (rdV hp k0 [] (.t [.a (.v (vU64 (numS most s).1)), .a (.v (.bool (numS most s).2.1))])) (rdS hp k0 (numS most s).2.2 []) :=
  readerK (args := [.x (.a (.v (vU64 most)))]) hbr hk (by simp only [push_cast]) (by simp only [push_cast]) (fun _ _ => rfl) fun γ w hS X hX => number_any most (hs γ w hS X hX)
end
theorem pin_own {X : Nat → Prop} {γ : List Nm} {w : World} {hp : List Res} {g : Nat} {t : TypeId} {c : Cont} (hS : Sat w X γ hp w) (h0 : hp[0]? = some (.pin g t c)) : X g := by
  have h1 := hS.holds 0 _ h0
  obtain ⟨h2, h3⟩ := hS.mine 0 _ g h0 (by show some (nmB γ 0) = some g; rw [h1.2.1])
  rcases h2 with h | h
  · exact h
  · exact absurd h3 (Nat.not_lt.2 h)
/-- A reader that is all there is. -/
theorem far_here {s : RS} {X : Nat → Prop} {w : World} {hp : List Res} {g : Nat} {c : Cont} {t : TypeId} (hs : s.Ok X w) (h0 : hp[0]? = some (.pin g t c)) (hXg : X g) : s.Far w X hp 0 := fun γ w' hS Y hY => by
  refine ⟨hs.len, hs.max, ?_⟩
  have hb : ∀ b, Y b → X b := fun b hb => by
    obtain ⟨k, r, hk, hr, h⟩ := hY b hb
    obtain rfl : k = 0 := by simpa using hk
    rw [h0] at hr
    cases hr
    have h : some (nmB γ 0) = some b := h
    injection h with h
    have e : nmB γ 0 = g := (hS.holds 0 _ h0).2.1
    rw [← h, e]
    exact hXg
  refine ⟨fun hp => ?_, fun hp a ha hy => hs.fw.far hp a ha (hb _ hy)⟩
  obtain ⟨b, off, h1, h2, h3⟩ := hs.fw.rd hp
  have hno := hs.fw.far hp _ h1
  exact ⟨b, off, h1, Nat.lt_of_lt_of_le h2 hS.keeps.size, fun j u hu => (World.cell?_of_block (hS.keeps.block b h2 hno)).trans (h3 j u hu)⟩
section
variable {X : Nat → Prop} {w : World} {s : RS}
set_option maxRecDepth 100000 in
theorem count_any (many : Int) (each : Nat) (h0 : 0 < each) (he : each ≤ 100) (hm : -9223372036854775808 ≤ many ∧ many ≤ 9223372036854775807) (hs : s.Ok X w) : RdG 66 [.x (.a (.v (.int .i64 many))), .x (.a (.v (.int .i64 each)))] (.t [.a (.v (.int .i64 (cntS many each s).1)), .a (.v (.bool (cntS many each s).2.1))]) s (cntS many each s).2.2 [] X w := fun g γ hS => by
  have hXg := pin_own hS rfl
  have hmx : (if many < 0 then 0 else many) = (((max many 0).toNat : Nat) : Int) := by split <;> omega
  have hmu : UInt64.ofInt (((max many 0).toNat : Nat) : Int) = manyU many := u64_ofInt _
  have hq1 := numS_ok (most := manyU many) hs
  have hcs : cntS many each s = cntS many each s := rfl
  refine calls_fun (n := 34) Tryd.func66 rfl Tryd.ntmps66 _ hS (by simp) _ _ ?_
  generalize hq : cntS many each s = q
  unfold cntS at hq
  simp (config := { maxSteps := 1000000 }) only [hmx, hmu, push_cast, ↓reduceIte, reduceCtorEq, Nat.reduceEqDiff, Nat.reduceLT, Nat.reduceAdd]
  (repeat (refine And.intro (by first | omega | decide) ?_))
  refine callG_rule rfl cb65 rfl (numberK (k0 := 0) (s := s) (manyU many) (by simp only [push_cast]) rfl (far_here hs rfl hXg)) (dOk_lt rfl) (fun _ => by simp only [push_cast, Nat.reduceLT]) ?_
  have hfl := @numS_fail (manyU many) s
  generalize numS (manyU many) s = t at *
  obtain ⟨v, ok, t⟩ := t
  dsimp only at hq hq1 hfl
  cases ok with
  | false =>
    have hfl := hfl (by decide)
    injection hfl with _ h2
    injection h2 with _ h2
    subst h2
    rw [if_neg (by decide)] at hq
    subst hq
    simp (config := { maxSteps := 1000000 }) only [push_cast, ↓Int.cast_ofNat_Int, Int.cast_ofNat_Int, ↓reduceIte, Nat.reduceEqDiff, Nat.reduceLT, Nat.reduceAdd]
    refine endsAs [0] ?_
    simp (config := { maxSteps := 1000000 }) only [push_cast, ↓reduceIte]
  | true =>
    rw [if_pos rfl] at hq
    have hlen := hq1.len
    have hmax := hq1.max
    have d1 : ((t.l.length : Int)).tdiv each = ((t.l.length / each : Nat) : Int) := by
      rw [Int.tdiv_eq_ediv_of_nonneg (by omega)]
      exact (Int.natCast_ediv ..).symm
    have d3 : t.l.length / each ≤ t.l.length := Nat.div_le_self ..
    generalize t.l.length / each = D at hq d1 d3
    have d2 := u64_ofInt D
    have d4 : (UInt64.ofNat D).toNat = D := by rw [UInt64.toNat_ofNat']; omega
    have d5 : ¬ (each : Int) = 0 := by omega
    have d6 : -9223372036854775808 ≤ (D : Int) ∧ (D : Int) ≤ 9223372036854775807 := by omega
    obtain ⟨d7, d8⟩ := d6
    by_cases hv : v.toNat ≤ D
    · rw [if_pos hv] at hq
      subst hq
      have g1 : ¬ UInt64.ofNat D < v := by rw [UInt64.lt_iff_toNat_lt, d4]; omega
      have g2 : n64 v = (v.toNat : Int) := rfl
      have g3 : -9223372036854775808 ≤ n64 v ∧ n64 v ≤ 9223372036854775807 := by rw [g2]; omega
      obtain ⟨g4, g5⟩ := g3
      simp (config := { maxSteps := 1000000 }) only [d1, d2, d5, d7, d8, g1, g4, g5, undef, push_cast, ↓reduceIte, reduceCtorEq, Nat.reduceEqDiff, Nat.reduceLT, Nat.reduceAdd, Int.reduceNeg]
      refine endsAs [0] ?_
      simp (config := { maxSteps := 1000000 }) only [g2, push_cast, ↓reduceIte]
    · rw [if_neg hv] at hq
      subst hq
      have g1 : UInt64.ofNat D < v := by rw [UInt64.lt_iff_toNat_lt, d4]; omega
      simp (config := { maxSteps := 1000000 }) only [d1, d2, d5, d7, d8, g1, undef, push_cast, ↓Int.cast_ofNat_Int, Int.cast_ofNat_Int, ↓reduceIte, reduceCtorEq, Nat.reduceEqDiff, Nat.reduceLT, Nat.reduceAdd, Int.reduceNeg]
      (repeat (refine And.intro (by first | omega | decide) ?_))
      refine callG_rule rfl cb69 rfl (failK (k0 := 0) (s := t) (by simp only [push_cast, Nat.reduceAdd]) rfl) (dOk_lt rfl) (fun _ => by simp only [push_cast, Nat.reduceLT, Nat.reduceAdd]) ?_
      simp (config := { maxSteps := 1000000 }) only [push_cast, ↓reduceIte, Nat.reduceEqDiff, Nat.reduceLT, Nat.reduceAdd]
      refine endsAs [0] ?_
      simp (config := { maxSteps := 1000000 }) only [push_cast, ↓reduceIte]
end
end Go.Proofs.YtiaeollemmkclaaDoor
