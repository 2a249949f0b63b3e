import Derived.Test.YtiaeollemmkclaaDoorPkD
/- law 13's write: a field more; how a writer's caller sees it. -/
namespace Go.Proofs.YtiaeollemmkclaaDoor
open Go.RowKit
set_option linter.unusedSimpArgs false
set_option linter.unusedVariables false
/-- What whom one calls may not turn, one may not turn oneself. -/
theorem FW.call {w w' : World} {X Y : Nat → Prop} {γ : List Nm} {hp : List Res} {A : Option Addr} {vs : List Value} (h : FW w X A vs) (hS : Sat w X γ hp w') (hY : ∀ b, Y b → ∃ (k : Nat) (r : Res), hp[k]? = some r ∧ r.has γ k b) : FW w' Y A vs := by
  refine ⟨fun hp => ?_, fun hp a ha hy => ?_⟩
  · obtain ⟨b, off, h1, h2, h3⟩ := h.rd hp
    exact ⟨b, off, h1, Nat.lt_of_lt_of_le h2 hS.keeps.size, fun j u hu => (World.cell?_of_block (hS.keeps.block b h2 (h.far hp _ h1))).trans (h3 j u hu)⟩
  · obtain ⟨b, off, h1, h2, h3⟩ := h.rd hp
    rw [ha] at h1
    cases h1
    obtain ⟨k, r, hr, hb⟩ := hY _ hy
    rcases (hS.mine k r _ hr hb).1 with h4 | h4
    · exact h.far hp _ ha h4
    · exact absurd h2 (Nat.not_lt.2 h4)
/-- A field that lies there, and is not turned. -/
structure FdR.OkX (f : FdR) (X : Nat → Prop) (w : World) : Prop where
  ok : f.Ok w
  l : FW w X f.l.A (f.l.l.map vU64)
  b : FW w X f.b.A (f.b.l.map vU8)
  x : FW w X f.x.A (f.x.l.map vU32)
section
variable {w0 : World} {ow : Nat → Prop} {hp : List Res} {k0 k1 n : Nat} {r : List (List UInt8)} {b : List UInt8} {f : FuncId} {args : List Sv}
theorem methK (hn : n + b.length ≤ 1000000000) (hn1 : k0 ≠ k1) (hbr : ∀ r ∈ hp, Res.bnd hp.length r) (hk : bview hp[k0]? = some (47, .c [.o k1, .v (.int .i64 (n : Int))])) (h1 : hp[k1]? = some (.abs (ChR 125 r)))
    (ha : ∀ γ γ', List.map (Sv.val γ) args = List.map (Sv.val γ') args) (hG : ∀ γ w, Sat w0 ow γ hp w → ∀ X : Nat → Prop, (∀ b, X b → ∃ (k : Nat) (r : Res), k ∈ [k0, k1] ∧ hp[k]? = some r ∧ r.has γ k b) → WrG f args b X w) :
    CallOK Tryd.prog w0 ow f (.x (.a (.p k0 0)) :: args) hp (.t []) (wrS hp k0 [k0, k1] r n b) :=
  writerK hn1 hbr hk h1 fun γ w hS X hX γ0 g hS0 e => by
    have := hG γ w hS X hX r n g γ0 hn hS0
    rw [List.map_cons, e, ha γ0 γ] at this
    exact this
end
attribute [local irreducible] Callable CallOK CallG CallM DrawG LoopG symR symM
attribute [local irreducible] fdA putV numsB rowB lenV
section
variable {X : Nat → Prop} {w : World}
set_option maxRecDepth 100000 in
set_option maxHeartbeats 1000000 in
theorem write13_any (f : FdR) (hf : f.OkX X w) (hl : f.l.l.length ≤ 10000000) (hb : f.b.l.length ≤ 10000000) (hx : f.x.l.length ≤ 10000000) : WrG 9 [.x (.g (fdA f))] (putF f.fd) X w := fun r n g γ hn hS => by
  obtain ⟨f0, f1, f2, f3, f36, f37, f38⟩ := fdA_get hf.ok.s
  have fl := fdA_len hf.ok.s
  have fs := fdA_s hf.ok.s
  have hfs := hf.ok.s
  have fb := fun n => fdA_bnd f n
  simp only [At.bnd] at fb
  generalize hq : putF f.fd = q at *
  unfold putF at hq
  refine calls_fun (n := 34) Tryd.func9 rfl Tryd.ntmps9 _ hS (by simp) (.t []) _ ?_
  have hq' : (if f.k = 0 then putV f.n else if f.k = 1 then lenV f.l.l ++ numsB f.l.l else if f.k = 2 then lenV f.b.l ++ f.b.l else if f.k = 3 then f.s else lenV f.x.l ++ rowB f.x.l) = q := hq
  have sub : ∀ {hp : List Res} {γ : List Nm} {w' : World} {Y : Nat → Prop} {A : Option Addr} {vs : List Value}, FW w X A vs → Sat w X γ hp w' → (∀ b, Y b → ∃ (k : Nat) (r : Res), k ∈ [0, 1] ∧ hp[k]? = some r ∧ r.has γ k b) → FW w' Y A vs := fun h hS hY => h.call hS fun b hb => by
    obtain ⟨k, r, _, h⟩ := hY b hb
    exact ⟨k, r, h⟩
  by_cases k0 : f.k = 0
  · rw [if_pos k0] at hq'
    subst hq'
    simp (config := { maxSteps := 1000000 }) only [fb, fl, f0, f1, f2, f3, f36, f37, f38, ↓fdA_cbnd, ↓fdA_sbnd, ↓fdA_vbnd, ↓fdA_cont, ↓fdA_cren, ↓fdA_sren, ↓fdA_vren, k0, undef, push_cast, ↓Int.toNat_natCast, ↓Int.cast_ofNat_Int, Int.cast_ofNat_Int, ↓reduceIte, reduceCtorEq, Nat.reduceEqDiff, Nat.reduceLT, Nat.reduceLeDiff, Nat.reduceAdd, Nat.reduceSub, Nat.reduceMul, Int.reduceNeg, Int.reduceLE, Int.reduceLT, Int.reduceToNat, Int.reduceAdd, Int.reduceSub, Int.reduceMul, Int.reduceEq]
    (repeat (refine And.intro (by first | omega | decide) ?_))
    refine callG_rule rfl cb60 rfl (methK (k0 := 0) (k1 := 1) (args := [.x (.a (.v (vU64 f.n)))]) hn (by decide) (by simp only [fb, ↓fdA_cbnd, ↓fdA_sbnd, ↓fdA_vbnd, ↓fdA_cont, ↓fdA_cren, ↓fdA_sren, ↓fdA_vren, push_cast, ↓Int.toNat_natCast, ↓Int.cast_ofNat_Int, Int.cast_ofNat_Int, ↓reduceIte, reduceCtorEq, Nat.reduceEqDiff, Nat.reduceLT, Nat.reduceLeDiff, Nat.reduceAdd, Nat.reduceSub, Nat.reduceMul, Int.reduceNeg, Int.reduceLE, Int.reduceLT, Int.reduceToNat, Int.reduceAdd, Int.reduceSub, Int.reduceMul, Int.reduceEq]) rfl rfl (fun _ _ => rfl) fun γ w hS X hX => num_any f.n) (dOk_lt rfl) (fun _ => by simp only [fb, ↓fdA_cbnd, ↓fdA_sbnd, ↓fdA_vbnd, ↓fdA_cont, ↓fdA_cren, ↓fdA_sren, ↓fdA_vren, push_cast, ↓Int.toNat_natCast, ↓Int.cast_ofNat_Int, Int.cast_ofNat_Int, ↓reduceIte, reduceCtorEq, Nat.reduceEqDiff, Nat.reduceLT, Nat.reduceLeDiff, Nat.reduceAdd, Nat.reduceSub, Nat.reduceMul, Int.reduceNeg, Int.reduceLE, Int.reduceLT, Int.reduceToNat, Int.reduceAdd, Int.reduceSub, Int.reduceMul, Int.reduceEq]) ?_
    simp (config := { maxSteps := 1000000 }) only [fb, fl, ↓fdA_cbnd, ↓fdA_sbnd, ↓fdA_vbnd, ↓fdA_cont, ↓fdA_cren, ↓fdA_sren, ↓fdA_vren, undef, push_cast, ↓Int.toNat_natCast, ↓Int.cast_ofNat_Int, Int.cast_ofNat_Int, ↓reduceIte, reduceCtorEq, Nat.reduceEqDiff, Nat.reduceLT, Nat.reduceLeDiff, Nat.reduceAdd, Nat.reduceSub, Nat.reduceMul, Int.reduceNeg, Int.reduceLE, Int.reduceLT, Int.reduceToNat, Int.reduceAdd, Int.reduceSub, Int.reduceMul, Int.reduceEq]
    refine endsAs [0, 4] ?_
    simp (config := { maxSteps := 1000000 }) only [push_cast, ↓Int.toNat_natCast, ↓Int.cast_ofNat_Int, Int.cast_ofNat_Int, ↓reduceIte, reduceCtorEq, Nat.reduceEqDiff, Nat.reduceLT, Nat.reduceLeDiff, Nat.reduceAdd, Nat.reduceSub, Nat.reduceMul, Int.reduceNeg, Int.reduceLE, Int.reduceLT, Int.reduceToNat, Int.reduceAdd, Int.reduceSub, Int.reduceMul, Int.reduceEq]
  rw [if_neg k0] at hq'
  by_cases k1 : f.k = 1
  · rw [if_pos k1] at hq'
    subst hq'
    simp (config := { maxSteps := 1000000 }) only [fb, fl, f0, f1, f2, f3, f36, f37, f38, ↓fdA_cbnd, ↓fdA_sbnd, ↓fdA_vbnd, ↓fdA_cont, ↓fdA_cren, ↓fdA_sren, ↓fdA_vren, k0, k1, SlR.val, fs, hfs, undef, push_cast, ↓Int.toNat_natCast, ↓Int.cast_ofNat_Int, Int.cast_ofNat_Int, ↓reduceIte, reduceCtorEq, Nat.reduceEqDiff, Nat.reduceLT, Nat.reduceLeDiff, Nat.reduceAdd, Nat.reduceSub, Nat.reduceMul, Int.reduceNeg, Int.reduceLE, Int.reduceLT, Int.reduceToNat, Int.reduceAdd, Int.reduceSub, Int.reduceMul, Int.reduceEq]
    (repeat (refine And.intro (by first | omega | decide) ?_))
    refine callG_rule rfl cb61 rfl (methK (k0 := 0) (k1 := 1) (args := [.x (.a (.v (.slice f.l.A f.l.l.length f.l.c)))]) hn (by decide) (by simp only [fb, ↓fdA_cbnd, ↓fdA_sbnd, ↓fdA_vbnd, ↓fdA_cont, ↓fdA_cren, ↓fdA_sren, ↓fdA_vren, push_cast, ↓Int.toNat_natCast, ↓Int.cast_ofNat_Int, Int.cast_ofNat_Int, ↓reduceIte, reduceCtorEq, Nat.reduceEqDiff, Nat.reduceLT, Nat.reduceLeDiff, Nat.reduceAdd, Nat.reduceSub, Nat.reduceMul, Int.reduceNeg, Int.reduceLE, Int.reduceLT, Int.reduceToNat, Int.reduceAdd, Int.reduceSub, Int.reduceMul, Int.reduceEq]) rfl rfl (fun _ _ => rfl) fun γ w hS X hX => nums_any f.l.l f.l.A f.l.c hl (sub hf.l hS hX)) (dOk_lt rfl) (fun _ => by simp only [fb, ↓fdA_cbnd, ↓fdA_sbnd, ↓fdA_vbnd, ↓fdA_cont, ↓fdA_cren, ↓fdA_sren, ↓fdA_vren, push_cast, ↓Int.toNat_natCast, ↓Int.cast_ofNat_Int, Int.cast_ofNat_Int, ↓reduceIte, reduceCtorEq, Nat.reduceEqDiff, Nat.reduceLT, Nat.reduceLeDiff, Nat.reduceAdd, Nat.reduceSub, Nat.reduceMul, Int.reduceNeg, Int.reduceLE, Int.reduceLT, Int.reduceToNat, Int.reduceAdd, Int.reduceSub, Int.reduceMul, Int.reduceEq]) ?_
    simp (config := { maxSteps := 1000000 }) only [fb, fl, ↓fdA_cbnd, ↓fdA_sbnd, ↓fdA_vbnd, ↓fdA_cont, ↓fdA_cren, ↓fdA_sren, ↓fdA_vren, undef, push_cast, ↓Int.toNat_natCast, ↓Int.cast_ofNat_Int, Int.cast_ofNat_Int, ↓reduceIte, reduceCtorEq, Nat.reduceEqDiff, Nat.reduceLT, Nat.reduceLeDiff, Nat.reduceAdd, Nat.reduceSub, Nat.reduceMul, Int.reduceNeg, Int.reduceLE, Int.reduceLT, Int.reduceToNat, Int.reduceAdd, Int.reduceSub, Int.reduceMul, Int.reduceEq]
    refine endsAs [0, 4] ?_
    simp (config := { maxSteps := 1000000 }) only [push_cast, ↓Int.toNat_natCast, ↓Int.cast_ofNat_Int, Int.cast_ofNat_Int, ↓reduceIte, reduceCtorEq, Nat.reduceEqDiff, Nat.reduceLT, Nat.reduceLeDiff, Nat.reduceAdd, Nat.reduceSub, Nat.reduceMul, Int.reduceNeg, Int.reduceLE, Int.reduceLT, Int.reduceToNat, Int.reduceAdd, Int.reduceSub, Int.reduceMul, Int.reduceEq]
  rw [if_neg k1] at hq'
  by_cases k2 : f.k = 2
  · rw [if_pos k2] at hq'
    subst hq'
    simp (config := { maxSteps := 1000000 }) only [fb, fl, f0, f1, f2, f3, f36, f37, f38, ↓fdA_cbnd, ↓fdA_sbnd, ↓fdA_vbnd, ↓fdA_cont, ↓fdA_cren, ↓fdA_sren, ↓fdA_vren, k0, k1, k2, SlR.val, fs, hfs, undef, push_cast, ↓Int.toNat_natCast, ↓Int.cast_ofNat_Int, Int.cast_ofNat_Int, ↓reduceIte, reduceCtorEq, Nat.reduceEqDiff, Nat.reduceLT, Nat.reduceLeDiff, Nat.reduceAdd, Nat.reduceSub, Nat.reduceMul, Int.reduceNeg, Int.reduceLE, Int.reduceLT, Int.reduceToNat, Int.reduceAdd, Int.reduceSub, Int.reduceMul, Int.reduceEq]
    (repeat (refine And.intro (by first | omega | decide) ?_))
    refine callG_rule rfl cb62 rfl (methK (k0 := 0) (k1 := 1) (args := [.x (.a (.v (.slice f.b.A f.b.l.length f.b.c)))]) hn (by decide) (by simp only [fb, ↓fdA_cbnd, ↓fdA_sbnd, ↓fdA_vbnd, ↓fdA_cont, ↓fdA_cren, ↓fdA_sren, ↓fdA_vren, push_cast, ↓Int.toNat_natCast, ↓Int.cast_ofNat_Int, Int.cast_ofNat_Int, ↓reduceIte, reduceCtorEq, Nat.reduceEqDiff, Nat.reduceLT, Nat.reduceLeDiff, Nat.reduceAdd, Nat.reduceSub, Nat.reduceMul, Int.reduceNeg, Int.reduceLE, Int.reduceLT, Int.reduceToNat, Int.reduceAdd, Int.reduceSub, Int.reduceMul, Int.reduceEq]) rfl rfl (fun _ _ => rfl) fun γ w hS X hX => bytes_any f.b.l f.b.A f.b.c hb (sub hf.b hS hX)) (dOk_lt rfl) (fun _ => by simp only [fb, ↓fdA_cbnd, ↓fdA_sbnd, ↓fdA_vbnd, ↓fdA_cont, ↓fdA_cren, ↓fdA_sren, ↓fdA_vren, push_cast, ↓Int.toNat_natCast, ↓Int.cast_ofNat_Int, Int.cast_ofNat_Int, ↓reduceIte, reduceCtorEq, Nat.reduceEqDiff, Nat.reduceLT, Nat.reduceLeDiff, Nat.reduceAdd, Nat.reduceSub, Nat.reduceMul, Int.reduceNeg, Int.reduceLE, Int.reduceLT, Int.reduceToNat, Int.reduceAdd, Int.reduceSub, Int.reduceMul, Int.reduceEq]) ?_
    simp (config := { maxSteps := 1000000 }) only [fb, fl, ↓fdA_cbnd, ↓fdA_sbnd, ↓fdA_vbnd, ↓fdA_cont, ↓fdA_cren, ↓fdA_sren, ↓fdA_vren, undef, push_cast, ↓Int.toNat_natCast, ↓Int.cast_ofNat_Int, Int.cast_ofNat_Int, ↓reduceIte, reduceCtorEq, Nat.reduceEqDiff, Nat.reduceLT, Nat.reduceLeDiff, Nat.reduceAdd, Nat.reduceSub, Nat.reduceMul, Int.reduceNeg, Int.reduceLE, Int.reduceLT, Int.reduceToNat, Int.reduceAdd, Int.reduceSub, Int.reduceMul, Int.reduceEq]
    refine endsAs [0, 4] ?_
    simp (config := { maxSteps := 1000000 }) only [push_cast, ↓Int.toNat_natCast, ↓Int.cast_ofNat_Int, Int.cast_ofNat_Int, ↓reduceIte, reduceCtorEq, Nat.reduceEqDiff, Nat.reduceLT, Nat.reduceLeDiff, Nat.reduceAdd, Nat.reduceSub, Nat.reduceMul, Int.reduceNeg, Int.reduceLE, Int.reduceLT, Int.reduceToNat, Int.reduceAdd, Int.reduceSub, Int.reduceMul, Int.reduceEq]
  rw [if_neg k2] at hq'
  by_cases k3 : f.k = 3
  · rw [if_pos k3] at hq'
    have hsum : ∀ (X : Nat → Prop) (w : World), WrG 63 [.x (.a8 f.s)] q X w := fun X w => hq' ▸ sum_any f.s hfs
    simp (config := { maxSteps := 1000000 }) only [fb, fl, f0, f1, f2, f3, f36, f37, f38, ↓fdA_cbnd, ↓fdA_sbnd, ↓fdA_vbnd, ↓fdA_cont, ↓fdA_cren, ↓fdA_sren, ↓fdA_vren, k0, k1, k2, k3, SlR.val, fs, hfs, undef, push_cast, ↓Int.toNat_natCast, ↓Int.cast_ofNat_Int, Int.cast_ofNat_Int, ↓reduceIte, reduceCtorEq, Nat.reduceEqDiff, Nat.reduceLT, Nat.reduceLeDiff, Nat.reduceAdd, Nat.reduceSub, Nat.reduceMul, Int.reduceNeg, Int.reduceLE, Int.reduceLT, Int.reduceToNat, Int.reduceAdd, Int.reduceSub, Int.reduceMul, Int.reduceEq]
    (repeat (refine And.intro (by first | omega | decide) ?_))
    refine callG_rule rfl cb63 rfl (methK (k0 := 0) (k1 := 1) (args := [.x (.a8 f.s)]) hn (by decide) (by simp only [fb, ↓fdA_cbnd, ↓fdA_sbnd, ↓fdA_vbnd, ↓fdA_cont, ↓fdA_cren, ↓fdA_sren, ↓fdA_vren, push_cast, ↓Int.toNat_natCast, ↓Int.cast_ofNat_Int, Int.cast_ofNat_Int, ↓reduceIte, reduceCtorEq, Nat.reduceEqDiff, Nat.reduceLT, Nat.reduceLeDiff, Nat.reduceAdd, Nat.reduceSub, Nat.reduceMul, Int.reduceNeg, Int.reduceLE, Int.reduceLT, Int.reduceToNat, Int.reduceAdd, Int.reduceSub, Int.reduceMul, Int.reduceEq]) rfl rfl (fun _ _ => rfl) fun γ w hS X hX => hsum X w) (dOk_lt rfl) (fun _ => by simp only [fb, ↓fdA_cbnd, ↓fdA_sbnd, ↓fdA_vbnd, ↓fdA_cont, ↓fdA_cren, ↓fdA_sren, ↓fdA_vren, push_cast, ↓Int.toNat_natCast, ↓Int.cast_ofNat_Int, Int.cast_ofNat_Int, ↓reduceIte, reduceCtorEq, Nat.reduceEqDiff, Nat.reduceLT, Nat.reduceLeDiff, Nat.reduceAdd, Nat.reduceSub, Nat.reduceMul, Int.reduceNeg, Int.reduceLE, Int.reduceLT, Int.reduceToNat, Int.reduceAdd, Int.reduceSub, Int.reduceMul, Int.reduceEq]) ?_
    simp (config := { maxSteps := 1000000 }) only [fb, fl, ↓fdA_cbnd, ↓fdA_sbnd, ↓fdA_vbnd, ↓fdA_cont, ↓fdA_cren, ↓fdA_sren, ↓fdA_vren, undef, push_cast, ↓Int.toNat_natCast, ↓Int.cast_ofNat_Int, Int.cast_ofNat_Int, ↓reduceIte, reduceCtorEq, Nat.reduceEqDiff, Nat.reduceLT, Nat.reduceLeDiff, Nat.reduceAdd, Nat.reduceSub, Nat.reduceMul, Int.reduceNeg, Int.reduceLE, Int.reduceLT, Int.reduceToNat, Int.reduceAdd, Int.reduceSub, Int.reduceMul, Int.reduceEq]
    refine endsAs [0, 4] ?_
    simp (config := { maxSteps := 1000000 }) only [push_cast, ↓Int.toNat_natCast, ↓Int.cast_ofNat_Int, Int.cast_ofNat_Int, ↓reduceIte, reduceCtorEq, Nat.reduceEqDiff, Nat.reduceLT, Nat.reduceLeDiff, Nat.reduceAdd, Nat.reduceSub, Nat.reduceMul, Int.reduceNeg, Int.reduceLE, Int.reduceLT, Int.reduceToNat, Int.reduceAdd, Int.reduceSub, Int.reduceMul, Int.reduceEq]
  rw [if_neg k3] at hq'
  subst hq'
  simp (config := { maxSteps := 1000000 }) only [fb, fl, f0, f1, f2, f3, f36, f37, f38, ↓fdA_cbnd, ↓fdA_sbnd, ↓fdA_vbnd, ↓fdA_cont, ↓fdA_cren, ↓fdA_sren, ↓fdA_vren, k0, k1, k2, k3, SlR.val, undef, push_cast, ↓Int.toNat_natCast, ↓Int.cast_ofNat_Int, Int.cast_ofNat_Int, ↓reduceIte, reduceCtorEq, Nat.reduceEqDiff, Nat.reduceLT, Nat.reduceLeDiff, Nat.reduceAdd, Nat.reduceSub, Nat.reduceMul, Int.reduceNeg, Int.reduceLE, Int.reduceLT, Int.reduceToNat, Int.reduceAdd, Int.reduceSub, Int.reduceMul, Int.reduceEq]
  (repeat (refine And.intro (by first | omega | decide) ?_))
  refine callG_rule rfl cb64 rfl (methK (k0 := 0) (k1 := 1) (args := [.x (.a (.v (.slice f.x.A f.x.l.length f.x.c)))]) hn (by decide) (by simp only [fb, ↓fdA_cbnd, ↓fdA_sbnd, ↓fdA_vbnd, ↓fdA_cont, ↓fdA_cren, ↓fdA_sren, ↓fdA_vren, push_cast, ↓Int.toNat_natCast, ↓Int.cast_ofNat_Int, Int.cast_ofNat_Int, ↓reduceIte, reduceCtorEq, Nat.reduceEqDiff, Nat.reduceLT, Nat.reduceLeDiff, Nat.reduceAdd, Nat.reduceSub, Nat.reduceMul, Int.reduceNeg, Int.reduceLE, Int.reduceLT, Int.reduceToNat, Int.reduceAdd, Int.reduceSub, Int.reduceMul, Int.reduceEq]) rfl rfl (fun _ _ => rfl) fun γ w hS X hX => row_any f.x.l f.x.A f.x.c hx (sub hf.x hS hX)) (dOk_lt rfl) (fun _ => by simp only [fb, ↓fdA_cbnd, ↓fdA_sbnd, ↓fdA_vbnd, ↓fdA_cont, ↓fdA_cren, ↓fdA_sren, ↓fdA_vren, push_cast, ↓Int.toNat_natCast, ↓Int.cast_ofNat_Int, Int.cast_ofNat_Int, ↓reduceIte, reduceCtorEq, Nat.reduceEqDiff, Nat.reduceLT, Nat.reduceLeDiff, Nat.reduceAdd, Nat.reduceSub, Nat.reduceMul, Int.reduceNeg, Int.reduceLE, Int.reduceLT, Int.reduceToNat, Int.reduceAdd, Int.reduceSub, Int.reduceMul, Int.reduceEq]) ?_
  simp (config := { maxSteps := 1000000 }) only [fb, fl, ↓fdA_cbnd, ↓fdA_sbnd, ↓fdA_vbnd, ↓fdA_cont, ↓fdA_cren, ↓fdA_sren, ↓fdA_vren, undef, push_cast, ↓Int.toNat_natCast, ↓Int.cast_ofNat_Int, Int.cast_ofNat_Int, ↓reduceIte, reduceCtorEq, Nat.reduceEqDiff, Nat.reduceLT, Nat.reduceLeDiff, Nat.reduceAdd, Nat.reduceSub, Nat.reduceMul, Int.reduceNeg, Int.reduceLE, Int.reduceLT, Int.reduceToNat, Int.reduceAdd, Int.reduceSub, Int.reduceMul, Int.reduceEq]
  refine endsAs [0, 4] ?_
  simp (config := { maxSteps := 1000000 }) only [push_cast, ↓Int.toNat_natCast, ↓Int.cast_ofNat_Int, Int.cast_ofNat_Int, ↓reduceIte, reduceCtorEq, Nat.reduceEqDiff, Nat.reduceLT, Nat.reduceLeDiff, Nat.reduceAdd, Nat.reduceSub, Nat.reduceMul, Int.reduceNeg, Int.reduceLE, Int.reduceLT, Int.reduceToNat, Int.reduceAdd, Int.reduceSub, Int.reduceMul, Int.reduceEq]
end
/-! ### Readers, as their caller sees them -/
section
variable {w0 : World} {ow : Nat → Prop} {hp : List Res} {k0 : Nat} {s t : RS}
theorem rmethK {f : FuncId} {args : List Sv} {sv : Sv} {new : List Res} (hbr : ∀ r ∈ hp, Res.bnd hp.length r) (hk : bview hp[k0]? = some (132, (.c [.v (.slice s.A s.l.length s.c), .v (.bool s.bad)]))) (hb1 : ∀ r ∈ new, Res.bnd (new.length + 1) r) (hsb : sv.bnd (new.length + 1)) (ha : ∀ γ γ', List.map (Sv.val γ) args = List.map (Sv.val γ') args)
    (hs : s.Far w0 ow hp k0) (h : ∀ X w, s.Ok X w → RdG f args sv s t new X w) : CallOK Tryd.prog w0 ow f (.x (.a (.p k0 0)) :: args) hp (rdV hp k0 new sv) (rdS hp k0 t new) :=
  readerK hbr hk hb1 hsb ha fun γ w hS X hX => h X w (hs γ w hS X hX)
theorem doneK (hl : s.l.length ≤ 10000000) (hk : bview hp[k0]? = some (132, (.c [.v (.slice s.A s.l.length s.c), .v (.bool s.bad)]))) : CallOK Tryd.prog w0 ow 17 [.x (.a (.p k0 0))] hp (.x (.a (.v (if s.bad = false ∧ s.l = [] then .nilIface else .iface 137 (.int .i64 3))))) hp := callOK_v fun γ w hS => by
  have d0 := hS.cellv hk (i := 0) (by show 0 < 2; omega)
  have d1 := hS.cellv hk (i := 1) (by show 1 < 2; omega)
  obtain ⟨h1, h2, h3, h4, h5, h6⟩ := Two.of d0 d1
  exact done_any hl h1 h2 h3 h4 h5 h6
end
section
variable {w0 : World} {ow : Nat → Prop} {hp : List Res}
set_option maxRecDepth 100000 in
/-- A reader of bytes: a variable, and a copy of these. -/
theorem readNew_any (l : List UInt8) (A : Option Addr) (c : Nat) {γ : List Nm} {w : World} (hl : l.length ≤ 10000000) (hc : l.length ≤ c) (hR : RdV w w.heap.size A (l.map vU8)) :
    Calls Tryd.prog 20 (List.map (Sv.val []) [.x (.a (.v (.slice A l.length c)))]).toArray w fun e w' => ∃ γ1, e = .returned ((Sv.x (.a (.p 0 0))).val γ1) ∧ Sat w No γ1 [.blk 132 (.c [.o 1, .v (.bool false)]), .own 5 (.u8 l)] w' := by
  refine calls_fun (n := 7) Tryd.func20 rfl Tryd.ntmps20 _ (Sat.init w No) (by simp) _ _ ?_
  simp (config := { maxSteps := 1000000 }) only [undef, push_cast, ↓Int.toNat_natCast, ↓Int.cast_ofNat_Int, Int.cast_ofNat_Int, ↓reduceIte, reduceCtorEq, Nat.reduceEqDiff, Nat.reduceLT, Nat.reduceLeDiff, Nat.reduceAdd, Nat.reduceSub, Nat.reduceMul, Int.reduceNeg, Int.reduceLE, Int.reduceLT, Int.reduceToNat, Int.reduceAdd, Int.reduceSub, Int.reduceMul, Int.reduceEq]
  (repeat (refine And.intro (by first | omega | decide) ?_))
  refine callG_x rfl cb67 rfl (clone8K (l := l) hl (shows_raw hR _ _ (by simp) hc) (by simp only [push_cast, ↓Int.toNat_natCast, ↓Int.cast_ofNat_Int, Int.cast_ofNat_Int, ↓reduceIte, reduceCtorEq, Nat.reduceEqDiff, Nat.reduceLT, Nat.reduceLeDiff, Nat.reduceAdd, Nat.reduceSub, Nat.reduceMul, Int.reduceNeg, Int.reduceLE, Int.reduceLT, Int.reduceToNat, Int.reduceAdd, Int.reduceSub, Int.reduceMul, Int.reduceEq])) (dOk_lt rfl) (by simp only [push_cast, ↓Int.toNat_natCast, ↓Int.cast_ofNat_Int, Int.cast_ofNat_Int, ↓reduceIte, reduceCtorEq, Nat.reduceEqDiff, Nat.reduceLT, Nat.reduceLeDiff, Nat.reduceAdd, Nat.reduceSub, Nat.reduceMul, Int.reduceNeg, Int.reduceLE, Int.reduceLT, Int.reduceToNat, Int.reduceAdd, Int.reduceSub, Int.reduceMul, Int.reduceEq]) ?_
  simp (config := { maxSteps := 1000000 }) only [undef, push_cast, ↓Int.toNat_natCast, ↓Int.cast_ofNat_Int, Int.cast_ofNat_Int, ↓reduceIte, reduceCtorEq, Nat.reduceEqDiff, Nat.reduceLT, Nat.reduceLeDiff, Nat.reduceAdd, Nat.reduceSub, Nat.reduceMul, Int.reduceNeg, Int.reduceLE, Int.reduceLT, Int.reduceToNat, Int.reduceAdd, Int.reduceSub, Int.reduceMul, Int.reduceEq]
  refine endsAs [1, 0] ?_
  simp (config := { maxSteps := 1000000 }) only [push_cast, ↓Int.toNat_natCast, ↓Int.cast_ofNat_Int, Int.cast_ofNat_Int, ↓reduceIte, reduceCtorEq, Nat.reduceEqDiff, Nat.reduceLT, Nat.reduceLeDiff, Nat.reduceAdd, Nat.reduceSub, Nat.reduceMul, Int.reduceNeg, Int.reduceLE, Int.reduceLT, Int.reduceToNat, Int.reduceAdd, Int.reduceSub, Int.reduceMul, Int.reduceEq]
theorem readNewK (l : List UInt8) {sv : Sv} (hl : l.length ≤ 10000000) (hbr : ∀ r ∈ hp, Res.bnd hp.length r) (h : Shows w0 ow hp sv (l.map vU8)) :
    CallOK Tryd.prog w0 ow 20 [sv] hp (.x (.a (.p hp.length 0))) (hp ++ [.blk 132 (.c [.o (hp.length + 1), .v (.bool false)]), .own 5 (.u8 l)]) := by
  have := callOK_take (P := Tryd.prog) (w0 := w0) (ow := ow) (f := 20) (svs := [sv]) (hp := hp) (sv1 := .x (.a (.p 0 0))) (hp1 := [.blk 132 (.c [.o 1, .v (.bool false)]), .own 5 (.u8 l)]) [] hbr
    (by simp only [push_cast, ↓Int.toNat_natCast, ↓Int.cast_ofNat_Int, Int.cast_ofNat_Int, ↓reduceIte, reduceCtorEq, Nat.reduceEqDiff, Nat.reduceLT, Nat.reduceLeDiff, Nat.reduceAdd, Nat.reduceSub, Nat.reduceMul, Int.reduceNeg, Int.reduceLE, Int.reduceLT, Int.reduceToNat, Int.reduceAdd, Int.reduceSub, Int.reduceMul, Int.reduceEq]) (by simp only [push_cast, ↓Int.toNat_natCast, ↓Int.cast_ofNat_Int, Int.cast_ofNat_Int, ↓reduceIte, reduceCtorEq, Nat.reduceEqDiff, Nat.reduceLT, Nat.reduceLeDiff, Nat.reduceAdd, Nat.reduceSub, Nat.reduceMul, Int.reduceNeg, Int.reduceLE, Int.reduceLT, Int.reduceToNat, Int.reduceAdd, Int.reduceSub, Int.reduceMul, Int.reduceEq]) fun γ w hS => ⟨No, fun b h => h.elim, by
      obtain ⟨A, c, e1, b1, r1⟩ := h γ w hS
      rw [List.length_map] at e1 b1
      have := readNew_any (γ := γ) l A c hl b1 r1
      rw [show List.map (Sv.val γ) [sv] = List.map (Sv.val []) [.x (.a (.v (.slice A l.length c)))] from by simp only [List.map_cons, List.map_nil, e1]; rfl]
      exact this⟩
  exact this
end
end Go.Proofs.YtiaeollemmkclaaDoor
