import Derived.Test.YtiaeollemmkclaaDoorVa1
import Derived.Test.YtiaeollemmkclaaDoorPkI
/- Layer 16: msg.write. -/
namespace Go.Proofs.YtiaeollemmkclaaDoor
open Go.RowKit
set_option linter.unusedSimpArgs false
set_option linter.unusedVariables false
/-- Blocks more, in the callee's own world. -/
def WrS (f : FuncId) (args : List Sv) (bs : List (List UInt8)) (X : Nat → Prop) (w : World) : Prop := ∀ (r : List (List UInt8)) (n g : Nat) (γ : List Nm), n + bs.flatten.length ≤ 1000000000 → Sat w X γ [.pin g 47 (.c [.o 1, .v (.int .i64 (n : Int))]), .abs (ChR 125 r)] w →
  Calls Tryd.prog f (List.map (Sv.val γ) (.x (.a (.p 0 0)) :: args)).toArray w fun e w' => ∃ γ1, e = .returned ((Sv.t []).val γ1) ∧ Sat w X γ1 [.pin g 47 (.c [.o 1, .v (.int .i64 ((n + bs.flatten.length : Nat) : Int))]), .abs (ChR 125 (bs.reverse ++ r))] w'
/-- How memory stands behind a call that wrote blocks more. -/
def wrSS (hp : List Res) (k0 : Nat) (ks : List Nat) (r : List (List UInt8)) (n : Nat) (bs : List (List UInt8)) : List Res :=
  moveR (hp.length + 0) k0 (bput hp[k0]? 47 (Cont.ren (shiftL hp.length 2) (.c [.o 1, .v (.int .i64 ((n + bs.flatten.length : Nat) : Int))]))) (goneAll ks hp ++ [Res.pin 0 47 (.c [.o 1, .v (.int .i64 ((n + bs.flatten.length : Nat) : Int))]), .abs (ChR 125 (bs.reverse ++ r))].map (Res.ren (shiftL hp.length 2)))
section
variable {w0 : World} {ow : Nat → Prop} {hp : List Res} {k0 k1 n : Nat} {r bs : List (List UInt8)} {f : FuncId} {args : List Sv}
theorem methSS (hn : n + bs.flatten.length ≤ 1000000000) (hn1 : k0 ≠ k1) (hbr : ∀ r ∈ hp, Res.bnd hp.length r) (hk : bview hp[k0]? = some (47, .c [.o k1, .v (.int .i64 (n : Int))])) (h1 : hp[k1]? = some (.abs (ChR 125 r)))
    (ha : ∀ γ γ', List.map (Sv.val γ) args = List.map (Sv.val γ') args) (hG : ∀ γ w, Sat w0 ow γ hp w → ∀ X : Nat → Prop, (∀ b, X b → ∃ (k : Nat) (r : Res), k ∈ [k0, k1] ∧ hp[k]? = some r ∧ r.has γ k b) → WrS f args bs X w) :
    CallOK Tryd.prog w0 ow f (.x (.a (.p k0 0)) :: args) hp (.t []) (wrSS hp k0 [k0, k1] r n bs) := by
  have := callOK_pin (P := Tryd.prog) (w0 := w0) (ow := ow) (f := f) (svs := .x (.a (.p k0 0)) :: args) (hp := hp) (sv1 := .t []) [k0, k1] 0 k0 (c := .c [.o k1, .v (.int .i64 (n : Int))]) (c1 := .c [.o 1, .v (.int .i64 ((n + bs.flatten.length : Nat) : Int))])
    (fun g => [.pin g 47 (.c [.o 1, .v (.int .i64 ((n + bs.flatten.length : Nat) : Int))]), .abs (ChR 125 (bs.reverse ++ r))]) (by simp) hk (fun _ => rfl) (fun _ => rfl) hbr (fun _ => by simp only [push_cast, Nat.reduceLT, Nat.reduceAdd]) (by simp only [push_cast, Nat.reduceAdd])
    (fun g => moveR_pin (by rw [goneAll_length]; rfl)) fun γ w hS => by
    obtain ⟨g1, g2, g3⟩ := hS.hand (k := k0) (ρ := [k0, k1]) (hp0 := [.pin (nmB γ k0) 47 (.c [.o 1, .v (.int .i64 (n : Int))]), .abs (ChR 125 r)]) hk
      ⟨by rw [List.getElem?_set_self (by
            obtain ⟨_, _, r0, hr0, _⟩ := hS.bv hk
            exact lt_of_get hr0)]; rfl, by rw [List.getElem?_set_ne hn1, h1]; rfl, trivial⟩ ⟨⟨hn1.symm, trivial⟩, trivial, trivial⟩ (by simp only [push_cast, Nat.reduceLT, Nat.reduceAdd])
    refine ⟨_, g2, ?_⟩
    have := hG γ w hS _ g2 r n (nmB γ k0) _ hn g1
    rw [List.map_cons, g3 (.x (.a (.p 0 0))) (by show (0 : Nat) < 2; omega), ha _ γ] at this
    exact this
  exact this
end
attribute [push_cast] wrSS
/-- What came in is not what one's own calls may turn. -/
theorem fw_raw {w0 w : World} {γ : List Nm} {hp : List Res} {A : Option Addr} {vs : List Value} {X : Nat → Prop} (hR : RdV w0 w0.heap.size A vs) (hS : Sat w0 No γ hp w) (hX : ∀ b, X b → ∃ (k : Nat) (r : Res), hp[k]? = some r ∧ r.has γ k b) : FW w X A vs :=
  ⟨(hR.below (keeps_below hS.keeps)).more (keeps_below hS.keeps).size, fun hp a ha hx => by
    obtain ⟨b, off, h1, h2, _⟩ := hR hp
    rw [ha] at h1
    cases h1
    obtain ⟨k, r, hr, hb⟩ := hX _ hx
    rcases (hS.mine k r _ hr hb).1 with h | h
    · exact h.elim
    · exact absurd h2 (by show ¬ _ < _; exact Nat.not_lt.2 h)⟩
/-- A message that lies there, and is not turned. -/
structure MgR.OkX (m : MgR) (X : Nat → Prop) (w : World) : Prop where
  ok : m.Ok w
  ids : FW w X m.ids.A (m.ids.l.map (Value.int .i64))
  ns : FW w X m.ns.A (m.ns.l.map vU64)
  ps : FW w X m.ps.A (pvs m.ps.l)
  xs : FW w X m.xs.A (m.xs.l.map vU32)
theorem MgR.Ok.x {m : MgR} {w0 w : World} {γ : List Nm} {hp : List Res} {X : Nat → Prop} (h : m.Ok w0) (hS : Sat w0 No γ hp w) (hX : ∀ b, X b → ∃ (k : Nat) (r : Res), hp[k]? = some r ∧ r.has γ k b) : m.OkX X w :=
  ⟨h.later hS, fw_raw h.ids.rd hS hX, fw_raw h.ns.rd hS hX, fw_raw h.ps.rd hS hX, fw_raw h.xs.rd hS hX⟩
/-- What the engine asks of peers that came in. -/
structure FPX (w0 : World) (ow : Nat → Prop) (A : Option Addr) (l : List Pr) : Prop where
  some_ : 0 < l.length → A.isSome = true
  c0 : ∀ i, i < l.length → cellOf w0 (pAdd A (i * 2)) = .int .i64 (ix l i).1
  c1 : ∀ i, i < l.length → cellOf w0 (pAdd A (i * 2 + 1)) = vU64 (ix l i).2
  ok0 : ∀ i, i < l.length → rawOk w0 ow (pAdd A (i * 2))
  ok1 : ∀ i, i < l.length → rawOk w0 ow (pAdd A (i * 2 + 1))
theorem FPX.of {w0 : World} {ow : Nat → Prop} {A : Option Addr} {l : List Pr} (hR : FW w0 ow A (pvs l)) : FPX w0 ow A l := by
  have h := hR.fv
  have g0 : ∀ i, i < l.length → (pvs l)[i * 2]? = some (.int .i64 (ix l i).1) := fun i hi => flat_get pv_len l i 0 hi (by omega)
  have g1 : ∀ i, i < l.length → (pvs l)[i * 2 + 1]? = some (vU64 (ix l i).2) := fun i hi => flat_get pv_len l i 1 hi (by omega)
  exact ⟨fun hp => h.some_ (by rw [pvs_len]; omega), fun i hi => (h.cell (g0 i hi)).1, fun i hi => (h.cell (g1 i hi)).1, fun i hi => (h.cell (g0 i hi)).2, fun i hi => (h.cell (g1 i hi)).2⟩
theorem mapI_next (l : List Pr) (i : Nat) (h : i < l.length) : (l.take (i + 1)).map (·.1) = (l.take i).map (·.1) ++ [(ix l i).1] := by rw [take_ix h, List.map_append]; rfl
theorem mapP_next (l : List Pr) (i : Nat) (h : i < l.length) : (l.take (i + 1)).map (·.2) = (l.take i).map (·.2) ++ [(ix l i).2] := by rw [take_ix h, List.map_append]; rfl
def idsP (l : List Pr) : List Int := l.map (·.1)
def pubP (l : List Pr) : List UInt64 := l.map (·.2)
theorem idsP_next (l : List Pr) (i : Nat) (h : i < l.length) : idsP (l.take (i + 1)) = idsP (l.take i) ++ [(ix l i).1] := mapI_next l i h
theorem pubP_next (l : List Pr) (i : Nat) (h : i < l.length) : pubP (l.take (i + 1)) = pubP (l.take i) ++ [(ix l i).2] := mapP_next l i h
theorem idsP_len (l : List Pr) : (idsP l).length = l.length := List.length_map ..
theorem pubP_len (l : List Pr) : (pubP l).length = l.length := List.length_map ..
theorem idsP_nil : idsP [] = [] := rfl
theorem pubP_nil : pubP [] = [] := rfl
theorem blk_ps (m : MgR) : blkF m.mg 112 = [lenV (numsI (idsP m.ps.l)) ++ numsB (numsI (idsP m.ps.l)), lenV (pubP m.ps.l) ++ numsB (pubP m.ps.l)] := rfl
theorem blk_pl (m : MgR) : blkF m.mg 97 = [putV (UInt64.ofInt m.pl)] := rfl
theorem blk_ot (m : MgR) : blkF m.mg 111 = [putV (UInt64.ofInt m.ot)] := rfl
theorem blk_cl (m : MgR) : blkF m.mg 99 = [putV (UInt64.ofInt m.cl)] := rfl
theorem blk_ge (m : MgR) : blkF m.mg 103 = [putV (UInt64.ofInt m.ge)] := rfl
theorem blk_nu (m : MgR) : blkF m.mg 110 = [putV m.nu] := rfl
theorem blk_sm (m : MgR) : blkF m.mg 115 = [m.sm] := rfl
theorem blk_ids (m : MgR) : blkF m.mg 105 = [lenV (numsI m.ids.l) ++ numsB (numsI m.ids.l)] := rfl
theorem blk_ns (m : MgR) : blkF m.mg 118 = [lenV m.ns.l ++ numsB m.ns.l] := rfl
theorem blk_xs (m : MgR) : blkF m.mg 120 = [lenV m.xs.l ++ rowB m.xs.l] := rfl
theorem blk_re (m : MgR) : blkF m.mg 114 = [putV (UInt64.ofInt m.re)] := rfl
theorem blkF_no (m : MgS) {c : UInt8} (k97 : ¬ c = 97) (k111 : ¬ c = 111) (k99 : ¬ c = 99) (k103 : ¬ c = 103) (k110 : ¬ c = 110) (k115 : ¬ c = 115) (k105 : ¬ c = 105) (k118 : ¬ c = 118) (k112 : ¬ c = 112) (k120 : ¬ c = 120) (k114 : ¬ c = 114) : blkF m c = [] := by
  unfold blkF
  simp only [if_neg k97, if_neg k111, if_neg k99, if_neg k103, if_neg k110, if_neg k115, if_neg k105, if_neg k118, if_neg k112, if_neg k120, if_neg k114]
attribute [local irreducible] Callable CallOK CallG CallM DrawG LoopG symR symM
attribute [local irreducible] mgA wiM chkS may chI okV mayErr putV numsB rowB lenV numsI intsU idsP pubP blkF
section
variable {X : Nat → Prop} {w : World}
set_option maxRecDepth 100000 in
set_option maxHeartbeats 4000000 in
theorem write16_any (m : MgR) (c : UInt8) (hf : m.OkX X w) (hy : blkF m.mg c ≠ []) : WrS 89 [.x (.g (mgA m)), .x (.a (.v (.int .i32 (chI c))))] (blkF m.mg c) X w := fun r n g γ hn hS => by
  obtain ⟨f0, f1, f2, f3, f4, f5, f38, f39, f40, f41, f42⟩ := mgA_get hf.ok.s
  have fl := mgA_len hf.ok.s
  have fs := mgA_s hf.ok.s
  have hfs := hf.ok.s
  have fb := fun n => mgA_bnd m n
  simp only [At.bnd] at fb
  generalize hbs : blkF m.mg c = bs at *
  refine calls_fun (n := 112) Tryd.func89 rfl Tryd.ntmps89 _ hS (by simp) (.t []) _ ?_
  have sub : ∀ {hp : List Res} {γ : List Nm} {w' : World} {Y : Nat → Prop} {A : Option Addr} {vs : List Value}, FW w X A vs → Sat w X γ hp w' → (∀ b, Y b → ∃ (k : Nat) (r : Res), k ∈ [0, 1] ∧ hp[k]? = some r ∧ r.has γ k b) → FW w' Y A vs := fun h hS hY => h.call hS fun b hb => by
    obtain ⟨k, r, _, h⟩ := hY b hb
    exact ⟨k, r, h⟩
  by_cases h : c = 97
  · have g97 := chI_yes (n := 97) h chI_97
    rw [h, blk_pl] at hbs
    subst hbs
    simp only [List.flatten_cons, List.flatten_nil, List.append_nil] at hn
    simp (config := { maxSteps := 1000000 }) only [g97, fb, fl, f1, ↓mgA_cont, undef, push_cast, ↓reduceIte, reduceCtorEq, Nat.reduceEqDiff, Nat.reduceLT, Nat.reduceAdd]
    (repeat (refine And.intro (by first | omega | decide) ?_))
    refine callG_rule rfl cb60 rfl (methK (k0 := 0) (k1 := 1) (args := [.x (.a (.v (vU64 (UInt64.ofInt m.pl))))]) (by simpa using hn) (by decide) (by simp (config := { maxSteps := 1000000 }) only [fb, push_cast, Nat.reduceLT, Nat.reduceAdd]) rfl rfl (fun _ _ => rfl) fun γ w hS X hX => num_any (UInt64.ofInt m.pl)) (dOk_lt rfl) (fun _ => by simp (config := { maxSteps := 1000000 }) only [fb, push_cast, Nat.reduceLT, Nat.reduceAdd]) ?_
    simp (config := { maxSteps := 1000000 }) only [↓mgA_cren, push_cast, ↓reduceIte, Nat.reduceEqDiff, Nat.reduceLT, Nat.reduceAdd]
    refine endsAs [0, 4] ?_
    simp (config := { maxSteps := 1000000 }) only [List.reverse_nil, List.nil_append, List.cons_append, push_cast, ↓reduceIte, reduceCtorEq, Nat.reduceLT, Nat.reduceAdd]
    done
  have g97 := chI_no (n := 97) h chI_97
  have k97 := h
  clear h
  by_cases h : c = 111
  · have g111 := chI_yes (n := 111) h chI_111
    rw [h, blk_ot] at hbs
    subst hbs
    simp only [List.flatten_cons, List.flatten_nil, List.append_nil] at hn
    simp (config := { maxSteps := 1000000 }) only [g97, g111, fb, fl, f2, ↓mgA_cont, undef, push_cast, ↓reduceIte, reduceCtorEq, Nat.reduceEqDiff, Nat.reduceLT, Nat.reduceAdd]
    (repeat (refine And.intro (by first | omega | decide) ?_))
    refine callG_rule rfl cb60 rfl (methK (k0 := 0) (k1 := 1) (args := [.x (.a (.v (vU64 (UInt64.ofInt m.ot))))]) (by simpa using hn) (by decide) (by simp (config := { maxSteps := 1000000 }) only [fb, push_cast, Nat.reduceLT, Nat.reduceAdd]) rfl rfl (fun _ _ => rfl) fun γ w hS X hX => num_any (UInt64.ofInt m.ot)) (dOk_lt rfl) (fun _ => by simp (config := { maxSteps := 1000000 }) only [fb, push_cast, Nat.reduceLT, Nat.reduceAdd]) ?_
    simp (config := { maxSteps := 1000000 }) only [↓mgA_cren, push_cast, ↓reduceIte, Nat.reduceEqDiff, Nat.reduceLT, Nat.reduceAdd]
    refine endsAs [0, 4] ?_
    simp (config := { maxSteps := 1000000 }) only [List.reverse_nil, List.nil_append, List.cons_append, push_cast, ↓reduceIte, reduceCtorEq, Nat.reduceLT, Nat.reduceAdd]
    done
  have g111 := chI_no (n := 111) h chI_111
  have k111 := h
  clear h
  by_cases h : c = 99
  · have g99 := chI_yes (n := 99) h chI_99
    rw [h, blk_cl] at hbs
    subst hbs
    simp only [List.flatten_cons, List.flatten_nil, List.append_nil] at hn
    simp (config := { maxSteps := 1000000 }) only [g97, g111, g99, fb, fl, f3, ↓mgA_cont, undef, push_cast, ↓reduceIte, reduceCtorEq, Nat.reduceEqDiff, Nat.reduceLT, Nat.reduceAdd]
    (repeat (refine And.intro (by first | omega | decide) ?_))
    refine callG_rule rfl cb60 rfl (methK (k0 := 0) (k1 := 1) (args := [.x (.a (.v (vU64 (UInt64.ofInt m.cl))))]) (by simpa using hn) (by decide) (by simp (config := { maxSteps := 1000000 }) only [fb, push_cast, Nat.reduceLT, Nat.reduceAdd]) rfl rfl (fun _ _ => rfl) fun γ w hS X hX => num_any (UInt64.ofInt m.cl)) (dOk_lt rfl) (fun _ => by simp (config := { maxSteps := 1000000 }) only [fb, push_cast, Nat.reduceLT, Nat.reduceAdd]) ?_
    simp (config := { maxSteps := 1000000 }) only [↓mgA_cren, push_cast, ↓reduceIte, Nat.reduceEqDiff, Nat.reduceLT, Nat.reduceAdd]
    refine endsAs [0, 4] ?_
    simp (config := { maxSteps := 1000000 }) only [List.reverse_nil, List.nil_append, List.cons_append, push_cast, ↓reduceIte, reduceCtorEq, Nat.reduceLT, Nat.reduceAdd]
    done
  have g99 := chI_no (n := 99) h chI_99
  have k99 := h
  clear h
  by_cases h : c = 103
  · have g103 := chI_yes (n := 103) h chI_103
    rw [h, blk_ge] at hbs
    subst hbs
    simp only [List.flatten_cons, List.flatten_nil, List.append_nil] at hn
    simp (config := { maxSteps := 1000000 }) only [g97, g111, g99, g103, fb, fl, f4, ↓mgA_cont, undef, push_cast, ↓reduceIte, reduceCtorEq, Nat.reduceEqDiff, Nat.reduceLT, Nat.reduceAdd]
    (repeat (refine And.intro (by first | omega | decide) ?_))
    refine callG_rule rfl cb60 rfl (methK (k0 := 0) (k1 := 1) (args := [.x (.a (.v (vU64 (UInt64.ofInt m.ge))))]) (by simpa using hn) (by decide) (by simp (config := { maxSteps := 1000000 }) only [fb, push_cast, Nat.reduceLT, Nat.reduceAdd]) rfl rfl (fun _ _ => rfl) fun γ w hS X hX => num_any (UInt64.ofInt m.ge)) (dOk_lt rfl) (fun _ => by simp (config := { maxSteps := 1000000 }) only [fb, push_cast, Nat.reduceLT, Nat.reduceAdd]) ?_
    simp (config := { maxSteps := 1000000 }) only [↓mgA_cren, push_cast, ↓reduceIte, Nat.reduceEqDiff, Nat.reduceLT, Nat.reduceAdd]
    refine endsAs [0, 4] ?_
    simp (config := { maxSteps := 1000000 }) only [List.reverse_nil, List.nil_append, List.cons_append, push_cast, ↓reduceIte, reduceCtorEq, Nat.reduceLT, Nat.reduceAdd]
    done
  have g103 := chI_no (n := 103) h chI_103
  have k103 := h
  clear h
  by_cases h : c = 110
  · have g110 := chI_yes (n := 110) h chI_110
    rw [h, blk_nu] at hbs
    subst hbs
    simp only [List.flatten_cons, List.flatten_nil, List.append_nil] at hn
    simp (config := { maxSteps := 1000000 }) only [g97, g111, g99, g103, g110, fb, fl, f5, ↓mgA_cont, undef, push_cast, ↓reduceIte, reduceCtorEq, Nat.reduceEqDiff, Nat.reduceLT, Nat.reduceAdd]
    (repeat (refine And.intro (by first | omega | decide) ?_))
    refine callG_rule rfl cb60 rfl (methK (k0 := 0) (k1 := 1) (args := [.x (.a (.v (vU64 m.nu)))]) (by simpa using hn) (by decide) (by simp (config := { maxSteps := 1000000 }) only [fb, push_cast, Nat.reduceLT, Nat.reduceAdd]) rfl rfl (fun _ _ => rfl) fun γ w hS X hX => num_any m.nu) (dOk_lt rfl) (fun _ => by simp (config := { maxSteps := 1000000 }) only [fb, push_cast, Nat.reduceLT, Nat.reduceAdd]) ?_
    simp (config := { maxSteps := 1000000 }) only [↓mgA_cren, push_cast, ↓reduceIte, Nat.reduceEqDiff, Nat.reduceLT, Nat.reduceAdd]
    refine endsAs [0, 4] ?_
    simp (config := { maxSteps := 1000000 }) only [List.reverse_nil, List.nil_append, List.cons_append, push_cast, ↓reduceIte, reduceCtorEq, Nat.reduceLT, Nat.reduceAdd]
    done
  have g110 := chI_no (n := 110) h chI_110
  have k110 := h
  clear h
  by_cases h : c = 115
  · have g115 := chI_yes (n := 115) h chI_115
    rw [h, blk_sm] at hbs
    obtain ⟨q, hqs⟩ : ∃ q, q = m.sm := ⟨_, rfl⟩
    have hsum : ∀ (X : Nat → Prop) (w : World), WrG 63 [.x (.a8 m.sm)] q X w := fun X w => hqs ▸ sum_any m.sm hfs
    rw [← hqs] at hbs
    subst hbs
    simp only [List.flatten_cons, List.flatten_nil, List.append_nil] at hn
    simp (config := { maxSteps := 1000000 }) only [g97, g111, g99, g103, g110, g115, fb, fl, fs, ↓mgA_cont, push_cast, ↓reduceIte, reduceCtorEq, Nat.reduceEqDiff, Nat.reduceLT, Nat.reduceLeDiff, Nat.reduceAdd]
    (repeat (refine And.intro (by first | omega | decide) ?_))
    refine callG_rule rfl cb63 rfl (methK (k0 := 0) (k1 := 1) (args := [.x (.a8 m.sm)]) (by simpa using hn) (by decide) (by simp (config := { maxSteps := 1000000 }) only [fb, push_cast, Nat.reduceLT, Nat.reduceAdd]) rfl rfl (fun _ _ => rfl) fun γ w hS X hX => hsum X w) (dOk_lt rfl) (fun _ => by simp (config := { maxSteps := 1000000 }) only [fb, push_cast, Nat.reduceLT, Nat.reduceAdd]) ?_
    simp (config := { maxSteps := 1000000 }) only [↓mgA_cren, push_cast, ↓reduceIte, Nat.reduceEqDiff, Nat.reduceLT, Nat.reduceAdd]
    refine endsAs [0, 4] ?_
    simp (config := { maxSteps := 1000000 }) only [List.reverse_nil, List.nil_append, List.cons_append, push_cast, ↓reduceIte, reduceCtorEq, Nat.reduceLT, Nat.reduceAdd]
    done
  have g115 := chI_no (n := 115) h chI_115
  have k115 := h
  clear h
  by_cases h : c = 105
  · have g105 := chI_yes (n := 105) h chI_105
    rw [h, blk_ids] at hbs
    subst hbs
    simp only [List.flatten_cons, List.flatten_nil, List.append_nil, List.length_append] at hn
    have hnl := numsI_len m.ids.l
    have hfew := hf.ok.ids.few
    simp (config := { maxSteps := 1000000 }) only [g97, g111, g99, g103, g110, g115, g105, fb, fl, f38, ↓mgA_cont, SlV.val, undef, push_cast, ↓reduceIte, reduceCtorEq, Nat.reduceEqDiff, Nat.reduceLT, Nat.reduceAdd]
    (repeat (refine And.intro (by first | omega | decide) ?_))
    refine callG_x rfl cb127 rfl (nums16K (l := m.ids.l) (by omega) (shows_fv hf.ids _ _ (by simp) hf.ok.ids.len) (by simp (config := { maxSteps := 1000000 }) only [fb, push_cast, Nat.reduceLT, Nat.reduceAdd])) (dOk_lt rfl) (by simp (config := { maxSteps := 1000000 }) only [fb, push_cast, Nat.reduceLT, Nat.reduceAdd]) ?_
    simp (config := { maxSteps := 1000000 }) only [push_cast, ↓reduceIte, Nat.reduceAdd]
    (repeat (refine And.intro (by first | omega | decide) ?_))
    refine callG_rule rfl cb61 rfl (methKS (k0 := 0) (k1 := 1) (sv := .x (.a (.o 3))) (vs := (numsI m.ids.l).map vU64) (b := lenV (numsI m.ids.l) ++ numsB (numsI m.ids.l)) (by simpa using hn) (by decide) (by simp (config := { maxSteps := 1000000 }) only [fb, push_cast, Nat.reduceLT, Nat.reduceAdd]) rfl rfl (far_own _ rfl (fun _ => rfl) (by decide)) fun A c X w hc hw => by
      rw [List.length_map]
      exact nums_any _ A c (by omega) hw) (dOk_lt rfl) (fun _ => by simp (config := { maxSteps := 1000000 }) only [fb, push_cast, Nat.reduceLT, Nat.reduceAdd]) ?_
    simp (config := { maxSteps := 1000000 }) only [↓mgA_cren, push_cast, ↓reduceIte, Nat.reduceEqDiff, Nat.reduceLT, Nat.reduceAdd]
    refine endsAs [0, 5] ?_
    simp (config := { maxSteps := 1000000 }) only [List.reverse_nil, List.nil_append, List.cons_append, push_cast, ↓reduceIte, reduceCtorEq, Nat.reduceLT, Nat.reduceAdd]
    done
  have g105 := chI_no (n := 105) h chI_105
  have k105 := h
  clear h
  by_cases h : c = 118
  · have g118 := chI_yes (n := 118) h chI_118
    rw [h, blk_ns] at hbs
    subst hbs
    simp only [List.flatten_cons, List.flatten_nil, List.append_nil, List.length_append] at hn
    simp (config := { maxSteps := 1000000 }) only [g97, g111, g99, g103, g110, g115, g105, g118, fb, fl, f39, ↓mgA_cont, SlV.val, undef, push_cast, ↓reduceIte, reduceCtorEq, Nat.reduceEqDiff, Nat.reduceLT, Nat.reduceAdd]
    (repeat (refine And.intro (by first | omega | decide) ?_))
    refine callG_rule rfl cb61 rfl (methK (k0 := 0) (k1 := 1) (args := [.x (.a (.v (.slice m.ns.A m.ns.l.length m.ns.c)))]) (by simpa using hn) (by decide) (by simp (config := { maxSteps := 1000000 }) only [fb, push_cast, Nat.reduceLT, Nat.reduceAdd]) rfl rfl (fun _ _ => rfl) fun γ w hS X hX => nums_any m.ns.l m.ns.A m.ns.c (by have := hf.ok.ns.few; omega) (sub hf.ns hS hX)) (dOk_lt rfl) (fun _ => by simp (config := { maxSteps := 1000000 }) only [fb, push_cast, Nat.reduceLT, Nat.reduceAdd]) ?_
    simp (config := { maxSteps := 1000000 }) only [↓mgA_cren, push_cast, ↓reduceIte, Nat.reduceEqDiff, Nat.reduceLT, Nat.reduceAdd]
    refine endsAs [0, 4] ?_
    simp (config := { maxSteps := 1000000 }) only [List.reverse_nil, List.nil_append, List.cons_append, push_cast, ↓reduceIte, reduceCtorEq, Nat.reduceLT, Nat.reduceAdd]
    done
  have g118 := chI_no (n := 118) h chI_118
  have k118 := h
  clear h
  by_cases h : c = 112
  · have g112 := chI_yes (n := 112) h chI_112
    rw [h, blk_ps] at hbs
    subst hbs
    simp only [List.flatten_cons, List.flatten_nil, List.append_nil, List.length_append] at hn
    have hfew := hf.ok.ps.few
    have F := FPX.of hf.ps
    have hl0 : (0 : Int) ≤ m.ps.l.length := by omega
    have hl8 : 8 * (m.ps.l.length : Int) ≤ 281474976710656 := by omega
    have hl9 : (m.ps.l.length : Int) ≤ 9223372036854775807 := by omega
    simp (config := { maxSteps := 1000000 }) only [g97, g111, g99, g103, g110, g115, g105, g118, g112, fb, fl, f40, ↓mgA_cont, SlV.val, hl0, hl8, hl9, undef, push_cast, ↓Int.cast_ofNat_Int, Int.cast_ofNat_Int, ↓reduceIte, reduceCtorEq, Nat.reduceEqDiff, Nat.reduceLT, Nat.reduceAdd, Int.reduceLE]
    (repeat (refine And.intro (by first | omega | decide) ?_))
    have hil := idsP_len m.ps.l
    have hpl := pubP_len m.ps.l
    have hnl := numsI_len (idsP m.ps.l)
    refine loop_rule (ι := Nat) (fun i => ⟨[(0, .x (.a (.p 0 0))), (6, .x (.a (.o 2))), (7, .x (.a (.o 3))), (75, .x (.a (.v (.slice m.ps.A m.ps.l.length m.ps.c)))), (76, .x (.a (.v (.int .i64 m.ps.l.length)))), (77, .x (.a (.v (.int .i64 i))))], [.pin g 47 (.c [.o 1, .v (.int .i64 (n : Int))]), .abs (ChR 125 r), .own 3 (.i64 (idsP (m.ps.l.take i))), .own 27 (.u64 (pubP (m.ps.l.take i)))]⟩) (fun i => i ≤ m.ps.l.length) (fun i => m.ps.l.length - i) 0 [0, 1, 3, 4] (Nat.zero_le _) ?_ ?_
    · simp (config := { maxSteps := 1000000 }) only [idsP_nil, pubP_nil, List.replicate_zero, push_cast, ↓Int.cast_ofNat_Int, Int.cast_ofNat_Int, ↓reduceIte, reduceCtorEq, Nat.reduceEqDiff, Nat.reduceLT, Nat.reduceAdd]
    intro i hi
    by_cases hlt : (i : Int) < m.ps.l.length
    · have hip : i < m.ps.l.length := by omega
      have hs := idsP_next m.ps.l i hip
      have hs2 := pubP_next m.ps.l i hip
      have hk := idsP_len (m.ps.l.take i)
      have hk2 := pubP_len (m.ps.l.take i)
      rw [List.length_take, Nat.min_eq_left hi] at hk hk2
      have c0 := F.c0 i hip
      have c1 := F.c1 i hip
      have o0 := F.ok0 i hip
      have o1 := F.ok1 i hip
      have hA := F.some_ (by omega)
      have b1 : ((idsP (m.ps.l.take i)).length + 1) * 8 ≤ 140737488355328 := by omega
      have b2 : (idsP (m.ps.l.take i)).length + 1 ≤ 2 ^ 63 - 1 := by omega
      have b3 : ((pubP (m.ps.l.take i)).length + 1) * 8 ≤ 140737488355328 := by omega
      have b4 : (pubP (m.ps.l.take i)).length + 1 ≤ 2 ^ 63 - 1 := by omega
      have nx : (i : Int) + 1 ≤ 9223372036854775807 := by omega
      have nx0 : -9223372036854775808 ≤ (i : Int) + 1 := by omega
      have i0 : (0 : Int) ≤ i := by omega
      simp (config := { maxSteps := 1000000 }) only [hlt, c0, c1, o0, o1, hA, b1, b2, b3, b4, nx, nx0, i0, pAdd_add, pAdd_zero, pAdd_isSome, undef, push_cast, ↓Int.toNat_natCast, ↓reduceIte, reduceCtorEq, Nat.reduceEqDiff, Nat.reduceLT, Nat.reduceLeDiff, Nat.reduceAdd, Int.reduceNeg]
      (repeat (refine And.intro (by first | omega | decide) ?_))
      refine loopK_normal (i + 1) [0, 1, 6, 8] (by omega) (by omega) ?_
      simp (config := { maxSteps := 1000000 }) only [hs, hs2, push_cast, ↓reduceIte, reduceCtorEq, Nat.reduceEqDiff, Nat.reduceLT, Nat.reduceAdd]
      done
    · obtain rfl : i = m.ps.l.length := by omega
      have ht := List.take_length (l := m.ps.l)
      simp (config := { maxSteps := 1000000 }) only [hlt, ht, push_cast, ↓reduceIte, reduceCtorEq, Nat.reduceEqDiff, Nat.reduceLT, Nat.reduceAdd]
      (repeat (refine And.intro (by first | omega | decide) ?_))
      refine callG_x rfl cb127 rfl (nums16K (l := idsP m.ps.l) (by omega) (shows_own rfl (fun _ => rfl)) (by simp (config := { maxSteps := 1000000 }) only [push_cast, Nat.reduceLT, Nat.reduceAdd])) (dOk_lt rfl) (by simp (config := { maxSteps := 1000000 }) only [push_cast, Nat.reduceLT, Nat.reduceAdd]) ?_
      simp (config := { maxSteps := 1000000 }) only [push_cast, ↓reduceIte, Nat.reduceAdd]
      (repeat (refine And.intro (by first | omega | decide) ?_))
      refine callG_rule rfl cb61 rfl (methKS (k0 := 0) (k1 := 1) (sv := .x (.a (.o 4))) (vs := (numsI (idsP m.ps.l)).map vU64) (b := lenV (numsI (idsP m.ps.l)) ++ numsB (numsI (idsP m.ps.l))) (by simp only [List.length_append] at hn ⊢; omega) (by decide) (by simp (config := { maxSteps := 1000000 }) only [push_cast, Nat.reduceLT, Nat.reduceAdd]) rfl rfl (far_own _ rfl (fun _ => rfl) (by decide)) fun A c X w hc hw => by
        rw [List.length_map]
        exact nums_any _ A c (by omega) hw) (dOk_lt rfl) (fun _ => by simp (config := { maxSteps := 1000000 }) only [push_cast, Nat.reduceLT, Nat.reduceAdd]) ?_
      simp (config := { maxSteps := 1000000 }) only [push_cast, ↓reduceIte, reduceCtorEq, Nat.reduceEqDiff, Nat.reduceLT, Nat.reduceAdd]
      (repeat (refine And.intro (by first | omega | decide) ?_))
      refine callG_rule rfl cb61 rfl (methKS (k0 := 0) (k1 := 6) (n := n + (lenV (numsI (idsP m.ps.l)) ++ numsB (numsI (idsP m.ps.l))).length) (sv := .x (.a (.o 3))) (vs := (pubP m.ps.l).map vU64) (b := lenV (pubP m.ps.l) ++ numsB (pubP m.ps.l)) (by simp only [List.length_append] at hn ⊢; omega) (by decide) (by simp (config := { maxSteps := 1000000 }) only [push_cast, Nat.reduceLT, Nat.reduceAdd]) (by simp only [List.length_append, push_cast]) rfl (far_own _ rfl (fun _ => rfl) (by decide)) fun A c X w hc hw => by
        rw [List.length_map]
        exact nums_any _ A c (by omega) hw) (dOk_lt rfl) (fun _ => by simp (config := { maxSteps := 1000000 }) only [push_cast, Nat.reduceLT, Nat.reduceAdd]) ?_
      simp (config := { maxSteps := 1000000 }) only [push_cast, ↓reduceIte, Nat.reduceEqDiff, Nat.reduceLT, Nat.reduceAdd]
      refine endsAs [0, 8] ?_
      simp (config := { maxSteps := 1000000 }) only [List.reverse_nil, List.nil_append, List.cons_append, Int.add_assoc, push_cast, ↓reduceIte, reduceCtorEq, Nat.reduceLT, Nat.reduceAdd]
      done
  have g112 := chI_no (n := 112) h chI_112
  have k112 := h
  clear h
  by_cases h : c = 120
  · have g120 := chI_yes (n := 120) h chI_120
    rw [h, blk_xs] at hbs
    subst hbs
    simp only [List.flatten_cons, List.flatten_nil, List.append_nil, List.length_append] at hn
    simp (config := { maxSteps := 1000000 }) only [g97, g111, g99, g103, g110, g115, g105, g118, g112, g120, fb, fl, f41, ↓mgA_cont, SlV.val, undef, push_cast, ↓reduceIte, reduceCtorEq, Nat.reduceEqDiff, Nat.reduceLT, Nat.reduceAdd]
    (repeat (refine And.intro (by first | omega | decide) ?_))
    refine callG_rule rfl cb64 rfl (methK (k0 := 0) (k1 := 1) (args := [.x (.a (.v (.slice m.xs.A m.xs.l.length m.xs.c)))]) (by simpa using hn) (by decide) (by simp (config := { maxSteps := 1000000 }) only [fb, push_cast, Nat.reduceLT, Nat.reduceAdd]) rfl rfl (fun _ _ => rfl) fun γ w hS X hX => row_any m.xs.l m.xs.A m.xs.c (by have := hf.ok.xs.few; omega) (sub hf.xs hS hX)) (dOk_lt rfl) (fun _ => by simp (config := { maxSteps := 1000000 }) only [fb, push_cast, Nat.reduceLT, Nat.reduceAdd]) ?_
    simp (config := { maxSteps := 1000000 }) only [↓mgA_cren, push_cast, ↓reduceIte, Nat.reduceEqDiff, Nat.reduceLT, Nat.reduceAdd]
    refine endsAs [0, 4] ?_
    simp (config := { maxSteps := 1000000 }) only [List.reverse_nil, List.nil_append, List.cons_append, push_cast, ↓reduceIte, reduceCtorEq, Nat.reduceLT, Nat.reduceAdd]
    done
  have g120 := chI_no (n := 120) h chI_120
  have k120 := h
  clear h
  by_cases h : c = 114
  · have g114 := chI_yes (n := 114) h chI_114
    rw [h, blk_re] at hbs
    subst hbs
    simp only [List.flatten_cons, List.flatten_nil, List.append_nil] at hn
    simp (config := { maxSteps := 1000000 }) only [g97, g111, g99, g103, g110, g115, g105, g118, g112, g120, g114, fb, fl, f42, ↓mgA_cont, undef, push_cast, ↓reduceIte, reduceCtorEq, Nat.reduceEqDiff, Nat.reduceLT, Nat.reduceAdd]
    (repeat (refine And.intro (by first | omega | decide) ?_))
    refine callG_rule rfl cb60 rfl (methK (k0 := 0) (k1 := 1) (args := [.x (.a (.v (vU64 (UInt64.ofInt m.re))))]) (by simpa using hn) (by decide) (by simp (config := { maxSteps := 1000000 }) only [fb, push_cast, Nat.reduceLT, Nat.reduceAdd]) rfl rfl (fun _ _ => rfl) fun γ w hS X hX => num_any (UInt64.ofInt m.re)) (dOk_lt rfl) (fun _ => by simp (config := { maxSteps := 1000000 }) only [fb, push_cast, Nat.reduceLT, Nat.reduceAdd]) ?_
    simp (config := { maxSteps := 1000000 }) only [↓mgA_cren, push_cast, ↓reduceIte, Nat.reduceEqDiff, Nat.reduceLT, Nat.reduceAdd]
    refine endsAs [0, 4] ?_
    simp (config := { maxSteps := 1000000 }) only [List.reverse_nil, List.nil_append, List.cons_append, push_cast, ↓reduceIte, reduceCtorEq, Nat.reduceLT, Nat.reduceAdd]
    done
  have g114 := chI_no (n := 114) h chI_114
  have k114 := h
  clear h
  exact absurd (hbs ▸ blkF_no m.mg k97 k111 k99 k103 k110 k115 k105 k118 k112 k120 k114) hy
end
end Go.Proofs.YtiaeollemmkclaaDoor
