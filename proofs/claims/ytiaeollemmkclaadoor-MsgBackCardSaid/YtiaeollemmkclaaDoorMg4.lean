import Derived.Test.YtiaeollemmkclaaDoorMg2
/- Layer 16: msg.Same, msg.Check. -/
namespace Go.Proofs.YtiaeollemmkclaaDoor
open Go.RowKit
set_option linter.unusedSimpArgs false
set_option linter.unusedVariables false
attribute [local irreducible] Callable CallOK CallG CallM DrawG LoopG symR symM
attribute [local irreducible] mgA wiM chkS may chI okV mayErr
def sameM (m n : MgS) : Bool := decide (m = n)
theorem sameM_iff {m n : MgS} : sameM m n = true ↔ m = n := decide_eq_true_iff
section
set_option maxRecDepth 100000 in
set_option maxHeartbeats 4000000 in
theorem same_any (m n : MgR) (w : World) (hm : m.Ok w) (hn : n.Ok w) : Calls Tryd.prog 47 (List.map (Sv.val []) [.x (.g (mgA m)), .x (.g (mgA n))]).toArray w fun e w' => e = .returned (.bool (sameM m.mg n.mg)) ∧ Below w.heap.size w w' := by
  obtain ⟨q, hq⟩ : ∃ q, q = sameM m.mg n.mg := ⟨_, rfl⟩
  rw [← hq]
  refine calls_v (n := 87) Tryd.func47 rfl Tryd.ntmps47 [.x (.g (mgA m)), .x (.g (mgA n))] (by simp) (.x (.a (.v (.bool q)))) (fun _ => rfl) ?_
  obtain ⟨f0, f1, f2, f3, f4, f5, f38, f39, f40, f41, f42⟩ := mgA_get hm.s
  obtain ⟨g0, g1, g2, g3, g4, g5, g38, g39, g40, g41, g42⟩ := mgA_get hn.s
  have fl := mgA_len hm.s
  have gl := mgA_len hn.s
  have fs := mgA_s hm.s
  have gs := mgA_s hn.s
  have hfs := hm.s
  have hgs := hn.s
  have fb := fun n => mgA_bnd m n
  have gb := fun k => mgA_bnd n k
  simp only [At.bnd] at fb gb
  have hU : ∀ x y : UInt64, (n64 x = n64 y) = (x = y) := fun x y => propext ⟨fun h => UInt64.toNat_inj.1 (Int.ofNat_inj.1 h), fun h => by rw [h]⟩
  by_cases h0 : m.k = n.k
  case neg =>
    have hq : q = false := hq.trans (decide_eq_false fun e => h0 (congrArg MgS.k e))
    simp (config := { maxSteps := 1000000 }) only [fb, fl, f0, ↓mgA_cont, gb, gl, g0, h0, hq, undef, List.append_eq, List.cons_append, List.nil_append, push_cast, ↓reduceIte, reduceCtorEq, Nat.reduceEqDiff, Nat.reduceLT, Nat.reduceAdd]
    done
  by_cases h1 : m.pl = n.pl
  case neg =>
    have hq : q = false := hq.trans (decide_eq_false fun e => h1 (congrArg MgS.pl e))
    simp (config := { maxSteps := 1000000 }) only [fb, fl, f0, f1, ↓mgA_cont, gb, gl, g0, g1, h0, h1, hq, undef, List.append_eq, List.cons_append, List.nil_append, push_cast, ↓reduceIte, reduceCtorEq, Nat.reduceEqDiff, Nat.reduceLT, Nat.reduceAdd]
    done
  by_cases h2 : m.ot = n.ot
  case neg =>
    have hq : q = false := hq.trans (decide_eq_false fun e => h2 (congrArg MgS.ot e))
    simp (config := { maxSteps := 1000000 }) only [fb, fl, f0, f1, f2, ↓mgA_cont, gb, gl, g0, g1, g2, h0, h1, h2, hq, undef, List.append_eq, List.cons_append, List.nil_append, push_cast, ↓reduceIte, reduceCtorEq, Nat.reduceEqDiff, Nat.reduceLT, Nat.reduceAdd]
    done
  by_cases h3 : m.cl = n.cl
  case neg =>
    have hq : q = false := hq.trans (decide_eq_false fun e => h3 (congrArg MgS.cl e))
    simp (config := { maxSteps := 1000000 }) only [fb, fl, f0, f1, f2, f3, ↓mgA_cont, gb, gl, g0, g1, g2, g3, h0, h1, h2, h3, hq, undef, List.append_eq, List.cons_append, List.nil_append, push_cast, ↓reduceIte, reduceCtorEq, Nat.reduceEqDiff, Nat.reduceLT, Nat.reduceAdd]
    done
  by_cases h4 : m.ge = n.ge
  case neg =>
    have hq : q = false := hq.trans (decide_eq_false fun e => h4 (congrArg MgS.ge e))
    simp (config := { maxSteps := 1000000 }) only [fb, fl, f0, f1, f2, f3, f4, ↓mgA_cont, gb, gl, g0, g1, g2, g3, g4, h0, h1, h2, h3, h4, hq, undef, List.append_eq, List.cons_append, List.nil_append, push_cast, ↓reduceIte, reduceCtorEq, Nat.reduceEqDiff, Nat.reduceLT, Nat.reduceAdd]
    done
  by_cases h5 : m.nu = n.nu
  case neg =>
    have hq : q = false := hq.trans (decide_eq_false fun e => h5 (congrArg MgS.nu e))
    simp (config := { maxSteps := 1000000 }) only [fb, fl, f0, f1, f2, f3, f4, f5, ↓mgA_cont, gb, gl, g0, g1, g2, g3, g4, g5, h0, h1, h2, h3, h4, h5, hq, undef, List.append_eq, List.cons_append, List.nil_append, push_cast, ↓reduceIte, reduceCtorEq, Nat.reduceEqDiff, Nat.reduceLT, Nat.reduceAdd]
    done
  by_cases h6 : m.sm = n.sm
  case neg =>
    have hq : q = false := hq.trans (decide_eq_false fun e => h6 (congrArg MgS.sm e))
    simp (config := { maxSteps := 1000000 }) only [fb, fl, f0, f1, f2, f3, f4, f5, fs, hfs, ↓mgA_cont, gb, gl, g0, g1, g2, g3, g4, g5, gs, hgs, h0, h1, h2, h3, h4, h5, h6, hq, undef, List.append_eq, List.cons_append, List.nil_append, push_cast, ↓reduceIte, reduceCtorEq, Nat.reduceEqDiff, Nat.reduceLT, Nat.reduceLeDiff, Nat.reduceAdd]
    done
  simp (config := { maxSteps := 1000000 }) only [fb, fl, f0, f1, f2, f3, f4, f5, f38, fs, ↓mgA_cont, gb, gl, g0, g1, g2, g3, g4, g5, g38, gs, hgs, SlV.val, h0, h1, h2, h3, h4, h5, h6, undef, List.append_eq, List.cons_append, List.nil_append, push_cast, ↓reduceIte, reduceCtorEq, Nat.reduceEqDiff, Nat.reduceLT, Nat.reduceLeDiff, Nat.reduceAdd]
  (repeat (refine And.intro (by first | omega | decide) ?_))
  refine callG_v rfl cb96 rfl (eqIK (a := m.ids.l) (b := n.ids.l) (by have := hm.ids.few; omega) (shows_raw hm.ids.rd _ _ (by simp) hm.ids.len) (shows_raw hn.ids.rd _ _ (by simp) hn.ids.len)) (dOk_lt rfl) ?_
  by_cases h7 : m.ids.l = n.ids.l
  case neg =>
    have hq : q = false := hq.trans (decide_eq_false fun e => h7 (congrArg MgS.ids e))
    simp (config := { maxSteps := 1000000 }) only [h7, hq, undef, push_cast, ↓reduceIte, Nat.reduceEqDiff, Nat.reduceLT, Nat.reduceAdd]
    done
  simp (config := { maxSteps := 1000000 }) only [fl, f39, gl, g39, SlV.val, h7, undef, push_cast, ↓reduceIte, reduceCtorEq, Nat.reduceEqDiff, Nat.reduceLT, Nat.reduceAdd]
  (repeat (refine And.intro (by first | omega | decide) ?_))
  refine callG_v rfl cb97 rfl (eqUK (a := m.ns.l) (b := n.ns.l) (by have := hm.ns.few; omega) (shows_raw hm.ns.rd _ _ (by simp) hm.ns.len) (shows_raw hn.ns.rd _ _ (by simp) hn.ns.len)) (dOk_lt rfl) ?_
  by_cases h8 : m.ns.l = n.ns.l
  case neg =>
    have hq : q = false := hq.trans (decide_eq_false fun e => h8 (congrArg MgS.ns e))
    simp (config := { maxSteps := 1000000 }) only [h8, hq, undef, push_cast, ↓reduceIte, Nat.reduceEqDiff, Nat.reduceLT, Nat.reduceAdd]
    done
  simp (config := { maxSteps := 1000000 }) only [fl, f40, gl, g40, SlV.val, h8, undef, push_cast, ↓reduceIte, reduceCtorEq, Nat.reduceEqDiff, Nat.reduceLT, Nat.reduceAdd]
  (repeat (refine And.intro (by first | omega | decide) ?_))
  refine callG_v rfl cb98 rfl (eqPK (a := m.ps.l) (b := n.ps.l) (by have := hm.ps.few; omega) (showsR_raw hm.ps.rd hm.ps.len) (showsR_raw hn.ps.rd hn.ps.len)) (dOk_lt rfl) ?_
  by_cases h9 : m.ps.l = n.ps.l
  case neg =>
    have hq : q = false := hq.trans (decide_eq_false fun e => h9 (congrArg MgS.ps e))
    simp (config := { maxSteps := 1000000 }) only [h9, hq, undef, push_cast, ↓reduceIte, Nat.reduceEqDiff, Nat.reduceLT, Nat.reduceAdd]
    done
  simp (config := { maxSteps := 1000000 }) only [fl, f41, gl, g41, SlV.val, h9, undef, push_cast, ↓reduceIte, reduceCtorEq, Nat.reduceEqDiff, Nat.reduceLT, Nat.reduceAdd]
  (repeat (refine And.intro (by first | omega | decide) ?_))
  refine callG_v rfl cb99 rfl (equal32OK (a := m.xs.l) (b := n.xs.l) (by have := hm.xs.few; omega) (shows_raw hm.xs.rd _ _ (by simp) hm.xs.len) (shows_raw hn.xs.rd _ _ (by simp) hn.xs.len)) (dOk_lt rfl) ?_
  by_cases h10 : m.xs.l = n.xs.l
  case neg =>
    have hq : q = false := hq.trans (decide_eq_false fun e => h10 (congrArg MgS.xs e))
    simp (config := { maxSteps := 1000000 }) only [h10, hq, undef, push_cast, ↓reduceIte, Nat.reduceEqDiff, Nat.reduceLT, Nat.reduceAdd]
    done
  by_cases h11 : m.re = n.re
  case neg =>
    have hq : q = false := hq.trans (decide_eq_false fun e => h11 (congrArg MgS.re e))
    simp (config := { maxSteps := 1000000 }) only [fl, f42, gl, g42, h10, h11, hq, undef, push_cast, ↓reduceIte, reduceCtorEq, Nat.reduceEqDiff, Nat.reduceLT, Nat.reduceAdd]
    done
  have hq : q = true := hq.trans (decide_eq_true (by
    unfold MgR.mg
    rw [h0, h1, h2, h3, h4, h5, h6, h7, h8, h9, h10, h11]))
  simp (config := { maxSteps := 1000000 }) only [fl, f42, gl, g42, h10, h11, hq, undef, push_cast, ↓reduceIte, reduceCtorEq, Nat.reduceEqDiff, Nat.reduceLT, Nat.reduceAdd]
  done
theorem sameK16 {w0 : World} {hp : List Res} {s1 s2 : Sv} {m n : MgS} (h1 : ShowsMg w0 hp s1 m) (h2 : ShowsMg w0 hp s2 n) : CallOK Tryd.prog w0 No 47 [s1, s2] hp (.x (.a (.v (.bool (sameM m n))))) hp := callOK_v fun γ w hS => by
  obtain ⟨a, e1, a1, rfl⟩ := h1 γ w hS
  obtain ⟨b, e2, b1, rfl⟩ := h2 γ w hS
  have := same_any a b w a1 b1
  have e : List.map (Sv.val γ) [s1, s2] = List.map (Sv.val []) [.x (.g (mgA a)), .x (.g (mgA b))] := by
    simp only [List.map_cons, List.map_nil, e1, e2, mgA_sv]
  rw [e]
  exact this
end
end Go.Proofs.YtiaeollemmkclaaDoor
/- Layer 16: msg.Check. -/
namespace Go.Proofs.YtiaeollemmkclaaDoor
open Go.RowKit
set_option linter.unusedSimpArgs false
set_option linter.unusedVariables false
/-! ### Forms are letters -/
def formsAll : List (List UInt8) := [[99, 103, 110, 115], [103, 112], [99, 103, 118], [103, 105, 118], [99, 103, 120], [97, 103, 105, 120, 112, 118], [97, 103], [97, 103, 105], [97, 99, 103, 118], [114], [105, 120], [97, 111, 103], [103, 105], [99, 103], []]
theorem form_mem (k : UInt8) : formL k ∈ formsAll := by
  unfold formL kindM
  by_cases h : k = 1
  · simp only [if_pos h]; decide
  simp only [if_neg h]; clear h
  by_cases h : k = 2
  · simp only [if_pos h]; decide
  simp only [if_neg h]; clear h
  by_cases h : k = 3
  · simp only [if_pos h]; decide
  simp only [if_neg h]; clear h
  by_cases h : k = 4
  · simp only [if_pos h]; decide
  simp only [if_neg h]; clear h
  by_cases h : k = 5
  · simp only [if_pos h]; decide
  simp only [if_neg h]; clear h
  by_cases h : k = 6
  · simp only [if_pos h]; decide
  simp only [if_neg h]; clear h
  by_cases h : k = 7
  · simp only [if_pos h]; decide
  simp only [if_neg h]; clear h
  by_cases h : k = 8
  · simp only [if_pos h]; decide
  simp only [if_neg h]; clear h
  by_cases h : k = 9
  · simp only [if_pos h]; decide
  simp only [if_neg h]; clear h
  by_cases h : k = 10
  · simp only [if_pos h]; decide
  simp only [if_neg h]; clear h
  by_cases h : k = 11
  · simp only [if_pos h]; decide
  simp only [if_neg h]; clear h
  by_cases h : k = 12
  · simp only [if_pos h]; decide
  simp only [if_neg h]; clear h
  by_cases h : k = 13
  · simp only [if_pos h]; decide
  simp only [if_neg h]; clear h
  by_cases h : k = 14
  · simp only [if_pos h]; decide
  simp only [if_neg h]; clear h
  by_cases h : k = 15
  · simp only [if_pos h]; decide
  simp only [if_neg h]; clear h
  by_cases h : k = 16
  · simp only [if_pos h]; decide
  simp only [if_neg h]; clear h
  by_cases h : k = 17
  · simp only [if_pos h]; decide
  simp only [if_neg h]; clear h
  by_cases h : k = 18
  · simp only [if_pos h]; decide
  simp only [if_neg h]; clear h
  by_cases h : k = 19
  · simp only [if_pos h]; decide
  simp only [if_neg h]; clear h
  decide
theorem form_small (k : UInt8) : ∀ c ∈ formL k, c.toNat < 128 := by
  have h : ∀ l ∈ formsAll, ∀ c ∈ l, c.toNat < 128 := by decide
  exact h _ (form_mem k)
theorem form_dec {k : UInt8} {i : Nat} (h : i < (formS k).size) : Utf8.decode (formS k) i = ((ix (formL k) i).toNat, 1) := by
  have hl : i < (formL k).length := h
  have e : (formS k)[i]'h = ix (formL k) i := by
    show (formL k).toArray[i] = _
    rw [ix, List.getD_eq_getElem?_getD, List.getElem?_eq_getElem hl]
    rfl
  have h2 : ((formS k)[i]'h).toNat < 128 := by
    rw [e, ix, List.getD_eq_getElem?_getD, List.getElem?_eq_getElem hl]
    exact form_small k _ (List.getElem_mem hl)
  rw [Go.decode_ascii _ i h h2, e]
theorem form_drop {k : UInt8} {i : Nat} (h : i < (formS k).size) : (formL k).drop i = ix (formL k) i :: (formL k).drop (i + 1) := by
  have hl : i < (formL k).length := h
  rw [List.drop_eq_getElem_cons hl, ix, List.getD_eq_getElem?_getD, List.getElem?_eq_getElem hl]
  rfl
theorem form_nil (k : UInt8) : ((formS k).toList == ({ data := #[] } : ByteArray).toList) = decide (formL k = []) := by
  rw [ByteArray.toList_eq, ByteArray.toList_eq]
  show (formL k == []) = decide (formL k = [])
  cases formL k <;> simp
theorem form_size (k : UInt8) : (formS k).size = (formL k).length := rfl
theorem mgA_set_k {m : MgR} (h : m.sm.length = 32) : (mgA m).set 0 (.v (.int .u8 0)) = mgA { m with k := 0 } := rfl
theorem sameM_zero (r : MgR) : sameM r.mg zeroR.mg = decide (r.mg = zeroM) := rfl
theorem zeroR_ok (w : World) : zeroR.Ok w := ⟨rfl, SlV.ok0 rfl, SlV.ok0 rfl, SlV.ok0 rfl, SlV.ok0 rfl⟩
attribute [local irreducible] Callable CallOK CallG CallM DrawG LoopG symR symM
attribute [local irreducible] mgA wiM chkS may chI okV mayErr formS sameM mayF
section
set_option maxRecDepth 100000 in
set_option maxHeartbeats 2000000 in
theorem checkM_any (m : MgR) (w : World) (hm : m.Ok w) : Calls Tryd.prog 43 (List.map (Sv.val []) [.x (.g (mgA m))]).toArray w fun e w' => e = .returned (okV (chkM m.mg) 1) ∧ Below w.heap.size w w' := by
  obtain ⟨Q, hQ⟩ : ∃ Q, Q = chkM m.mg := ⟨_, rfl⟩
  rw [← hQ]
  refine calls_v (n := 33) Tryd.func43 rfl Tryd.ntmps43 [.x (.g (mgA m))] (by simp) (.x (.a (.v (okV Q 1)))) (fun _ => rfl) ?_
  have f0 := (mgA_get hm.s).1
  have fl := mgA_len hm.s
  have fb := fun n => mgA_bnd m n
  have hT := okV_true 1
  have hF := okV_false 1
  have sk := mgA_set_k hm.s
  obtain ⟨m0, hm0⟩ : ∃ m0 : MgR, m0 = { m with k := 0 } := ⟨_, rfl⟩
  have m0ok : m0.Ok w := by rw [hm0]; exact ⟨hm.s, hm.ids, hm.ns, hm.ps, hm.xs⟩
  have m0l : (mgA m0).length = 43 := mgA_len m0ok.s
  rw [← hm0] at sk
  have ql : ∀ a : MgR, a.sm.length = 32 → (mgA a).length = 43 := fun a h => mgA_len h
  have qb := fun (a : MgR) n => mgA_bnd a n
  simp only [At.bnd] at fb qb
  have hfk : formL m.mg.k = formL m.k := rfl
  have hn := form_nil m.k
  unfold chkM at hQ
  rw [hfk] at hQ
  simp (config := { maxSteps := 1000000 }) only [fb, fl, f0, ↓mgA_cont, undef, push_cast, ↓reduceIte, reduceCtorEq, Nat.reduceEqDiff, Nat.reduceLT]
  (repeat (refine And.intro (by first | omega | decide) ?_))
  refine callG_v rfl cb48 rfl (formK16 m.k) (dOk_lt rfl) ?_
  by_cases h0 : formL m.k = []
  · rw [if_pos h0] at hQ
    rw [decide_eq_true h0] at hn
    simp (config := { maxSteps := 1000000 }) only [hn, hQ, hF, push_cast, ↓reduceIte, Nat.reduceLT]
    done
  rw [if_neg h0] at hQ
  rw [decide_eq_false h0] at hn
  have hQ : Q = chkGo m.mg (formL m.k) m0.mg := by rw [hm0]; exact hQ
  simp (config := { maxSteps := 1000000 }) only [hn, fb, fl, zeroArr, zokMg2, mgA_zero, zeroR_len, qb, sk, undef, push_cast, ↓reduceIte, reduceCtorEq, Nat.reduceEqDiff, Nat.reduceLT, Nat.reduceAdd]
  refine ⟨of_eq_true (mgA_one _ _), ?_⟩
  (repeat (refine And.intro (by first | omega | decide) ?_))
  refine loop_rule (ι := Nat × MgR) (fun x => ⟨[(1, .x (.a (.p 0 0))), (4, .x (.a (.p 1 0))), (16, .x (.a (.p 2 0)))], [.blk 89 (.c (mgA m)), .blk 89 (.c (mgA x.2)), .it (formS m.k) x.1]⟩)
    (fun x => x.1 ≤ (formS m.k).size ∧ x.2.Ok w ∧ Q = chkGo m.mg ((formL m.k).drop x.1) x.2.mg) (fun x => (formS m.k).size - x.1) (0, m0) [0, 1, 2] ⟨Nat.zero_le _, m0ok, hQ⟩ ?_ ?_
  · simp (config := { maxSteps := 1000000 }) only [fb, ↓mgA_cren, qb, push_cast, ↓reduceIte, reduceCtorEq, Nat.reduceEqDiff, Nat.reduceLT, Nat.reduceAdd]
  rintro ⟨i, r⟩ ⟨hi, hr, hg⟩
  have rl := mgA_len hr.s
  by_cases hlt : i < (formS m.k).size
  · have hd := form_dec hlt
    rw [form_drop hlt, chkGo] at hg
    generalize ix (formL m.k) i = c at *
    have hcc : ((c.toNat : Nat) : Int) = chI c := by unfold chI; rfl
    simp (config := { maxSteps := 1000000 }) only [fl, hlt, hd, hcc, push_cast, ↓reduceIte, Nat.reduceEqDiff, Nat.reduceLT, Nat.reduceAdd]
    (repeat (refine And.intro (by first | omega | decide) ?_))
    refine callG_v rfl cb94 rfl (mayK16 c (showsMg_raw hm)) (dOk_lt rfl) ?_
    cases hy : mayF m.mg c with
    | false =>
      rw [hy, if_neg (by decide)] at hg
      simp (config := { maxSteps := 1000000 }) only [hg, hF, push_cast, ↓reduceIte, Nat.reduceLT, Nat.reduceAdd]
      done
    | true =>
      rw [hy, if_pos rfl] at hg
      have wok := withoutR_ok hr c
      have wl := mgA_len wok.s
      simp (config := { maxSteps := 1000000 }) only [rl, push_cast, ↓reduceIte, Nat.reduceEqDiff, Nat.reduceLT, Nat.reduceAdd]
      (repeat (refine And.intro (by first | omega | decide) ?_))
      refine callG_v rfl cb95 rfl (withoutK16 c hr) (dOk_lt rfl) ?_
      simp (config := { maxSteps := 1000000 }) only [rl, wl, undef, push_cast, ↓reduceIte, Nat.reduceEqDiff, Nat.reduceLT, Nat.reduceAdd]
      refine ⟨of_eq_true (mgA_one _ _), ?_⟩
      (repeat (refine And.intro (by first | omega | decide) ?_))
      refine loopK_normal (i + 1, withoutR r c) [0, 1, 2] ⟨by omega, wok, by rw [withoutR_mg]; exact hg⟩ (by omega) ?_
      simp (config := { maxSteps := 1000000 }) only [fb, ↓mgA_cren, qb, push_cast, ↓reduceIte, reduceCtorEq, Nat.reduceEqDiff, Nat.reduceLT, Nat.reduceAdd]
  · obtain rfl : i = (formS m.k).size := by omega
    rw [show (formL m.k).drop (formS m.k).size = [] from List.drop_of_length_le (by rw [form_size]; exact Nat.le_refl _), chkGo] at hg
    simp (config := { maxSteps := 1000000 }) only [rl, zeroArr, zokMg2, mgA_zero, hlt, push_cast, ↓reduceIte, reduceCtorEq, Nat.reduceEqDiff, Nat.reduceLT, Nat.reduceAdd]
    (repeat (refine And.intro (by first | omega | decide) ?_))
    refine callG_v rfl cb47 rfl (sameK16 (showsMg_raw hr) (showsMg_raw (zeroR_ok w))) (dOk_lt rfl) ?_
    have hg : Q = sameM r.mg zeroR.mg := hg.trans (sameM_zero r).symm
    rw [← hg]
    cases Q with
    | true =>
      simp (config := { maxSteps := 1000000 }) only [hT, push_cast, ↓reduceIte, Nat.reduceLT, Nat.reduceAdd]
      done
    | false =>
      simp (config := { maxSteps := 1000000 }) only [hF, push_cast, ↓reduceIte, Nat.reduceLT, Nat.reduceAdd]
      done
theorem checkMK {w0 : World} {hp : List Res} {s : Sv} {m : MgS} (h : ShowsMg w0 hp s m) : CallOK Tryd.prog w0 No 43 [s] hp (.x (.a (.v (okV (chkM m) 1)))) hp := callOK_v fun γ w hS => by
  obtain ⟨a, e, h1, rfl⟩ := h γ w hS
  have e : List.map (Sv.val γ) [s] = List.map (Sv.val []) [.x (.g (mgA a))] := by
    simp only [List.map_cons, List.map_nil, e, mgA_sv]
  rw [e]
  exact checkM_any a w h1
end
end Go.Proofs.YtiaeollemmkclaaDoor
