import Derived.Test.YtiaeollemmkclaaDoorSc5
import Derived.Test.YtiaeollemmkclaaDoorBu
/- Layer 40 walked: Print; law 40's texts, areCommands, giveCommands. -/
namespace Go.Proofs.YtiaeollemmkclaaDoor
open Go.RowKit
set_option linter.unusedSimpArgs false
set_option linter.unusedVariables false
/-- Commands as they lie there. -/
structure CmsW (x : SlV CmR) (w : World) : Prop where
  len : x.l.length ≤ x.c
  few : x.l.length ≤ 1000000
  rd : RdV w w.heap.size x.A (x.l.flatMap cmV)
  each : ∀ c ∈ x.l, c.Ok w
def cmsL (x : SlV CmR) : List CmS := x.l.map CmR.cm
def ShowsCms (w0 : World) (ow : Nat → Prop) (hp : List Res) (sv : Sv) (L : List CmS) : Prop := ∀ γ w, Sat w0 ow γ hp w → ∃ x : SlV CmR, sv.val γ = x.val ∧ CmsW x w ∧ cmsL x = L
theorem CmsW.later {w0 w : World} {x : SlV CmR} {γ : List Nm} {hp : List Res} (h : CmsW x w0) (hS : Sat w0 No γ hp w) : CmsW x w := ⟨h.len, h.few, rd_later h.rd hS, fun c hc => (h.each c hc).later hS⟩
theorem CmsOk.at_ {Fs : List Fct} {x : SlV CmR} {w : World} (h : CmsOk Fs x) (hk : Known w No Fs) : CmsW x w := by
  obtain ⟨h1, h2⟩ := hk.fw h.f (fun e => by rw [e]; rfl)
  refine ⟨h1, h.few, h2.rd, fun c hc => ?_⟩
  obtain ⟨a1, a2, a3, a4⟩ := h.each c hc
  obtain ⟨h3, h4⟩ := hk.fw a1 (fun e => by rw [e]; rfl)
  exact ⟨h3, a2, h4.rd, a3, a4⟩
def ixS (l : List ByteArray) (i : Nat) : ByteArray := l.getD i ByteArray.empty
attribute [local irreducible] Callable CallOK CallG CallM DrawG LoopG symR symM
set_option maxRecDepth 100000 in
theorem texts_any (x y : SlV ByteArray) (w : World) (hx : x.l.length ≤ 1000000) (h1 : RdV w w.heap.size x.A (x.l.map Value.string)) (h2 : RdV w w.heap.size y.A (y.l.map Value.string)) : Calls Tryd.prog 58 #[x.val, y.val] w fun e w' => e = .returned (.bool (decide (x.l = y.l))) ∧ Below w.heap.size w w' := by
  have F := FV.no h1
  have G := FV.no h2
  refine calls_v (n := 26) Tryd.func58 rfl Tryd.ntmps58 [.x (.a (.v (.slice x.A x.l.length x.c))), .x (.a (.v (.slice y.A y.l.length y.c)))] (by simp) (.x (.a (.v (.bool (decide (x.l = y.l)))))) (fun _ => rfl) ?_
  by_cases hl : (x.l.length : Int) = y.l.length
  case neg =>
    have hd : decide (x.l = y.l) = false := decide_eq_false fun e => hl (by rw [e])
    simp (config := { maxSteps := 1000000 }) only [hl, hd, push_cast, ↓reduceIte, reduceCtorEq, Nat.reduceEqDiff, Nat.reduceLT]
    done
  simp (config := { maxSteps := 1000000 }) only [hl, push_cast, ↓reduceIte, reduceCtorEq, Nat.reduceEqDiff, Nat.reduceLT]
  refine loop_rule (ι := Nat) (fun i => ⟨[(0, .x (.a (.v (.slice x.A x.l.length x.c)))), (1, .x (.a (.v (.slice y.A y.l.length y.c)))), (5, .x (.a (.v (.int .i64 (i : Nat)))))], []⟩) (fun i => i ≤ x.l.length ∧ x.l.take i = y.l.take i) (fun i => x.l.length - i) 0 [] ⟨Nat.zero_le _, rfl⟩ ?_ ?_
  · simp (config := { maxSteps := 1000000 }) only [push_cast, ↓Int.cast_ofNat_Int, Int.cast_ofNat_Int, ↓reduceIte, reduceCtorEq, Nat.reduceEqDiff]
  rintro i ⟨hi, ht⟩
  by_cases hlt : (i : Int) < x.l.length
  · have hil : i < x.l.length := by omega
    have hil2 : i < y.l.length := by omega
    have hlt2 : (i : Int) < y.l.length := by omega
    have i0 : (0 : Int) ≤ i := by omega
    have nx : (i : Int) + 1 ≤ 9223372036854775807 := by omega
    have nm : -9223372036854775808 ≤ (i : Int) + 1 := by omega
    obtain ⟨s, hs⟩ : ∃ s, x.l[i]? = some s := ⟨_, List.getElem?_eq_getElem hil⟩
    obtain ⟨t, ht2⟩ : ∃ t, y.l[i]? = some t := ⟨_, List.getElem?_eq_getElem hil2⟩
    obtain ⟨c1, o1⟩ := F.cell (i := i) (u := .string s) (by rw [List.getElem?_map, hs]; rfl)
    obtain ⟨c2, o2⟩ := G.cell (i := i) (u := .string t) (by rw [List.getElem?_map, ht2]; rfl)
    have a1 := F.some_ (by rw [List.length_map]; omega)
    have a2 := G.some_ (by rw [List.length_map]; omega)
    simp (config := { maxSteps := 1000000 }) only [hlt, push_cast, ↓reduceIte, reduceCtorEq, Nat.reduceEqDiff, Nat.reduceLT]
    refine draw_rule [(0, true), (1, true), (2, true), (3, true), (4, true), (5, true), (6, true), (7, true), (8, true)] (by kernel_rfl) (by kernel_rfl) rfl (by kernel_rfl) ?_
    by_cases he : s = t
    · have q := ss_yes he
      simp (config := { maxSteps := 1000000 }) only [hlt, hlt2, i0, c1, c2, o1, o2, a1, a2, q, nx, nm, push_cast, ↓Int.toNat_natCast, ↓reduceIte, reduceCtorEq, Nat.reduceEqDiff, Nat.reduceLT, Int.reduceNeg]
      (repeat (refine And.intro (by first | omega | decide) ?_))
      refine loopK_normal (i + 1) [] ⟨by omega, by rw [List.take_add_one, List.take_add_one, ht, hs, ht2, he]⟩ (by show x.l.length - (i + 1) < x.l.length - i; omega) ?_
      simp (config := { maxSteps := 1000000 }) only [push_cast, ↓reduceIte, reduceCtorEq, Nat.reduceEqDiff]
    · have q := ss_no he
      have hd : decide (x.l = y.l) = false := decide_eq_false fun e => he (by rw [e, ht2] at hs; exact (Option.some.inj hs).symm)
      simp (config := { maxSteps := 1000000 }) only [hlt, hlt2, i0, c1, c2, o1, o2, a1, a2, q, hd, push_cast, ↓Int.toNat_natCast, ↓reduceIte, reduceCtorEq, Nat.reduceEqDiff, Nat.reduceLT]
      (repeat (refine And.intro (by first | omega | decide) ?_))
      done
  · obtain rfl : i = x.l.length := by omega
    have hd : decide (x.l = y.l) = true := decide_eq_true (by rw [List.take_length, List.take_of_length_le (by omega)] at ht; exact ht)
    simp (config := { maxSteps := 1000000 }) only [hlt, hd, push_cast, ↓reduceIte, reduceCtorEq, Nat.reduceEqDiff, Nat.reduceLT]
    done
theorem textsK {w0 : World} {ow : Nat → Prop} {hp : List Res} {s1 s2 : Sv} {a b : List ByteArray} (hl : a.length ≤ 1000000) (h1 : Shows w0 ow hp s1 (a.map Value.string)) (h2 : Shows w0 ow hp s2 (b.map Value.string)) : CallOK Tryd.prog w0 ow 58 [s1, s2] hp (.x (.a (.v (.bool (decide (a = b)))))) hp := callOK_v fun γ w hS => by
  obtain ⟨A, c, e1, b1, r1⟩ := h1 γ w hS
  obtain ⟨B, d, e2, b2, r2⟩ := h2 γ w hS
  rw [List.length_map] at e1 e2
  show Calls _ _ #[s1.val γ, s2.val γ] w _
  rw [e1, e2]
  exact texts_any ⟨A, c, a⟩ ⟨B, d, b⟩ w hl r1 r2
set_option maxRecDepth 100000 in
set_option maxHeartbeats 1000000 in
theorem areCms_any (x y : SlV CmR) (w : World) (hx : CmsW x w) (hy : CmsW y w) : Calls Tryd.prog 57 #[x.val, y.val] w fun e w' => e = .returned (.bool (decide (cmsL x = cmsL y))) ∧ Below w.heap.size w w' := by
  have F := FLm.of cmV_len (by decide) hx.rd
  have G := FLm.of cmV_len (by decide) hy.rd
  have hfew := hx.few
  refine calls_v (n := 42) Tryd.func57 rfl Tryd.ntmps57 [.x (.a (.v (.slice x.A x.l.length x.c))), .x (.a (.v (.slice y.A y.l.length y.c)))] (by simp) (.x (.a (.v (.bool (decide (cmsL x = cmsL y)))))) (fun _ => rfl) ?_
  have hcx : (cmsL x).length = x.l.length := List.length_map ..
  have hcy : (cmsL y).length = y.l.length := List.length_map ..
  by_cases hl : (x.l.length : Int) = y.l.length
  case neg =>
    have hd : decide (cmsL x = cmsL y) = false := decide_eq_false fun e => hl (by rw [← hcx, ← hcy, e])
    simp (config := { maxSteps := 1000000 }) only [hl, hd, push_cast, ↓reduceIte, reduceCtorEq, Nat.reduceEqDiff, Nat.reduceLT]
    done
  simp (config := { maxSteps := 1000000 }) only [hl, push_cast, ↓reduceIte, reduceCtorEq, Nat.reduceEqDiff, Nat.reduceLT]
  refine loop_rule (ι := Nat) (fun i => ⟨[(0, .x (.a (.v (.slice x.A x.l.length x.c)))), (1, .x (.a (.v (.slice y.A y.l.length y.c)))), (5, .x (.a (.v (.int .i64 (i : Nat)))))], []⟩) (fun i => i ≤ x.l.length ∧ (cmsL x).take i = (cmsL y).take i) (fun i => x.l.length - i) 0 [] ⟨Nat.zero_le _, rfl⟩ ?_ ?_
  · simp (config := { maxSteps := 1000000 }) only [push_cast, ↓Int.cast_ofNat_Int, Int.cast_ofNat_Int, ↓reduceIte, reduceCtorEq, Nat.reduceEqDiff]
  rintro i ⟨hi, ht⟩
  by_cases hlt : (i : Int) < x.l.length
  · have hil : i < x.l.length := by omega
    have hil2 : i < y.l.length := by omega
    have hlt2 : (i : Int) < y.l.length := by omega
    have i0 : (0 : Int) ≤ i := by omega
    have nx : (i : Int) + 1 ≤ 9223372036854775807 := by omega
    have nm : -9223372036854775808 ≤ (i : Int) + 1 := by omega
    have okx := hx.each _ (ix_mem hil)
    have oky := hy.each _ (ix_mem hil2)
    have gx : (cmsL x)[i]? = some (ix x.l i).cm := by unfold cmsL ix; rw [List.getElem?_map, List.getD_eq_getElem?_getD, List.getElem?_eq_getElem hil]; rfl
    have gy : (cmsL y)[i]? = some (ix y.l i).cm := by unfold cmsL ix; rw [List.getElem?_map, List.getD_eq_getElem?_getD, List.getElem?_eq_getElem hil2]; rfl
    obtain ⟨x0, p0⟩ := F.cell i 0 _ hil rfl
    obtain ⟨x1, p1⟩ := F.cell i 1 _ hil rfl
    obtain ⟨y0, q0⟩ := G.cell i 0 _ hil2 rfl
    obtain ⟨y1, q1⟩ := G.cell i 1 _ hil2 rfl
    rw [Nat.add_zero] at x0 p0 y0 q0
    have a1 := F.some_ (by omega)
    have a2 := G.some_ (by omega)
    generalize ix x.l i = cx at *
    generalize ix y.l i = cy at *
    have x1 : cellOf w (pAdd x.A (i * 2 + 1)) = .slice cx.args.A cx.args.l.length cx.args.c := x1
    have y1 : cellOf w (pAdd y.A (i * 2 + 1)) = .slice cy.args.A cy.args.l.length cy.args.c := y1
    have tk1 : (cmsL x).take (i + 1) = (cmsL x).take i ++ [cx.cm] := by rw [List.take_add_one, gx]; rfl
    have tk2 : (cmsL y).take (i + 1) = (cmsL y).take i ++ [cy.cm] := by rw [List.take_add_one, gy]; rfl
    have no : ¬ cx.cm = cy.cm → decide (cmsL x = cmsL y) = false := fun h => decide_eq_false fun e => h (by rw [e, gy] at gx; exact (Option.some.inj gx).symm)
    simp (config := { maxSteps := 1000000 }) only [hlt, push_cast, ↓reduceIte, reduceCtorEq, Nat.reduceEqDiff, Nat.reduceLT]
    refine draw_rule [(0, true), (1, true), (2, true), (3, true), (4, true), (5, true), (6, true), (7, true), (8, true), (9, true), (10, true), (11, true), (12, true), (13, true), (14, true), (15, true), (16, true), (17, true), (18, true), (19, true), (20, true), (21, true), (22, false), (23, true), (24, true)] (by kernel_rfl) (by kernel_rfl) rfl (by kernel_rfl) ?_
    by_cases he : cx.word = cy.word
    · have q := ss_yes he
      simp (config := { maxSteps := 1000000 }) only [hlt, hlt2, i0, x0, x1, y0, y1, p0, p1, q0, q1, a1, a2, q, pAdd_add, pAdd_isSome, push_cast, ↓Int.toNat_natCast, ↓reduceIte, reduceCtorEq, Nat.reduceEqDiff, Nat.reduceLT]
      (repeat (refine And.intro (by first | omega | decide) ?_))
      refine callM_v rfl cb58 rfl (textsK okx.few (shows_raw okx.rd _ _ (List.length_map ..) okx.len) (shows_raw oky.rd _ _ (List.length_map ..) oky.len)) (dOk_lt rfl) ?_
      by_cases hr : cx.args.l = cy.args.l
      · simp (config := { maxSteps := 1000000 }) only [hr, nx, nm, push_cast, ↓reduceIte, reduceCtorEq, Nat.reduceEqDiff, Nat.reduceLT, Int.reduceNeg]
        (repeat (refine And.intro (by first | omega | decide) ?_))
        refine loopK_normal (i + 1) [] ⟨by omega, ?_⟩ (by show x.l.length - (i + 1) < x.l.length - i; omega) ?_
        · rw [tk1, tk2, ht]
          have : cx.cm = cy.cm := by unfold CmR.cm; rw [he, hr]
          rw [this]
        · simp (config := { maxSteps := 1000000 }) only [push_cast, ↓reduceIte, reduceCtorEq, Nat.reduceEqDiff]
      · have hd := no fun e => hr (by have := congrArg CmS.args e; exact this)
        simp (config := { maxSteps := 1000000 }) only [hr, hd, push_cast, ↓reduceIte, Nat.reduceEqDiff, Nat.reduceLT]
        (repeat (refine And.intro (by first | omega | decide) ?_))
        done
    · have q := ss_no he
      have hd := no fun e => he (by have := congrArg CmS.word e; exact this)
      simp (config := { maxSteps := 1000000 }) only [hlt, hlt2, i0, x0, y0, p0, q0, a1, a2, q, hd, pAdd_add, pAdd_isSome, undef, push_cast, ↓Int.toNat_natCast, ↓reduceIte, reduceCtorEq, Nat.reduceEqDiff, Nat.reduceLT]
      (repeat (refine And.intro (by first | omega | decide) ?_))
      done
  · obtain rfl : i = x.l.length := by omega
    have hd : decide (cmsL x = cmsL y) = true := decide_eq_true (by rw [← hcx, List.take_length, List.take_of_length_le (by omega)] at ht; exact ht)
    simp (config := { maxSteps := 1000000 }) only [hlt, hd, push_cast, ↓reduceIte, reduceCtorEq, Nat.reduceEqDiff, Nat.reduceLT]
    done
theorem areCmsK {w0 : World} {ow : Nat → Prop} {hp : List Res} {s1 s2 : Sv} {a b : List CmS} (h1 : ShowsCms w0 ow hp s1 a) (h2 : ShowsCms w0 ow hp s2 b) : CallOK Tryd.prog w0 ow 57 [s1, s2] hp (.x (.a (.v (.bool (decide (a = b)))))) hp := callOK_v fun γ w hS => by
  obtain ⟨x, e1, k1, rfl⟩ := h1 γ w hS
  obtain ⟨y, e2, k2, rfl⟩ := h2 γ w hS
  show Calls _ _ #[s1.val γ, s2.val γ] w _
  rw [e1, e2]
  exact areCms_any x y w k1 k2
end Go.Proofs.YtiaeollemmkclaaDoor
