import Derived.Test.YtiaeollemmkclaaDoorTs2
/- Law 22's giveConf as its caller sees it, bigConf. -/
namespace Go.Proofs.YtiaeollemmkclaaDoor
open Go.RowKit
set_option linter.unusedSimpArgs false
set_option linter.unusedVariables false
theorem CfR.Wide.later {w0 w : World} {c : CfR} {γ : List Nm} {hp : List Res} (h : c.Wide w0) (hS : Sat w0 No γ hp w) : c.Wide w :=
  ⟨h.plen, h.pw, rd_later h.prd hS, h.glen, h.gw, rd_later h.grd hS, fun g hg => ⟨(h.ids g hg).1, (h.ids g hg).2.1, rd_later (h.ids g hg).2.2 hS⟩⟩
theorem give22K {w0 : World} {hp : List Res} (c : CfR) (hc : c.Wide w0) (hbr : ∀ r ∈ hp, Res.bnd hp.length r) :
    CallOK Tryd.prog w0 No 26 [.x (.g [.v (.int .i64 c.dim), .v (.slice c.ps.A c.ps.l.length c.ps.c), .v (.slice c.gs.A c.gs.l.length c.gs.c), .v (.int .i64 c.least), .v (.int .i64 c.term)])] hp (.x (.g [.v (.int .i64 c.dim), .o hp.length, .o (hp.length + 1), .v (.int .i64 c.least), .v (.int .i64 c.term)])) (hp ++ [.onn 79 3 (.c (vC (c.ps.l.flatMap plV))), .abs (GrRep (c.gs.l.map GrR.gr))]) := by
  have := callOK_take (P := Tryd.prog) (w0 := w0) (ow := No) (f := 26) (svs := [.x (.g [.v (.int .i64 c.dim), .v (.slice c.ps.A c.ps.l.length c.ps.c), .v (.slice c.gs.A c.gs.l.length c.gs.c), .v (.int .i64 c.least), .v (.int .i64 c.term)])]) (hp := hp) (sv1 := .x (.g [.v (.int .i64 c.dim), .o 0, .o 1, .v (.int .i64 c.least), .v (.int .i64 c.term)])) (hp1 := [.onn 79 3 (.c (vC (c.ps.l.flatMap plV))), .abs (GrRep (c.gs.l.map GrR.gr))]) [] hbr
    (by simp only [push_cast, ↓Int.toNat_natCast, ↓Int.cast_ofNat_Int, Int.cast_ofNat_Int, ↓reduceIte, reduceCtorEq, Nat.reduceEqDiff, Nat.reduceLT, Nat.reduceLeDiff, Nat.reduceAdd, Nat.reduceSub, Nat.reduceMul, Int.reduceNeg, Int.reduceLE, Int.reduceLT, Int.reduceToNat, Int.reduceAdd, Int.reduceSub, Int.reduceMul, Int.reduceEq]) (by simp only [push_cast, ↓Int.toNat_natCast, ↓Int.cast_ofNat_Int, Int.cast_ofNat_Int, ↓reduceIte, reduceCtorEq, Nat.reduceEqDiff, Nat.reduceLT, Nat.reduceLeDiff, Nat.reduceAdd, Nat.reduceSub, Nat.reduceMul, Int.reduceNeg, Int.reduceLE, Int.reduceLT, Int.reduceToNat, Int.reduceAdd, Int.reduceSub, Int.reduceMul, Int.reduceEq]) fun γ w hS => ⟨No, fun b h => h.elim, give22_sym c w (hc.later hS)⟩
  have e : Cont.ren (shiftL hp.length 2) (.c (vC (c.ps.l.flatMap plV))) = .c (vC (c.ps.l.flatMap plV)) := by show Cont.c _ = _; rw [vC_ren]
  have e2 : goneAll [] hp ++ List.map (Res.ren (shiftL hp.length 2)) [.onn 79 3 (.c (vC (c.ps.l.flatMap plV))), .abs (GrRep (c.gs.l.map GrR.gr))] = hp ++ [.onn 79 3 (.c (vC (c.ps.l.flatMap plV))), .abs (GrRep (c.gs.l.map GrR.gr))] := by
    show hp ++ [Res.onn _ 3 (Cont.ren _ _), Res.abs _] = _
    rw [e]
  rw [show ([.onn 79 3 (.c (vC (c.ps.l.flatMap plV))), .abs (GrRep (c.gs.l.map GrR.gr))] : List Res).length = 2 from rfl, e2] at this
  exact this
/-- What giveConf leaves shows who there is. -/
theorem showsCf_built {w0 : World} {hp : List Res} {dim least term : Int} {ps : List PlS} {gs : List GrS} {j k : Nat} {e : TypeId} (hj : hp[j]? = some (.onn e 3 (.c (vC (ps.flatMap plV))))) (hk : hp[k]? = some (.abs (GrRep gs))) (h1 : ps.length ≤ 1000000) (h2 : gs.length ≤ 1000000) (h3 : ∀ g ∈ gs, g.ids.length ≤ 1000000) :
    ShowsCf w0 hp (.x (.g [.v (.int .i64 dim), .o j, .o k, .v (.int .i64 least), .v (.int .i64 term)])) ⟨dim, ps, gs, least, term⟩ := fun γ w hS => by
  obtain ⟨A, cap, e1, e2, e3⟩ := fct_onn (n := ps.length) hS hj (vC_val γ _) (by rw [flat_len plV_len])
  have e4 := e3.rd rfl fun b hb => (hS.mine j _ b hj hb).2
  obtain ⟨_, hlt, gR, A2, cap2, rfl, f1, f2, f3⟩ := hS.holds k _ hk
  rw [f1] at f2
  have f4 := f2.rd rfl hlt
  rw [List.length_map] at h2
  refine ⟨⟨dim, ⟨A, cap, ps⟩, ⟨A2, cap2, gR⟩, least, term⟩, ?_, ⟨e4.1, h1, e4.2, f4.1, h2, f4.2, fun g hg => ?_⟩, rfl⟩
  · show Value.agg [_, nmS γ j, nmS γ k, _, _].toArray = _
    rw [e1, f1]
    rfl
  · have := (f3 g hg).rd (A := g.ids.A) (c := g.ids.c) rfl hlt
    exact ⟨this.1, h3 g.gr (List.mem_map_of_mem hg), this.2⟩
def bigC (c : CfS) : Bool := decide (30 < c.places.length) || (decide (30 < c.groups.length) || c.groups.any fun g => decide (30 < g.ids.length))
theorem bigC_no {c : CfS} (h : bigC c = false) : c.places.length ≤ 30 ∧ c.groups.length ≤ 30 ∧ ∀ g ∈ c.groups, g.ids.length ≤ 30 := by
  unfold bigC at h
  rw [Bool.or_eq_false_iff, Bool.or_eq_false_iff, List.any_eq_false] at h
  obtain ⟨h1, h2, h3⟩ := h
  have h1 := of_decide_eq_false h1
  have h2 := of_decide_eq_false h2
  refine ⟨by omega, by omega, fun g hg => ?_⟩
  have := h3 g hg
  simp only [decide_eq_true_eq] at this
  omega
attribute [local irreducible] Callable CallOK CallG CallM DrawG LoopG symR symM
attribute [local irreducible] vC
section
set_option maxRecDepth 100000 in
theorem big22_any (c : CfR) (w : World) (hc : c.Wide w) : Calls Tryd.prog 27 #[.agg (cfV c).toArray] w fun e w' => e = .returned (.bool (bigC c.cf)) ∧ Below w.heap.size w w' := by
  have G := FLm.of grV_len (by decide) hc.grd
  refine calls_v (n := 29) Tryd.func27 rfl Tryd.ntmps27 [.x (.g [.v (.int .i64 c.dim), .v (.slice c.ps.A c.ps.l.length c.ps.c), .v (.slice c.gs.A c.gs.l.length c.gs.c), .v (.int .i64 c.least), .v (.int .i64 c.term)])] (by simp) (.x (.a (.v (.bool (bigC c.cf))))) (fun _ => rfl) ?_
  obtain ⟨q, hq⟩ : ∃ q, q = bigC c.cf := ⟨_, rfl⟩
  rw [← hq]
  have hq : q = (decide (30 < c.ps.l.length) || (decide (30 < (c.gs.l.map GrR.gr).length) || (c.gs.l.map GrR.gr).any fun g => decide (30 < g.ids.length))) := hq
  rw [List.length_map] at hq
  by_cases h1 : (30 : Int) < c.ps.l.length
  · rw [decide_eq_true (show 30 < c.ps.l.length by omega), Bool.true_or] at hq
    simp (config := { maxSteps := 1000000 }) only [h1, hq, undef, push_cast, ↓Int.toNat_natCast, ↓Int.cast_ofNat_Int, Int.cast_ofNat_Int, ↓reduceIte, reduceCtorEq, Nat.reduceEqDiff, Nat.reduceLT, Nat.reduceLeDiff, Nat.reduceAdd, Nat.reduceSub, Nat.reduceMul, Int.reduceNeg, Int.reduceLE, Int.reduceLT, Int.reduceToNat, Int.reduceAdd, Int.reduceSub, Int.reduceMul, Int.reduceEq]
    done
  rw [decide_eq_false (show ¬ 30 < c.ps.l.length by omega), Bool.false_or] at hq
  by_cases h2 : (30 : Int) < c.gs.l.length
  · rw [decide_eq_true (show 30 < c.gs.l.length by omega), Bool.true_or] at hq
    simp (config := { maxSteps := 1000000 }) only [h1, h2, hq, undef, push_cast, ↓Int.toNat_natCast, ↓Int.cast_ofNat_Int, Int.cast_ofNat_Int, ↓reduceIte, reduceCtorEq, Nat.reduceEqDiff, Nat.reduceLT, Nat.reduceLeDiff, Nat.reduceAdd, Nat.reduceSub, Nat.reduceMul, Int.reduceNeg, Int.reduceLE, Int.reduceLT, Int.reduceToNat, Int.reduceAdd, Int.reduceSub, Int.reduceMul, Int.reduceEq]
    done
  rw [decide_eq_false (show ¬ 30 < c.gs.l.length by omega), Bool.false_or] at hq
  simp (config := { maxSteps := 1000000 }) only [h1, h2, undef, push_cast, ↓Int.toNat_natCast, ↓Int.cast_ofNat_Int, Int.cast_ofNat_Int, ↓reduceIte, reduceCtorEq, Nat.reduceEqDiff, Nat.reduceLT, Nat.reduceLeDiff, Nat.reduceAdd, Nat.reduceSub, Nat.reduceMul, Int.reduceNeg, Int.reduceLE, Int.reduceLT, Int.reduceToNat, Int.reduceAdd, Int.reduceSub, Int.reduceMul, Int.reduceEq]
  refine loop_rule (ι := Nat) (fun i => ⟨[(1, .x (.a (.p 0 0))), (3, .x (.a (.v (.int .i64 i))))], [.blk 61 (.c [.v (.int .i64 c.dim), .v (.slice c.ps.A c.ps.l.length c.ps.c), .v (.slice c.gs.A c.gs.l.length c.gs.c), .v (.int .i64 c.least), .v (.int .i64 c.term)])]⟩) (fun i => i ≤ c.gs.l.length ∧ q = ((c.gs.l.drop i).map GrR.gr).any fun g => decide (30 < g.ids.length)) (fun i => c.gs.l.length - i) 0 [0] ⟨Nat.zero_le _, hq⟩ ?_ ?_
  · simp (config := { maxSteps := 1000000 }) only [push_cast, ↓Int.toNat_natCast, ↓Int.cast_ofNat_Int, Int.cast_ofNat_Int, ↓reduceIte, reduceCtorEq, Nat.reduceEqDiff, Nat.reduceLT, Nat.reduceLeDiff, Nat.reduceAdd, Nat.reduceSub, Nat.reduceMul, Int.reduceNeg, Int.reduceLE, Int.reduceLT, Int.reduceToNat, Int.reduceAdd, Int.reduceSub, Int.reduceMul, Int.reduceEq]
  rintro i ⟨hi, hg⟩
  by_cases hlt : (i : Int) < c.gs.l.length
  · have hil : i < c.gs.l.length := by omega
    have i0 : (0 : Int) ≤ i := by omega
    have hA := G.some_ (by omega)
    obtain ⟨c1, o1⟩ := G.cell i 1 _ hil rfl
    have hd : c.gs.l.drop i = ix c.gs.l i :: c.gs.l.drop (i + 1) := by
      rw [List.drop_eq_getElem_cons hil, ix, List.getD_eq_getElem?_getD, List.getElem?_eq_getElem hil]; rfl
    rw [hd, List.map_cons, List.any_cons] at hg
    generalize ix c.gs.l i = g at *
    have c1 : cellOf w (pAdd c.gs.A (i * 3 + 1)) = .slice g.ids.A g.ids.l.length g.ids.c := c1
    by_cases h3 : (30 : Int) < g.ids.l.length
    · rw [decide_eq_true (show 30 < g.gr.ids.length by show 30 < g.ids.l.length; omega), Bool.true_or] at hg
      simp (config := { maxSteps := 1000000 }) only [hlt, i0, c1, o1, hA, h3, hg, pAdd_add, pAdd_isSome, undef, push_cast, ↓Int.toNat_natCast, ↓Int.cast_ofNat_Int, Int.cast_ofNat_Int, ↓reduceIte, reduceCtorEq, Nat.reduceEqDiff, Nat.reduceLT, Nat.reduceLeDiff, Nat.reduceAdd, Nat.reduceSub, Nat.reduceMul, Int.reduceNeg, Int.reduceLE, Int.reduceLT, Int.reduceToNat, Int.reduceAdd, Int.reduceSub, Int.reduceMul, Int.reduceEq]
      done
    · rw [decide_eq_false (show ¬ 30 < g.gr.ids.length by show ¬ 30 < g.ids.l.length; omega), Bool.false_or] at hg
      simp (config := { maxSteps := 1000000 }) only [hlt, i0, c1, o1, hA, h3, pAdd_add, pAdd_isSome, undef, push_cast, ↓Int.toNat_natCast, ↓Int.cast_ofNat_Int, Int.cast_ofNat_Int, ↓reduceIte, reduceCtorEq, Nat.reduceEqDiff, Nat.reduceLT, Nat.reduceLeDiff, Nat.reduceAdd, Nat.reduceSub, Nat.reduceMul, Int.reduceNeg, Int.reduceLE, Int.reduceLT, Int.reduceToNat, Int.reduceAdd, Int.reduceSub, Int.reduceMul, Int.reduceEq]
      (repeat (refine And.intro (by first | omega | decide) ?_))
      refine loopK_normal (i + 1) [0] ⟨by omega, hg⟩ (by omega) ?_
      simp (config := { maxSteps := 1000000 }) only [push_cast, ↓Int.toNat_natCast, ↓Int.cast_ofNat_Int, Int.cast_ofNat_Int, ↓reduceIte, reduceCtorEq, Nat.reduceEqDiff, Nat.reduceLT, Nat.reduceLeDiff, Nat.reduceAdd, Nat.reduceSub, Nat.reduceMul, Int.reduceNeg, Int.reduceLE, Int.reduceLT, Int.reduceToNat, Int.reduceAdd, Int.reduceSub, Int.reduceMul, Int.reduceEq]
      done
  · obtain rfl : i = c.gs.l.length := by omega
    rw [List.drop_length, List.map_nil, List.any_nil] at hg
    simp (config := { maxSteps := 1000000 }) only [hlt, hg, undef, push_cast, ↓Int.toNat_natCast, ↓Int.cast_ofNat_Int, Int.cast_ofNat_Int, ↓reduceIte, reduceCtorEq, Nat.reduceEqDiff, Nat.reduceLT, Nat.reduceLeDiff, Nat.reduceAdd, Nat.reduceSub, Nat.reduceMul, Int.reduceNeg, Int.reduceLE, Int.reduceLT, Int.reduceToNat, Int.reduceAdd, Int.reduceSub, Int.reduceMul, Int.reduceEq]
    done
theorem big22K {w0 : World} {hp : List Res} (c : CfR) (hc : c.Wide w0) : CallOK Tryd.prog w0 No 27 [.x (.g [.v (.int .i64 c.dim), .v (.slice c.ps.A c.ps.l.length c.ps.c), .v (.slice c.gs.A c.gs.l.length c.gs.c), .v (.int .i64 c.least), .v (.int .i64 c.term)])] hp (.x (.a (.v (.bool (bigC c.cf))))) hp := callOK_v fun γ w hS => big22_any c w (hc.later hS)
end
end Go.Proofs.YtiaeollemmkclaaDoor
