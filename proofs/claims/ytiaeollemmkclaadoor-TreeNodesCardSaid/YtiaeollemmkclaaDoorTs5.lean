import Derived.Test.YtiaeollemmkclaaDoorTs4
/- Law 22's TreeNodes. -/
namespace Go.Proofs.YtiaeollemmkclaaDoor
open Go.RowKit
set_option linter.unusedSimpArgs false
set_option linter.unusedVariables false
theorem asc_ix {N : List Int} (h : N.Pairwise (· < ·)) {i j : Nat} (hij : i < j) (hj : j < N.length) : ix N i < ix N j := by
  have := List.pairwise_iff_getElem.1 h i j (by omega) hj hij
  rw [ix, ix, List.getD_eq_getElem?_getD, List.getD_eq_getElem?_getD, List.getElem?_eq_getElem hj, List.getElem?_eq_getElem (show i < N.length by omega)]
  exact this
theorem ix_appL {α : Type} [Inhabited α] {a b : List α} {i : Nat} (h : i < a.length) : ix (a ++ b) i = ix a i := by
  rw [ix, ix, List.getD_eq_getElem?_getD, List.getD_eq_getElem?_getD, List.getElem?_append_left h]
theorem ix_appR {α : Type} [Inhabited α] {a b : List α} {i : Nat} (h : a.length ≤ i) : ix (a ++ b) i = ix b (i - a.length) := by
  rw [ix, ix, List.getD_eq_getElem?_getD, List.getD_eq_getElem?_getD, List.getElem?_append_right h]
theorem vC_get {vs : List Value} {k : Nat} {v : Value} (d : At) (h : vs[k]? = some v) : (vC vs).getD k d = .v v := by
  unfold vC
  rw [List.getD_eq_getElem?_getD, List.getElem?_map, h]
  rfl
theorem plV_get {l : List PlS} {p k : Nat} {v : Value} (d : At) (hp : p < l.length) (hk : (plV (ix l p))[k]? = some v) : (vC (l.flatMap plV)).getD (p * 3 + k) d = .v v :=
  vC_get d (by rw [flat_get plV_len l p k hp (by have := (List.getElem?_eq_some_iff.1 hk).1; rwa [plV_len] at this)]; exact hk)
attribute [local irreducible] Callable CallOK CallG CallM DrawG LoopG symR symM
attribute [local irreducible] cfF tcF isP ofP abF undF beloTo grpF idxP nodesF memB vC okV clientsF hasF bigC wantGo
section
set_option maxRecDepth 100000 in
set_option maxHeartbeats 4000000 in
theorem treeNodes_any (c : CfR) (w : World) (hc : c.Wide w) (hg : Handle w) : Calls Tryd.prog 5 #[.agg (cfV c).toArray] w fun e w' => e = .returned (.bool true) ∧ Below w.heap.size w w' := by
  refine calls_v (n := 201) Tryd.func5 rfl Tryd.ntmps5 [.x (.g [.v (.int .i64 c.dim), .v (.slice c.ps.A c.ps.l.length c.ps.c), .v (.slice c.gs.A c.gs.l.length c.gs.c), .v (.int .i64 c.least), .v (.int .i64 c.term)])] (by simp) (.x (.a (.v (.bool true)))) (fun _ => rfl) ?_
  simp (config := { maxSteps := 1000000 }) only [undef, push_cast, ↓Int.toNat_natCast, ↓Int.cast_ofNat_Int, Int.cast_ofNat_Int, ↓reduceIte, reduceCtorEq, Nat.reduceEqDiff, Nat.reduceLT, Nat.reduceLeDiff, Nat.reduceAdd, Nat.reduceSub, Nat.reduceMul, Int.reduceNeg, Int.reduceLE, Int.reduceLT, Int.reduceToNat, Int.reduceAdd, Int.reduceSub, Int.reduceMul, Int.reduceEq]
  (repeat (refine And.intro (by first | omega | decide) ?_))
  refine callG_rule rfl cb26 rfl (give22K c hc (by simp only [push_cast, ↓Int.toNat_natCast, ↓Int.cast_ofNat_Int, Int.cast_ofNat_Int, ↓reduceIte, reduceCtorEq, Nat.reduceEqDiff, Nat.reduceLT, Nat.reduceLeDiff, Nat.reduceAdd, Nat.reduceSub, Nat.reduceMul, Int.reduceNeg, Int.reduceLE, Int.reduceLT, Int.reduceToNat, Int.reduceAdd, Int.reduceSub, Int.reduceMul, Int.reduceEq])) (dOk_lt rfl) (fun _ => by simp only [push_cast, ↓Int.toNat_natCast, ↓Int.cast_ofNat_Int, Int.cast_ofNat_Int, ↓reduceIte, reduceCtorEq, Nat.reduceEqDiff, Nat.reduceLT, Nat.reduceLeDiff, Nat.reduceAdd, Nat.reduceSub, Nat.reduceMul, Int.reduceNeg, Int.reduceLE, Int.reduceLT, Int.reduceToNat, Int.reduceAdd, Int.reduceSub, Int.reduceMul, Int.reduceEq]) ?_
  simp (config := { maxSteps := 1000000 }) only [undef, push_cast, ↓Int.toNat_natCast, ↓Int.cast_ofNat_Int, Int.cast_ofNat_Int, ↓reduceIte, reduceCtorEq, Nat.reduceEqDiff, Nat.reduceLT, Nat.reduceLeDiff, Nat.reduceAdd, Nat.reduceSub, Nat.reduceMul, Int.reduceNeg, Int.reduceLE, Int.reduceLT, Int.reduceToNat, Int.reduceAdd, Int.reduceSub, Int.reduceMul, Int.reduceEq]
  (repeat (refine And.intro (by first | omega | decide) ?_))
  refine callG_v rfl cb27 rfl (big22K c hc) (dOk_lt rfl) ?_
  have hT := okV_true 1
  have hF := okV_false 1
  cases hb : bigC c.cf with
  | true =>
    simp (config := { maxSteps := 1000000 }) only [undef, push_cast, ↓Int.toNat_natCast, ↓Int.cast_ofNat_Int, Int.cast_ofNat_Int, ↓reduceIte, reduceCtorEq, Nat.reduceEqDiff, Nat.reduceLT, Nat.reduceLeDiff, Nat.reduceAdd, Nat.reduceSub, Nat.reduceMul, Int.reduceNeg, Int.reduceLE, Int.reduceLT, Int.reduceToNat, Int.reduceAdd, Int.reduceSub, Int.reduceMul, Int.reduceEq]
    (repeat (refine And.intro (by first | omega | decide) ?_))
    refine callG_v rfl cb29 rfl (sure22K hg) (dOk_lt rfl) ?_
    simp (config := { maxSteps := 1000000 }) only [undef, push_cast, ↓Int.toNat_natCast, ↓Int.cast_ofNat_Int, Int.cast_ofNat_Int, ↓reduceIte, reduceCtorEq, Nat.reduceEqDiff, Nat.reduceLT, Nat.reduceLeDiff, Nat.reduceAdd, Nat.reduceSub, Nat.reduceMul, Int.reduceNeg, Int.reduceLE, Int.reduceLT, Int.reduceToNat, Int.reduceAdd, Int.reduceSub, Int.reduceMul, Int.reduceEq]
    done
  | false =>
  obtain ⟨b1, b2, b3⟩ := bigC_no hb
  have sc : ∀ (j : Nat) (hp : List Res), hp[j]? = some (.onn 79 3 (.c (vC (c.ps.l.flatMap plV)))) → hp[j + 1]? = some (.abs (GrRep (c.gs.l.map GrR.gr))) → ShowsCf w hp (.x (.g [.v (.int .i64 c.dim), .o j, .o (j + 1), .v (.int .i64 c.least), .v (.int .i64 c.term)])) c.cf := fun j hp h1 h2 => showsCf_built h1 h2 (by have b1 : c.ps.l.length ≤ 30 := b1; omega) (by have b2 : (c.gs.l.map GrR.gr).length ≤ 30 := b2; omega) (fun g hg => by have := b3 g hg; omega)
  simp (config := { maxSteps := 1000000 }) only [undef, push_cast, ↓Int.toNat_natCast, ↓Int.cast_ofNat_Int, Int.cast_ofNat_Int, ↓reduceIte, reduceCtorEq, Nat.reduceEqDiff, Nat.reduceLT, Nat.reduceLeDiff, Nat.reduceAdd, Nat.reduceSub, Nat.reduceMul, Int.reduceNeg, Int.reduceLE, Int.reduceLT, Int.reduceToNat, Int.reduceAdd, Int.reduceSub, Int.reduceMul, Int.reduceEq]
  (repeat (refine And.intro (by first | omega | decide) ?_))
  refine callG_v rfl cb28 rfl (checkCfK (sc 1 _ rfl rfl)) (dOk_lt rfl) ?_
  cases hk : cfF c.cf with
  | false =>
    simp (config := { maxSteps := 1000000 }) only [hF, undef, push_cast, ↓Int.toNat_natCast, ↓Int.cast_ofNat_Int, Int.cast_ofNat_Int, ↓reduceIte, reduceCtorEq, Nat.reduceEqDiff, Nat.reduceLT, Nat.reduceLeDiff, Nat.reduceAdd, Nat.reduceSub, Nat.reduceMul, Int.reduceNeg, Int.reduceLE, Int.reduceLT, Int.reduceToNat, Int.reduceAdd, Int.reduceSub, Int.reduceMul, Int.reduceEq]
    (repeat (refine And.intro (by first | omega | decide) ?_))
    refine callG_v rfl cb29 rfl (sure22K hg) (dOk_lt rfl) ?_
    simp (config := { maxSteps := 1000000 }) only [undef, push_cast, ↓Int.toNat_natCast, ↓Int.cast_ofNat_Int, Int.cast_ofNat_Int, ↓reduceIte, reduceCtorEq, Nat.reduceEqDiff, Nat.reduceLT, Nat.reduceLeDiff, Nat.reduceAdd, Nat.reduceSub, Nat.reduceMul, Int.reduceNeg, Int.reduceLE, Int.reduceLT, Int.reduceToNat, Int.reduceAdd, Int.reduceSub, Int.reduceMul, Int.reduceEq]
    done
  | true =>
  have hst : StOk c.ps.l := cfF_st hk
  simp (config := { maxSteps := 1000000 }) only [hT, undef, push_cast, ↓Int.toNat_natCast, ↓Int.cast_ofNat_Int, Int.cast_ofNat_Int, ↓reduceIte, reduceCtorEq, Nat.reduceEqDiff, Nat.reduceLT, Nat.reduceLeDiff, Nat.reduceAdd, Nat.reduceSub, Nat.reduceMul, Int.reduceNeg, Int.reduceLE, Int.reduceLT, Int.reduceToNat, Int.reduceAdd, Int.reduceSub, Int.reduceMul, Int.reduceEq]
  (repeat (refine And.intro (by first | omega | decide) ?_))
  refine callG_x rfl cb30 rfl (nodesK hk (sc 1 _ rfl rfl) (by simp only [push_cast, ↓Int.toNat_natCast, ↓Int.cast_ofNat_Int, Int.cast_ofNat_Int, ↓reduceIte, reduceCtorEq, Nat.reduceEqDiff, Nat.reduceLT, Nat.reduceLeDiff, Nat.reduceAdd, Nat.reduceSub, Nat.reduceMul, Int.reduceNeg, Int.reduceLE, Int.reduceLT, Int.reduceToNat, Int.reduceAdd, Int.reduceSub, Int.reduceMul, Int.reduceEq])) (dOk_lt rfl) (by simp only [push_cast, ↓Int.toNat_natCast, ↓Int.cast_ofNat_Int, Int.cast_ofNat_Int, ↓reduceIte, reduceCtorEq, Nat.reduceEqDiff, Nat.reduceLT, Nat.reduceLeDiff, Nat.reduceAdd, Nat.reduceSub, Nat.reduceMul, Int.reduceNeg, Int.reduceLE, Int.reduceLT, Int.reduceToNat, Int.reduceAdd, Int.reduceSub, Int.reduceMul, Int.reduceEq]) ?_
  have hN : nodesF c.cf = clientsF c.cf ++ (spotsF c.ps.l).map nodeN := by unfold nodesF; rfl
  have hasc := nodesF_asc (c := c.cf) hst
  have hcl := clients_len c.cf
  have hspl : (spotsF c.ps.l).length ≤ 48 := by
    have h1 := spTo_len hst c.ps.l.length (Nat.le_refl _)
    rw [spTo_all, List.length_map] at h1
    have := hst.most
    omega
  have hNl : (nodesF c.cf).length = (clientsF c.cf).length + (spotsF c.ps.l).length := by rw [hN, List.length_append, List.length_map]
  have hFl : (c.ps.l.flatMap plV).length = c.ps.l.length * 3 := flat_len plV_len _
  have e3 : c.ps.l.length * 3 / 3 = c.ps.l.length := Nat.mul_div_cancel _ (by omega)
  have e4 : (c.ps.l.length : Int) * 3 / 3 = c.ps.l.length := Int.mul_ediv_cancel _ (by decide)
  obtain ⟨N, hNd⟩ : ∃ N, N = nodesF c.cf := ⟨_, rfl⟩
  rw [← hNd] at hN hasc hNl ⊢
  simp (config := { maxSteps := 1000000 }) only [undef, push_cast, ↓Int.toNat_natCast, ↓Int.cast_ofNat_Int, Int.cast_ofNat_Int, ↓reduceIte, reduceCtorEq, Nat.reduceEqDiff, Nat.reduceLT, Nat.reduceLeDiff, Nat.reduceAdd, Nat.reduceSub, Nat.reduceMul, Int.reduceNeg, Int.reduceLE, Int.reduceLT, Int.reduceToNat, Int.reduceAdd, Int.reduceSub, Int.reduceMul, Int.reduceEq]
  refine loop_rule (ι := Nat × Nat × Nat) (fun x => ⟨[(3, .x (.a (.p 0 0))), (4, .x (.a (.o 3))), (6, .x (.a (.v (.int .i64 (x.2.1 : Nat))))), (7, .x (.a (.v (.int .i64 (x.2.2 : Nat))))), (8, .x (.a (.v (.int .i64 (x.1 : Nat)))))], [.blk 65 (.c [.v (.int .i64 c.dim), .o 1, .o 2, .v (.int .i64 c.least), .v (.int .i64 c.term)]), .onn 79 3 (.c (vC (c.ps.l.flatMap plV))), .abs (GrRep (c.gs.l.map GrR.gr)), .own 3 (.i64 N)]⟩) (fun x => x.1 ≤ N.length ∧ x.1 = x.2.1 + x.2.2 ∧ x.2.1 ≤ (clientsF c.cf).length ∧ (x.2.2 = 0 ∨ x.2.1 = (clientsF c.cf).length)) (fun x => N.length - x.1) (0, 0, 0) [3, 1, 2, 4] ⟨Nat.zero_le _, rfl, Nat.zero_le _, .inl rfl⟩ ?_ ?_
  · simp (config := { maxSteps := 1000000 }) only [push_cast, ↓Int.toNat_natCast, ↓Int.cast_ofNat_Int, Int.cast_ofNat_Int, ↓reduceIte, reduceCtorEq, Nat.reduceEqDiff, Nat.reduceLT, Nat.reduceLeDiff, Nat.reduceAdd, Nat.reduceSub, Nat.reduceMul, Int.reduceNeg, Int.reduceLE, Int.reduceLT, Int.reduceToNat, Int.reduceAdd, Int.reduceSub, Int.reduceMul, Int.reduceEq]
  rintro ⟨i, cl, pl⟩ ⟨hi, hip, hcc, hpc⟩
  dsimp only at hi hip hcc hpc
  by_cases hlt : (i : Int) < N.length
  · have hil : i < N.length := by omega
    have i0 : (0 : Int) ≤ i := by omega
    have i1 : -9223372036854775808 ≤ (i : Int) - 1 ∧ (i : Int) - 1 ≤ 9223372036854775807 := by omega
    have nx : (i : Int) + 1 ≤ 9223372036854775807 := by omega
    have hti : ((i : Int) - 1).toNat = i - 1 := by omega
    have hgt : (0 : Int) < i → (0 : Int) ≤ (i : Int) - 1 ∧ (i : Int) - 1 < N.length ∧ ¬ ix N i ≤ ix N (i - 1) := fun h => ⟨by omega, by omega, by have := asc_ix hasc (show i - 1 < i by omega) hil; omega⟩
    by_cases hic : i < (clientsF c.cf).length
    · -- a client
      have hpl : pl = 0 := by omega
      have hx : ix N i ∈ clientsF c.cf := by rw [hN, ix_appL hic]; exact ix_mem hic
      have hx2 := (clientsF_asc c.cf).2 _ hx
      have hh : hasF (clientsF c.cf) (ix N i) = true := by rw [hasF_eq]; exact decide_eq_true ⟨hx2.1, hx2.2, hx⟩
      have b5 : -9223372036854775808 ≤ (cl : Int) + 1 ∧ (cl : Int) + 1 ≤ 9223372036854775807 := by omega
      simp (config := { maxSteps := 1000000 }) only [hlt, i0, undef, push_cast, ↓Int.toNat_natCast, ↓Int.cast_ofNat_Int, Int.cast_ofNat_Int, ↓reduceIte, reduceCtorEq, Nat.reduceEqDiff, Nat.reduceLT, Nat.reduceLeDiff, Nat.reduceAdd, Nat.reduceSub, Nat.reduceMul, Int.reduceNeg, Int.reduceLE, Int.reduceLT, Int.reduceToNat, Int.reduceAdd, Int.reduceSub, Int.reduceMul, Int.reduceEq]
      (repeat (refine And.intro (by first | omega | decide) ?_))
      refine callG_v rfl cb31 rfl (ofCK _ hx2) (dOk_lt rfl) ?_
      simp (config := { maxSteps := 1000000 }) only [undef, push_cast, ↓Int.toNat_natCast, ↓Int.cast_ofNat_Int, Int.cast_ofNat_Int, ↓reduceIte, reduceCtorEq, Nat.reduceEqDiff, Nat.reduceLT, Nat.reduceLeDiff, Nat.reduceAdd, Nat.reduceSub, Nat.reduceMul, Int.reduceNeg, Int.reduceLE, Int.reduceLT, Int.reduceToNat, Int.reduceAdd, Int.reduceSub, Int.reduceMul, Int.reduceEq]
      (repeat (refine And.intro (by first | omega | decide) ?_))
      refine draw_keep (3 :: 4 :: 6 :: 7 :: 8 :: 9 :: 10 :: 11 :: 12 :: 55 :: 56 :: 57 :: 58 :: 59 :: 60 :: 61 :: 62 :: 63 :: 64 :: 65 :: 66 :: 67 :: 68 :: 77 :: 78 :: 79 :: 80 :: 81 :: 82 :: 95 :: 96 :: 97 :: 98 :: 99 :: 100 :: 103 :: 104 :: 107 :: 108 :: 109 :: 110 :: 111 :: 114 :: 115 :: 116 :: 117 :: 118 :: 119 :: 120 :: 121 :: 132 :: 133 :: 134 :: 135 :: 136 :: 137 :: 138 :: 139 :: 140 :: 141 :: 142 :: 143 :: 144 :: 145 :: 146 :: 147 :: 148 :: 149 :: 150 :: 151 :: 152 :: 153 :: 154 :: 155 :: 156 :: 157 :: 158 :: 159 :: 162 :: 163 :: 164 :: 165 :: 166 :: 167 :: 168 :: 194 :: 195 :: 196 :: 199 :: []) ?_
      simp (config := { maxSteps := 1000000 }) only [push_cast, ↓Int.toNat_natCast, ↓Int.cast_ofNat_Int, Int.cast_ofNat_Int, ↓reduceIte, reduceCtorEq, Nat.reduceEqDiff, Nat.reduceLT, Nat.reduceLeDiff, Nat.reduceAdd, Nat.reduceSub, Nat.reduceMul, Int.reduceNeg, Int.reduceLE, Int.reduceLT, Int.reduceToNat, Int.reduceAdd, Int.reduceSub, Int.reduceMul, Int.reduceEq]
      refine draw_rule [(0, true), (1, true), (2, true), (3, true), (4, true), (5, true), (6, true), (7, true), (8, true), (9, true), (10, true), (11, true), (12, true), (13, true), (14, true), (15, true), (16, true), (17, true)] (by kernel_rfl) (by kernel_rfl) rfl (by kernel_rfl) ?_
      by_cases h0 : (0 : Int) < i
      case' pos =>
        obtain ⟨g1, g2, g3⟩ := hgt h0
        simp (config := { maxSteps := 1000000 }) only [hlt, i0, i1, h0, g1, g2, g3, hti, undef, push_cast, ↓Int.toNat_natCast, ↓Int.cast_ofNat_Int, Int.cast_ofNat_Int, ↓reduceIte, reduceCtorEq, Nat.reduceEqDiff, Nat.reduceLT, Nat.reduceLeDiff, Nat.reduceAdd, Nat.reduceSub, Nat.reduceMul, Int.reduceNeg, Int.reduceLE, Int.reduceLT, Int.reduceToNat, Int.reduceAdd, Int.reduceSub, Int.reduceMul, Int.reduceEq]
        refine ⟨by omega, by omega, ?_⟩
      case' neg => simp (config := { maxSteps := 1000000 }) only [hlt, i0, i1, h0, undef, push_cast, ↓Int.toNat_natCast, ↓Int.cast_ofNat_Int, Int.cast_ofNat_Int, ↓reduceIte, reduceCtorEq, Nat.reduceEqDiff, Nat.reduceLT, Nat.reduceLeDiff, Nat.reduceAdd, Nat.reduceSub, Nat.reduceMul, Int.reduceNeg, Int.reduceLE, Int.reduceLT, Int.reduceToNat, Int.reduceAdd, Int.reduceSub, Int.reduceMul, Int.reduceEq]
      all_goals
        refine callG_x rfl cb33 rfl (clientsK (sc 1 _ rfl rfl) (by simp only [push_cast, ↓Int.toNat_natCast, ↓Int.cast_ofNat_Int, Int.cast_ofNat_Int, ↓reduceIte, reduceCtorEq, Nat.reduceEqDiff, Nat.reduceLT, Nat.reduceLeDiff, Nat.reduceAdd, Nat.reduceSub, Nat.reduceMul, Int.reduceNeg, Int.reduceLE, Int.reduceLT, Int.reduceToNat, Int.reduceAdd, Int.reduceSub, Int.reduceMul, Int.reduceEq])) (dOk_lt rfl) (by simp only [push_cast, ↓Int.toNat_natCast, ↓Int.cast_ofNat_Int, Int.cast_ofNat_Int, ↓reduceIte, reduceCtorEq, Nat.reduceEqDiff, Nat.reduceLT, Nat.reduceLeDiff, Nat.reduceAdd, Nat.reduceSub, Nat.reduceMul, Int.reduceNeg, Int.reduceLE, Int.reduceLT, Int.reduceToNat, Int.reduceAdd, Int.reduceSub, Int.reduceMul, Int.reduceEq]) ?_
        simp (config := { maxSteps := 1000000 }) only [undef, push_cast, ↓Int.toNat_natCast, ↓Int.cast_ofNat_Int, Int.cast_ofNat_Int, ↓reduceIte, reduceCtorEq, Nat.reduceEqDiff, Nat.reduceLT, Nat.reduceLeDiff, Nat.reduceAdd, Nat.reduceSub, Nat.reduceMul, Int.reduceNeg, Int.reduceLE, Int.reduceLT, Int.reduceToNat, Int.reduceAdd, Int.reduceSub, Int.reduceMul, Int.reduceEq]
        (repeat (refine And.intro (by first | omega | decide) ?_))
        refine callG_v rfl cb32 rfl (hasK (l := clientsF c.cf) _ (by omega) (shows_own rfl fun _ => rfl)) (dOk_lt rfl) ?_
        rw [hh]
        simp (config := { maxSteps := 1000000 }) only [hlt, i0, b5, nx, undef, push_cast, ↓Int.toNat_natCast, ↓Int.cast_ofNat_Int, Int.cast_ofNat_Int, ↓reduceIte, reduceCtorEq, Nat.reduceEqDiff, Nat.reduceLT, Nat.reduceLeDiff, Nat.reduceAdd, Nat.reduceSub, Nat.reduceMul, Int.reduceNeg, Int.reduceLE, Int.reduceLT, Int.reduceToNat, Int.reduceAdd, Int.reduceSub, Int.reduceMul, Int.reduceEq]
        (repeat (refine And.intro (by first | omega | decide) ?_))
        refine loopK_normal (i + 1, cl + 1, pl) [0, 1, 2, 3] ⟨by show i + 1 ≤ _; omega, by show i + 1 = cl + 1 + pl; omega, by show cl + 1 ≤ _; omega, .inl hpl⟩ (by show N.length - (i + 1) < N.length - i; omega) ?_
        simp (config := { maxSteps := 1000000 }) only [push_cast, ↓Int.toNat_natCast, ↓Int.cast_ofNat_Int, Int.cast_ofNat_Int, ↓reduceIte, reduceCtorEq, Nat.reduceEqDiff, Nat.reduceLT, Nat.reduceLeDiff, Nat.reduceAdd, Nat.reduceSub, Nat.reduceMul, Int.reduceNeg, Int.reduceLE, Int.reduceLT, Int.reduceToNat, Int.reduceAdd, Int.reduceSub, Int.reduceMul, Int.reduceEq]
        done
    · -- a place
      have hcl2 : cl = (clientsF c.cf).length := by omega
      have hj : i - (clientsF c.cf).length < (spotsF c.ps.l).length := by omega
      obtain ⟨p, hp⟩ : ∃ p, p = ix (spotsF c.ps.l) (i - (clientsF c.cf).length) := ⟨_, rfl⟩
      have hpm : p ∈ spotsF c.ps.l := by rw [hp]; exact ix_mem hj
      obtain ⟨p, t⟩ := p
      obtain ⟨hp1, hp2⟩ := spotsF_mem hpm
      dsimp only at hp1 hp2
      have hxi : ix N i = 64 + 4 * (p : Int) + (t : Int) := by
        rw [hN, ix_appR (by omega), ix_map' nodeN _ hj, ← hp]
        rfl
      have hsp := hst.spare p hp1
      have h16 := hst.most
      have p0 : (0 : Int) ≤ p := by omega
      have p1 : (p : Int) < c.ps.l.length := by omega
      have p2 : ¬ (c.ps.l.length : Int) ≤ p := by omega
      have p3 : ¬ (ix c.ps.l p).spare < (t : Int) := by omega
      have p4 : ¬ (p : Int) < 0 := by omega
      have f0 := fun d => plV_get (l := c.ps.l) (p := p) (k := 0) d hp1 rfl
      have f1 := fun d => plV_get (l := c.ps.l) (p := p) (k := 1) d hp1 rfl
      rw [Nat.add_zero] at f0
      have b5 : -9223372036854775808 ≤ (pl : Int) + 1 ∧ (pl : Int) + 1 ≤ 9223372036854775807 := by omega
      have hok := tcF_ok (c := c.cf) (p := (p : Int)) hk p0 p1
      have hof : ofP c.cf (p : Int) (abF c.cf.places ((p : Int).toNat)) = abF c.ps.l p := by unfold ofP; rw [if_pos hok.2]; rfl
      simp (config := { maxSteps := 1000000 }) only [hlt, i0, hxi, undef, push_cast, ↓Int.toNat_natCast, ↓Int.cast_ofNat_Int, Int.cast_ofNat_Int, ↓reduceIte, reduceCtorEq, Nat.reduceEqDiff, Nat.reduceLT, Nat.reduceLeDiff, Nat.reduceAdd, Nat.reduceSub, Nat.reduceMul, Int.reduceNeg, Int.reduceLE, Int.reduceLT, Int.reduceToNat, Int.reduceAdd, Int.reduceSub, Int.reduceMul, Int.reduceEq]
      (repeat (refine And.intro (by first | omega | decide) ?_))
      refine callG_v rfl cb31 rfl (ofPK p t (by omega)) (dOk_lt rfl) ?_
      simp (config := { maxSteps := 1000000 }) only [undef, push_cast, ↓Int.toNat_natCast, ↓Int.cast_ofNat_Int, Int.cast_ofNat_Int, ↓reduceIte, reduceCtorEq, Nat.reduceEqDiff, Nat.reduceLT, Nat.reduceLeDiff, Nat.reduceAdd, Nat.reduceSub, Nat.reduceMul, Int.reduceNeg, Int.reduceLE, Int.reduceLT, Int.reduceToNat, Int.reduceAdd, Int.reduceSub, Int.reduceMul, Int.reduceEq]
      (repeat (refine And.intro (by first | omega | decide) ?_))
      refine draw_keep (3 :: 4 :: 6 :: 7 :: 8 :: 9 :: 10 :: 11 :: 12 :: 55 :: 56 :: 57 :: 58 :: 59 :: 60 :: 61 :: 62 :: 63 :: 64 :: 65 :: 66 :: 67 :: 68 :: 77 :: 78 :: 79 :: 80 :: 81 :: 82 :: 95 :: 96 :: 97 :: 98 :: 99 :: 100 :: 103 :: 104 :: 107 :: 108 :: 109 :: 110 :: 111 :: 114 :: 115 :: 116 :: 117 :: 118 :: 119 :: 120 :: 121 :: 132 :: 133 :: 134 :: 135 :: 136 :: 137 :: 138 :: 139 :: 140 :: 141 :: 142 :: 143 :: 144 :: 145 :: 146 :: 147 :: 148 :: 149 :: 150 :: 151 :: 152 :: 153 :: 154 :: 155 :: 156 :: 157 :: 158 :: 159 :: 162 :: 163 :: 164 :: 165 :: 166 :: 167 :: 168 :: 194 :: 195 :: 196 :: 199 :: []) ?_
      simp (config := { maxSteps := 1000000 }) only [push_cast, ↓Int.toNat_natCast, ↓Int.cast_ofNat_Int, Int.cast_ofNat_Int, ↓reduceIte, reduceCtorEq, Nat.reduceEqDiff, Nat.reduceLT, Nat.reduceLeDiff, Nat.reduceAdd, Nat.reduceSub, Nat.reduceMul, Int.reduceNeg, Int.reduceLE, Int.reduceLT, Int.reduceToNat, Int.reduceAdd, Int.reduceSub, Int.reduceMul, Int.reduceEq]
      refine draw_rule [(0, true), (1, true), (2, true), (3, true), (4, true), (5, true), (6, true), (7, true), (8, true), (9, true), (10, true), (11, true), (12, true), (13, true), (14, true), (15, true), (16, true), (17, true)] (by kernel_rfl) (by kernel_rfl) rfl (by kernel_rfl) ?_
      by_cases h0 : (0 : Int) < i
      case' pos =>
        obtain ⟨g1, g2, g3⟩ := hgt h0
        rw [hxi] at g3
        simp (config := { maxSteps := 1000000 }) only [hlt, i0, i1, h0, g1, g2, g3, hti, hxi, undef, push_cast, ↓Int.toNat_natCast, ↓Int.cast_ofNat_Int, Int.cast_ofNat_Int, ↓reduceIte, reduceCtorEq, Nat.reduceEqDiff, Nat.reduceLT, Nat.reduceLeDiff, Nat.reduceAdd, Nat.reduceSub, Nat.reduceMul, Int.reduceNeg, Int.reduceLE, Int.reduceLT, Int.reduceToNat, Int.reduceAdd, Int.reduceSub, Int.reduceMul, Int.reduceEq]
        refine ⟨by omega, by omega, ?_⟩
      case' neg => simp (config := { maxSteps := 1000000 }) only [hlt, i0, i1, h0, undef, push_cast, ↓Int.toNat_natCast, ↓Int.cast_ofNat_Int, Int.cast_ofNat_Int, ↓reduceIte, reduceCtorEq, Nat.reduceEqDiff, Nat.reduceLT, Nat.reduceLeDiff, Nat.reduceAdd, Nat.reduceSub, Nat.reduceMul, Int.reduceNeg, Int.reduceLE, Int.reduceLT, Int.reduceToNat, Int.reduceAdd, Int.reduceSub, Int.reduceMul, Int.reduceEq]
      all_goals
        refine callG_v rfl cb34 rfl (nodeK p t (by omega)) (dOk_lt rfl) ?_
        simp (config := { maxSteps := 1000000 }) only [hlt, i0, hxi, p0, p1, p2, p3, p4, f0, f1, hFl, e3, e4, undef, push_cast, ↓Int.toNat_natCast, ↓Int.cast_ofNat_Int, Int.cast_ofNat_Int, ↓reduceIte, reduceCtorEq, Nat.reduceEqDiff, Nat.reduceLT, Nat.reduceLeDiff, Nat.reduceAdd, Nat.reduceSub, Nat.reduceMul, Int.reduceNeg, Int.reduceLE, Int.reduceLT, Int.reduceToNat, Int.reduceAdd, Int.reduceSub, Int.reduceMul, Int.reduceEq]
        (repeat (refine And.intro (by first | omega | decide) ?_))
        refine callG_x rfl cb35 rfl (aboveK p (sc 1 _ rfl rfl) (by simp only [push_cast, ↓Int.toNat_natCast, ↓Int.cast_ofNat_Int, Int.cast_ofNat_Int, ↓reduceIte, reduceCtorEq, Nat.reduceEqDiff, Nat.reduceLT, Nat.reduceLeDiff, Nat.reduceAdd, Nat.reduceSub, Nat.reduceMul, Int.reduceNeg, Int.reduceLE, Int.reduceLT, Int.reduceToNat, Int.reduceAdd, Int.reduceSub, Int.reduceMul, Int.reduceEq])) (dOk_lt rfl) (by simp only [push_cast, ↓Int.toNat_natCast, ↓Int.cast_ofNat_Int, Int.cast_ofNat_Int, ↓reduceIte, reduceCtorEq, Nat.reduceEqDiff, Nat.reduceLT, Nat.reduceLeDiff, Nat.reduceAdd, Nat.reduceSub, Nat.reduceMul, Int.reduceNeg, Int.reduceLE, Int.reduceLT, Int.reduceToNat, Int.reduceAdd, Int.reduceSub, Int.reduceMul, Int.reduceEq]) ?_
        rw [hok.1, hof]
        simp (config := { maxSteps := 1000000 }) only [undef, push_cast, ↓Int.toNat_natCast, ↓Int.cast_ofNat_Int, Int.cast_ofNat_Int, ↓reduceIte, reduceCtorEq, Nat.reduceEqDiff, Nat.reduceLT, Nat.reduceLeDiff, Nat.reduceAdd, Nat.reduceSub, Nat.reduceMul, Int.reduceNeg, Int.reduceLE, Int.reduceLT, Int.reduceToNat, Int.reduceAdd, Int.reduceSub, Int.reduceMul, Int.reduceEq]
        (repeat (refine And.intro (by first | omega | decide) ?_))
        refine draw_keep (3 :: 4 :: 6 :: 7 :: 8 :: 10 :: 15 :: 16 :: 55 :: 56 :: 57 :: 58 :: 59 :: 60 :: 61 :: 62 :: 63 :: 64 :: 65 :: 66 :: 67 :: 68 :: 77 :: 78 :: 79 :: 80 :: 81 :: 82 :: 95 :: 96 :: 97 :: 98 :: 99 :: 100 :: 103 :: 104 :: 107 :: 108 :: 109 :: 110 :: 111 :: 114 :: 115 :: 116 :: 117 :: 118 :: 119 :: 120 :: 121 :: 132 :: 133 :: 134 :: 135 :: 136 :: 137 :: 138 :: 139 :: 140 :: 141 :: 142 :: 143 :: 144 :: 145 :: 146 :: 147 :: 148 :: 149 :: 150 :: 151 :: 152 :: 153 :: 154 :: 155 :: 156 :: 157 :: 158 :: 159 :: 162 :: 163 :: 164 :: 165 :: 166 :: 167 :: 168 :: 194 :: 195 :: 196 :: 199 :: []) ?_
        simp (config := { maxSteps := 1000000 }) only [push_cast, ↓Int.toNat_natCast, ↓Int.cast_ofNat_Int, Int.cast_ofNat_Int, ↓reduceIte, reduceCtorEq, Nat.reduceEqDiff, Nat.reduceLT, Nat.reduceLeDiff, Nat.reduceAdd, Nat.reduceSub, Nat.reduceMul, Int.reduceNeg, Int.reduceLE, Int.reduceLT, Int.reduceToNat, Int.reduceAdd, Int.reduceSub, Int.reduceMul, Int.reduceEq]
        refine draw_rule ((0, true) :: (1, true) :: (2, true) :: (3, true) :: (4, true) :: (5, true) :: (6, true) :: (7, true) :: (8, true) :: (9, true) :: (10, true) :: (11, true) :: (12, true) :: (13, true) :: (14, true) :: (15, true) :: (16, true) :: (17, true) :: (18, true) :: (19, true) :: (20, true) :: (21, true) :: (22, true) :: (23, true) :: (24, true) :: (25, true) :: (26, true) :: (27, true) :: (28, true) :: (29, true) :: (30, true) :: (31, true) :: (32, true) :: (33, true) :: (34, true) :: (35, true) :: (36, true) :: (37, true) :: (38, true) :: (39, true) :: (40, true) :: []) (by kernel_rfl) (by kernel_rfl) rfl (by kernel_rfl) ?_
        by_cases hz : p = 0
        case' pos =>
          have hU : abF c.ps.l p = [] := by rw [hz]; exact abF_zero hst
          have z0 : (p : Int) = 0 := by omega
          rw [hU]
          simp (config := { maxSteps := 1000000 }) only [z0, undef, push_cast, ↓Int.toNat_natCast, ↓Int.cast_ofNat_Int, Int.cast_ofNat_Int, ↓reduceIte, reduceCtorEq, Nat.reduceEqDiff, Nat.reduceLT, Nat.reduceLeDiff, Nat.reduceAdd, Nat.reduceSub, Nat.reduceMul, Int.reduceNeg, Int.reduceLE, Int.reduceLT, Int.reduceToNat, Int.reduceAdd, Int.reduceSub, Int.reduceMul, Int.reduceEq]
          (repeat (refine And.intro (by first | omega | decide) ?_))
        case' neg =>
          have hU := abF_succ hst (show 1 ≤ p by omega) hp1
          have hUl := abF_last hst p (by omega) hp1
          have z0 : ¬ (p : Int) = 0 := by omega
          have z1 : (0 : Int) < p := by omega
          have u0 : ix (abF c.ps.l p) 0 = (ix c.ps.l p).parent := by rw [hU]; rfl
          have u1 : 1 ≤ (abF c.ps.l p).length := by rw [hU, List.length_cons]; omega
          have u2 : ix (abF c.ps.l p) ((abF c.ps.l p).length - 1) = 0 := by
            rw [ix, List.getD_eq_getElem?_getD, ← List.getLast?_eq_getElem?, hUl]; rfl
          have u5 : (abF c.ps.l p).length ≤ 100 := by
            rw [abF_up hst hp1]
            have := hst.up p (by omega) hp1
            have := upF_len hst c.ps.l.length (ix c.ps.l p).parent (by omega) (by omega)
            omega
          generalize abF c.ps.l p = U at *
          have u3 : ((U.length : Int) - 1).toNat = U.length - 1 := by omega
          have u4 : ¬ (U.length : Int) = 0 := by omega
          have u6 : (0 : Int) ≤ (U.length : Int) - 1 ∧ (U.length : Int) - 1 < U.length := by omega
          have u7 : (0 : Int) < (U.length : Int) := by omega
          have u8 : -9223372036854775808 ≤ (U.length : Int) - 1 ∧ (U.length : Int) - 1 ≤ 9223372036854775807 := by omega
          simp (config := { maxSteps := 1000000 }) only [z0, z1, u0, u2, u3, u4, u6, u7, u8, p0, p1, f0, f1, hFl, e3, e4, undef, push_cast, ↓Int.toNat_natCast, ↓Int.cast_ofNat_Int, Int.cast_ofNat_Int, ↓reduceIte, reduceCtorEq, Nat.reduceEqDiff, Nat.reduceLT, Nat.reduceLeDiff, Nat.reduceAdd, Nat.reduceSub, Nat.reduceMul, Int.reduceNeg, Int.reduceLE, Int.reduceLT, Int.reduceToNat, Int.reduceAdd, Int.reduceSub, Int.reduceMul, Int.reduceEq]
          (repeat (refine And.intro (by first | omega | decide) ?_))
        all_goals
          refine loopK_normal (i + 1, cl, pl + 1) [0, 1, 2, 3] ⟨by show i + 1 ≤ _; omega, by show i + 1 = cl + (pl + 1); omega, by show cl ≤ _; omega, .inr hcl2⟩ (by show N.length - (i + 1) < N.length - i; omega) ?_
          simp (config := { maxSteps := 1000000 }) only [push_cast, ↓Int.toNat_natCast, ↓Int.cast_ofNat_Int, Int.cast_ofNat_Int, ↓reduceIte, reduceCtorEq, Nat.reduceEqDiff, Nat.reduceLT, Nat.reduceLeDiff, Nat.reduceAdd, Nat.reduceSub, Nat.reduceMul, Int.reduceNeg, Int.reduceLE, Int.reduceLT, Int.reduceToNat, Int.reduceAdd, Int.reduceSub, Int.reduceMul, Int.reduceEq]
          done
  · have hiN : i = N.length := by omega
    have hcl2 : cl = (clientsF c.cf).length := by omega
    have hpl2 : pl = (spotsF c.ps.l).length := by omega
    have h16 := hst.most
    have hw := spots_len hst c.ps.l.length (Nat.le_refl _)
    rw [show (List.range c.ps.l.length).flatMap (stepsF c.ps.l) = spotsF c.ps.l from rfl, ← hpl2] at hw
    have hwb : ∀ k, k ≤ c.ps.l.length → 0 ≤ wantGo c.ps.l k ∧ wantGo c.ps.l k ≤ 3 * k := fun k hk => by
      induction k with
      | zero => unfold wantGo; decide
      | succ k ih =>
        have := ih (by omega)
        have := hst.spare k (by omega)
        unfold wantGo
        omega
    simp (config := { maxSteps := 1000000 }) only [hlt, undef, push_cast, ↓Int.toNat_natCast, ↓Int.cast_ofNat_Int, Int.cast_ofNat_Int, ↓reduceIte, reduceCtorEq, Nat.reduceEqDiff, Nat.reduceLT, Nat.reduceLeDiff, Nat.reduceAdd, Nat.reduceSub, Nat.reduceMul, Int.reduceNeg, Int.reduceLE, Int.reduceLT, Int.reduceToNat, Int.reduceAdd, Int.reduceSub, Int.reduceMul, Int.reduceEq]
    refine loop_rule (ι := Nat) (fun k => ⟨[(3, .x (.a (.p 0 0))), (6, .x (.a (.v (.int .i64 (cl : Nat))))), (7, .x (.a (.v (.int .i64 (pl : Nat))))), (17, .x (.a (.v (.int .i64 (wantGo c.ps.l k))))), (18, .x (.a (.v (.int .i64 k))))], [.blk 65 (.c [.v (.int .i64 c.dim), .o 1, .o 2, .v (.int .i64 c.least), .v (.int .i64 c.term)]), .onn 79 3 (.c (vC (c.ps.l.flatMap plV))), .abs (GrRep (c.gs.l.map GrR.gr))]⟩) (fun k => k ≤ c.ps.l.length) (fun k => c.ps.l.length - k) 0 [0, 1, 2] (Nat.zero_le _) ?_ ?_
    · have e0 : wantGo c.ps.l 0 = 0 := by unfold wantGo; rfl
      simp (config := { maxSteps := 1000000 }) only [e0, push_cast, ↓Int.toNat_natCast, ↓Int.cast_ofNat_Int, Int.cast_ofNat_Int, ↓reduceIte, reduceCtorEq, Nat.reduceEqDiff, Nat.reduceLT, Nat.reduceLeDiff, Nat.reduceAdd, Nat.reduceSub, Nat.reduceMul, Int.reduceNeg, Int.reduceLE, Int.reduceLT, Int.reduceToNat, Int.reduceAdd, Int.reduceSub, Int.reduceMul, Int.reduceEq]
    intro k hk'
    by_cases hlt2 : (k : Int) < c.ps.l.length
    · have hkl : k < c.ps.l.length := by omega
      have i0 : (0 : Int) ≤ k := by omega
      have f1 := fun d => plV_get (l := c.ps.l) (p := k) (k := 1) d hkl rfl
      have hs : wantGo c.ps.l (k + 1) = wantGo c.ps.l k + 1 + (ix c.ps.l k).spare := by rw [wantGo]
      have hb := hwb k (by omega)
      have hsp := hst.spare k hkl
      have nx : (k : Int) + 1 ≤ 9223372036854775807 := by omega
      have w1 : -9223372036854775808 ≤ wantGo c.ps.l k + 1 ∧ wantGo c.ps.l k + 1 ≤ 9223372036854775807 := by omega
      have w2 : -9223372036854775808 ≤ wantGo c.ps.l k + 1 + (ix c.ps.l k).spare ∧ wantGo c.ps.l k + 1 + (ix c.ps.l k).spare ≤ 9223372036854775807 := by omega
      simp (config := { maxSteps := 1000000 }) only [hlt2, i0, f1, hFl, e3, e4, w1, w2, undef, push_cast, ↓Int.toNat_natCast, ↓Int.cast_ofNat_Int, Int.cast_ofNat_Int, ↓reduceIte, reduceCtorEq, Nat.reduceEqDiff, Nat.reduceLT, Nat.reduceLeDiff, Nat.reduceAdd, Nat.reduceSub, Nat.reduceMul, Int.reduceNeg, Int.reduceLE, Int.reduceLT, Int.reduceToNat, Int.reduceAdd, Int.reduceSub, Int.reduceMul, Int.reduceEq]
      (repeat (refine And.intro (by first | omega | decide) ?_))
      refine loopK_normal (k + 1) [0, 1, 2] (by show k + 1 ≤ _; omega) (by show c.ps.l.length - (k + 1) < c.ps.l.length - k; omega) ?_
      simp (config := { maxSteps := 1000000 }) only [hs, push_cast, ↓Int.toNat_natCast, ↓Int.cast_ofNat_Int, Int.cast_ofNat_Int, ↓reduceIte, reduceCtorEq, Nat.reduceEqDiff, Nat.reduceLT, Nat.reduceLeDiff, Nat.reduceAdd, Nat.reduceSub, Nat.reduceMul, Int.reduceNeg, Int.reduceLE, Int.reduceLT, Int.reduceToNat, Int.reduceAdd, Int.reduceSub, Int.reduceMul, Int.reduceEq]
      done
    · obtain rfl : k = c.ps.l.length := by omega
      simp (config := { maxSteps := 1000000 }) only [hlt2, hFl, e3, e4, undef, push_cast, ↓Int.toNat_natCast, ↓Int.cast_ofNat_Int, Int.cast_ofNat_Int, ↓reduceIte, reduceCtorEq, Nat.reduceEqDiff, Nat.reduceLT, Nat.reduceLeDiff, Nat.reduceAdd, Nat.reduceSub, Nat.reduceMul, Int.reduceNeg, Int.reduceLE, Int.reduceLT, Int.reduceToNat, Int.reduceAdd, Int.reduceSub, Int.reduceMul, Int.reduceEq]
      (repeat (refine And.intro (by first | omega | decide) ?_))
      refine callG_x rfl cb33 rfl (clientsK (sc 1 _ rfl rfl) (by simp only [push_cast, ↓Int.toNat_natCast, ↓Int.cast_ofNat_Int, Int.cast_ofNat_Int, ↓reduceIte, reduceCtorEq, Nat.reduceEqDiff, Nat.reduceLT, Nat.reduceLeDiff, Nat.reduceAdd, Nat.reduceSub, Nat.reduceMul, Int.reduceNeg, Int.reduceLE, Int.reduceLT, Int.reduceToNat, Int.reduceAdd, Int.reduceSub, Int.reduceMul, Int.reduceEq])) (dOk_lt rfl) (by simp only [push_cast, ↓Int.toNat_natCast, ↓Int.cast_ofNat_Int, Int.cast_ofNat_Int, ↓reduceIte, reduceCtorEq, Nat.reduceEqDiff, Nat.reduceLT, Nat.reduceLeDiff, Nat.reduceAdd, Nat.reduceSub, Nat.reduceMul, Int.reduceNeg, Int.reduceLE, Int.reduceLT, Int.reduceToNat, Int.reduceAdd, Int.reduceSub, Int.reduceMul, Int.reduceEq]) ?_
      have z1 : (cl : Int) = (clientsF c.cf).length := by omega
      simp (config := { maxSteps := 1000000 }) only [z1, hw, undef, push_cast, ↓Int.toNat_natCast, ↓Int.cast_ofNat_Int, Int.cast_ofNat_Int, ↓reduceIte, reduceCtorEq, Nat.reduceEqDiff, Nat.reduceLT, Nat.reduceLeDiff, Nat.reduceAdd, Nat.reduceSub, Nat.reduceMul, Int.reduceNeg, Int.reduceLE, Int.reduceLT, Int.reduceToNat, Int.reduceAdd, Int.reduceSub, Int.reduceMul, Int.reduceEq]
      (repeat (refine And.intro (by first | omega | decide) ?_))
      refine callG_v rfl cb29 rfl (sure22K hg) (dOk_lt rfl) ?_
      simp (config := { maxSteps := 1000000 }) only [undef, push_cast, ↓Int.toNat_natCast, ↓Int.cast_ofNat_Int, Int.cast_ofNat_Int, ↓reduceIte, reduceCtorEq, Nat.reduceEqDiff, Nat.reduceLT, Nat.reduceLeDiff, Nat.reduceAdd, Nat.reduceSub, Nat.reduceMul, Int.reduceNeg, Int.reduceLE, Int.reduceLT, Int.reduceToNat, Int.reduceAdd, Int.reduceSub, Int.reduceMul, Int.reduceEq]
      done
end
end Go.Proofs.YtiaeollemmkclaaDoor
