/- Chapter 25's opening, by the document (caucusref25); what Box and Open answer, for who calls them. -/
import Derived.Test.YteiifdpikcnbgaaDoorEsF
namespace Go.Proofs.YteiifdpikcnbgaaDoor
open Go.RowKit
set_option linter.unusedSimpArgs false
attribute [local irreducible] Callable CallOK CallG CallM DrawG LoopG symR symM
attribute [local irreducible] may isP bxErr bxOut bxOk bxTo bxV addU subU polyU powU hidU atU eopErr eopX eopY eopOk
set_option maxRecDepth 100000 in
set_option maxHeartbeats 8000000 in
theorem ropen25_any (me gen : Int) (key : UInt64) (from_ : Pr) (t0 t1 : UInt64) (w : World) :
    Calls Tryd.prog 31 (List.map (Sv.val []) [.x (.a (.v (.int .i64 me))), .x (.a (.v (.int .i64 gen))), .x (.a (.v (vU64 key))), .x (.g [.v (.int .i64 from_.1), .v (vU64 from_.2)]), .x (.a64 [t0, t1])]).toArray w fun e w' => e = .returned (.tuple #[.agg (eopL me gen key from_ t0 t1).toArray, .bool (eopOk me gen from_ t0 t1)]) ∧ Below w.heap.size w w' := by
  obtain ⟨id, pu⟩ := from_
  refine calls_v (n := 72) Tryd.func31 rfl Tryd.ntmps31 [.x (.a (.v (.int .i64 me))), .x (.a (.v (.int .i64 gen))), .x (.a (.v (vU64 key))), .x (.g [.v (.int .i64 id), .v (vU64 pu)]), .x (.a64 [t0, t1])] (by simp) (.t [.g [.v (vU64 (eopX me gen (id, pu) t0 t1)), .v (vU64 (eopY me gen key (id, pu) t0 t1 t0 0)), .v (vU64 (eopX me gen (id, pu) t0 t1)), .v (vU64 (eopY me gen key (id, pu) t0 t1 t1 1))], .a (.v (.bool (eopOk me gen (id, pu) t0 t1)))]) (fun _ => rfl) ?_
  have no : ¬ eopOk me gen (id, pu) t0 t1 = true → eopOk me gen (id, pu) t0 t1 = false ∧ eopX me gen (id, pu) t0 t1 = 0 ∧ ∀ t i, eopY me gen key (id, pu) t0 t1 t i = 0 := fun h => ⟨by simpa using h, (eop_no h key).2⟩
  have hlit : (2305843009213693951 : UInt64) = fpP := rfl
  have hx0 : ix [t0, t1] 0 = t0 := rfl
  have hx1 : ix [t0, t1] 1 = t1 := rfl
  simp (config := { maxSteps := 1000000 }) only [undef, push_cast, ↓Int.toNat_natCast, ↓Int.cast_ofNat_Int, Int.cast_ofNat_Int, ↓reduceIte, reduceCtorEq, Nat.reduceEqDiff, Nat.reduceLT, Nat.reduceLeDiff, Nat.reduceAdd, Nat.reduceSub, Nat.reduceMul, Int.reduceNeg, Int.reduceLE, Int.reduceLT, Int.reduceToNat, Int.reduceAdd, Int.reduceSub, Int.reduceMul, Int.reduceEq]
  (repeat (refine And.intro (by first | omega | decide) ?_))
  refine callG_v rfl cb60 rfl (may09OK (l := [(id, pu)]) (Nat.le_add_left 1 999999) (showsR_onn rfl (fun _ => rfl) rfl)) (dOk_lt rfl) ?_
  cases hm : may [(id, pu)]
  · obtain ⟨n1, n2, n3⟩ := no fun h => by rw [(eopOk_spec.1 h).1] at hm; cases hm
    simp (config := { maxSteps := 1000000 }) only [n1, n2, n3, vz0, undef, push_cast, ↓Int.toNat_natCast, ↓Int.cast_ofNat_Int, Int.cast_ofNat_Int, ↓reduceIte, reduceCtorEq, Nat.reduceEqDiff, Nat.reduceLT, Nat.reduceLeDiff, Nat.reduceAdd, Nat.reduceSub, Nat.reduceMul, Int.reduceNeg, Int.reduceLE, Int.reduceLT, Int.reduceToNat, Int.reduceAdd, Int.reduceSub, Int.reduceMul, Int.reduceEq]
  by_cases g1 : me < 0
  · obtain ⟨n1, n2, n3⟩ := no fun h => by have := eopOk_spec.1 h; omega
    simp (config := { maxSteps := 1000000 }) only [g1, n1, n2, n3, vz0, undef, push_cast, ↓Int.toNat_natCast, ↓Int.cast_ofNat_Int, Int.cast_ofNat_Int, ↓reduceIte, reduceCtorEq, Nat.reduceEqDiff, Nat.reduceLT, Nat.reduceLeDiff, Nat.reduceAdd, Nat.reduceSub, Nat.reduceMul, Int.reduceNeg, Int.reduceLE, Int.reduceLT, Int.reduceToNat, Int.reduceAdd, Int.reduceSub, Int.reduceMul, Int.reduceEq]
  by_cases g2 : 63 < me
  · obtain ⟨n1, n2, n3⟩ := no fun h => by have := eopOk_spec.1 h; omega
    simp (config := { maxSteps := 1000000 }) only [g1, g2, n1, n2, n3, vz0, undef, push_cast, ↓Int.toNat_natCast, ↓Int.cast_ofNat_Int, Int.cast_ofNat_Int, ↓reduceIte, reduceCtorEq, Nat.reduceEqDiff, Nat.reduceLT, Nat.reduceLeDiff, Nat.reduceAdd, Nat.reduceSub, Nat.reduceMul, Int.reduceNeg, Int.reduceLE, Int.reduceLT, Int.reduceToNat, Int.reduceAdd, Int.reduceSub, Int.reduceMul, Int.reduceEq]
  by_cases g3 : gen < 1
  · obtain ⟨n1, n2, n3⟩ := no fun h => by have := eopOk_spec.1 h; omega
    simp (config := { maxSteps := 1000000 }) only [g1, g2, g3, n1, n2, n3, vz0, undef, push_cast, ↓Int.toNat_natCast, ↓Int.cast_ofNat_Int, Int.cast_ofNat_Int, ↓reduceIte, reduceCtorEq, Nat.reduceEqDiff, Nat.reduceLT, Nat.reduceLeDiff, Nat.reduceAdd, Nat.reduceSub, Nat.reduceMul, Int.reduceNeg, Int.reduceLE, Int.reduceLT, Int.reduceToNat, Int.reduceAdd, Int.reduceSub, Int.reduceMul, Int.reduceEq]
  by_cases g4 : 1073741824 < gen
  · obtain ⟨n1, n2, n3⟩ := no fun h => by have := eopOk_spec.1 h; omega
    simp (config := { maxSteps := 1000000 }) only [g1, g2, g3, g4, n1, n2, n3, vz0, undef, push_cast, ↓Int.toNat_natCast, ↓Int.cast_ofNat_Int, Int.cast_ofNat_Int, ↓reduceIte, reduceCtorEq, Nat.reduceEqDiff, Nat.reduceLT, Nat.reduceLeDiff, Nat.reduceAdd, Nat.reduceSub, Nat.reduceMul, Int.reduceNeg, Int.reduceLE, Int.reduceLT, Int.reduceToNat, Int.reduceAdd, Int.reduceSub, Int.reduceMul, Int.reduceEq]
  by_cases g5 : fpP ≤ t0
  · obtain ⟨n1, n2, n3⟩ := no fun h => (eopOk_spec.1 h).2.2.2.2.2.1 g5
    simp (config := { maxSteps := 1000000 }) only [g1, g2, g3, g4, hx0, hx1, hlit, g5, n1, n2, n3, vz0, undef, push_cast, ↓Int.toNat_natCast, ↓Int.cast_ofNat_Int, Int.cast_ofNat_Int, ↓reduceIte, reduceCtorEq, Nat.reduceEqDiff, Nat.reduceLT, Nat.reduceLeDiff, Nat.reduceAdd, Nat.reduceSub, Nat.reduceMul, Int.reduceNeg, Int.reduceLE, Int.reduceLT, Int.reduceToNat, Int.reduceAdd, Int.reduceSub, Int.reduceMul, Int.reduceEq]
  by_cases g6 : fpP ≤ t1
  · obtain ⟨n1, n2, n3⟩ := no fun h => (eopOk_spec.1 h).2.2.2.2.2.2 g6
    simp (config := { maxSteps := 1000000 }) only [g1, g2, g3, g4, hx0, hx1, hlit, g5, g6, n1, n2, n3, vz0, undef, push_cast, ↓Int.toNat_natCast, ↓Int.cast_ofNat_Int, Int.cast_ofNat_Int, ↓reduceIte, reduceCtorEq, Nat.reduceEqDiff, Nat.reduceLT, Nat.reduceLeDiff, Nat.reduceAdd, Nat.reduceSub, Nat.reduceMul, Int.reduceNeg, Int.reduceLE, Int.reduceLT, Int.reduceToNat, Int.reduceAdd, Int.reduceSub, Int.reduceMul, Int.reduceEq]
  have n1 : eopOk me gen (id, pu) t0 t1 = true := eopOk_spec.2 ⟨hm, by omega, by omega, by omega, by omega, g5, g6⟩
  obtain ⟨_, n2, n3⟩ := eop_yes (me := me) (gen := gen) (p := (id, pu)) (t0 := t0) (t1 := t1) n1 key
  obtain ⟨m, rfl⟩ : ∃ m : Nat, me = m := ⟨me.toNat, by omega⟩
  obtain ⟨g, rfl⟩ : ∃ g : Nat, gen = g := ⟨gen.toNat, by omega⟩
  obtain ⟨d, hd, hd64⟩ := may_id hm (i := 0) (Nat.zero_lt_succ 0)
  have hd : id = (d : Int) := hd
  subst hd
  have hm64 : m < 64 := by omega
  have hat : UInt64.ofInt (m : Int) + 1 = atU m := by unfold atU; rfl
  simp only [Int.toNat_natCast] at n3
  simp (config := { maxSteps := 1000000 }) only [g1, g2, g3, g4, hx0, hx1, hlit, g5, g6, undef, push_cast, ↓Int.toNat_natCast, ↓Int.cast_ofNat_Int, Int.cast_ofNat_Int, ↓reduceIte, reduceCtorEq, Nat.reduceEqDiff, Nat.reduceLT, Nat.reduceLeDiff, Nat.reduceAdd, Nat.reduceSub, Nat.reduceMul, Int.reduceNeg, Int.reduceLE, Int.reduceLT, Int.reduceToNat, Int.reduceAdd, Int.reduceSub, Int.reduceMul, Int.reduceEq]
  (repeat (refine And.intro (by first | omega | decide) ?_))
  refine callG_v rfl cb74 rfl (refPowK _ _) (dOk_lt rfl) ?_
  simp (config := { maxSteps := 1000000 }) only [undef, push_cast, ↓Int.toNat_natCast, ↓Int.cast_ofNat_Int, Int.cast_ofNat_Int, ↓reduceIte, reduceCtorEq, Nat.reduceEqDiff, Nat.reduceLT, Nat.reduceLeDiff, Nat.reduceAdd, Nat.reduceSub, Nat.reduceMul, Int.reduceNeg, Int.reduceLE, Int.reduceLT, Int.reduceToNat, Int.reduceAdd, Int.reduceSub, Int.reduceMul, Int.reduceEq]
  (repeat (refine And.intro (by first | omega | decide) ?_))
  generalize hq0 : hidU (powU pu key) d m g 0 = h0 at *
  generalize hq1 : hidU (powU pu key) d m g 1 = h1 at *
  refine loop_rule (ι := Nat) (fun i => ⟨[(0, .x (.a (.v (.int .i64 m)))), (1, .x (.a (.v (.int .i64 g)))), (8, .x (.a (.p 0 0))), (9, .x (.a (.p 1 0))), (10, .x (.a (.p 2 0))), (12, .x (.a (.v (vU64 (powU pu key))))), (13, .x (.a (.p 3 0))), (14, .x (.a (.v (.int .i64 i))))],
    [.blk 65 (.c [.v (.int .i64 d), .v (vU64 pu)]), .blk 66 (.u64 [t0, t1]), .blk 81 (.c [.v (.int .u64 0), .v (.int .u64 0), .v (.int .u64 0), .v (.int .u64 0)]), .blk 81 (.c (eopTo (atU m) (subU t0 h0) (subU t1 h1) i))]⟩) (fun i => i ≤ 2) (fun i => 2 - i) 0 [0, 1, 2, 4] (by omega) ?_ ?_
  · simp (config := { maxSteps := 1000000 }) only [eopTo, push_cast, ↓Int.toNat_natCast, ↓Int.cast_ofNat_Int, Int.cast_ofNat_Int, ↓reduceIte, reduceCtorEq, Nat.reduceEqDiff, Nat.reduceLT, Nat.reduceLeDiff, Nat.reduceAdd, Nat.reduceSub, Nat.reduceMul, Int.reduceNeg, Int.reduceLE, Int.reduceLT, Int.reduceToNat, Int.reduceAdd, Int.reduceSub, Int.reduceMul, Int.reduceEq]
  · intro i hi
    match i, hi with
    | 0, _ =>
      simp (config := { maxSteps := 1000000 }) only [eopTo, undef, push_cast, ↓Int.toNat_natCast, ↓Int.cast_ofNat_Int, Int.cast_ofNat_Int, ↓reduceIte, reduceCtorEq, Nat.reduceEqDiff, Nat.reduceLT, Nat.reduceLeDiff, Nat.reduceAdd, Nat.reduceSub, Nat.reduceMul, Int.reduceNeg, Int.reduceLE, Int.reduceLT, Int.reduceToNat, Int.reduceAdd, Int.reduceSub, Int.reduceMul, Int.reduceEq]
      (repeat (refine And.intro (by first | omega | decide) ?_))
      refine drawK_rule [3] [(0, true), (1, true), (2, true), (3, true), (4, true), (5, true), (6, true), (7, true), (8, true), (9, true), (10, true), (11, true), (12, true), (13, false), (14, false), (15, true), (16, true), (17, false)] (by kernel_rfl) (by kernel_rfl) rfl (by kernel_rfl) ?_
      simp (config := { maxSteps := 1000000 }) only [eopTo, hx0, hx1, hat, undef, push_cast, ↓Int.toNat_natCast, ↓Int.cast_ofNat_Int, Int.cast_ofNat_Int, ↓reduceIte, reduceCtorEq, Nat.reduceEqDiff, Nat.reduceLT, Nat.reduceLeDiff, Nat.reduceAdd, Nat.reduceSub, Nat.reduceMul, Int.reduceNeg, Int.reduceLE, Int.reduceLT, Int.reduceToNat, Int.reduceAdd, Int.reduceSub, Int.reduceMul, Int.reduceEq]
      (repeat (refine And.intro (by first | omega | decide) ?_))
      refine callK_v rfl cb76 rfl (padOK (powU pu key) d m g 0 hd64 hm64 (by omega)) (dOk_lt rfl) ?_
      simp (config := { maxSteps := 1000000 }) only [eopTo, hx0, hx1, hat, hq0, hq1, undef, push_cast, ↓Int.toNat_natCast, ↓Int.cast_ofNat_Int, Int.cast_ofNat_Int, ↓reduceIte, reduceCtorEq, Nat.reduceEqDiff, Nat.reduceLT, Nat.reduceLeDiff, Nat.reduceAdd, Nat.reduceSub, Nat.reduceMul, Int.reduceNeg, Int.reduceLE, Int.reduceLT, Int.reduceToNat, Int.reduceAdd, Int.reduceSub, Int.reduceMul, Int.reduceEq]
      (repeat (refine And.intro (by first | omega | decide) ?_))
      refine callK_v rfl cb78 rfl (rSubK _ _) (dOk_lt rfl) ?_
      simp (config := { maxSteps := 1000000 }) only [eopTo, hx0, hx1, hat, undef, push_cast, ↓Int.toNat_natCast, ↓Int.cast_ofNat_Int, Int.cast_ofNat_Int, ↓reduceIte, reduceCtorEq, Nat.reduceEqDiff, Nat.reduceLT, Nat.reduceLeDiff, Nat.reduceAdd, Nat.reduceSub, Nat.reduceMul, Int.reduceNeg, Int.reduceLE, Int.reduceLT, Int.reduceToNat, Int.reduceAdd, Int.reduceSub, Int.reduceMul, Int.reduceEq]
      (repeat (refine And.intro (by first | omega | decide) ?_))
      refine loopK_normal 1 [0, 1, 2, 3] (by omega) (by omega) ?_
      simp (config := { maxSteps := 1000000 }) only [eopTo, push_cast, ↓Int.toNat_natCast, ↓Int.cast_ofNat_Int, Int.cast_ofNat_Int, ↓reduceIte, reduceCtorEq, Nat.reduceEqDiff, Nat.reduceLT, Nat.reduceLeDiff, Nat.reduceAdd, Nat.reduceSub, Nat.reduceMul, Int.reduceNeg, Int.reduceLE, Int.reduceLT, Int.reduceToNat, Int.reduceAdd, Int.reduceSub, Int.reduceMul, Int.reduceEq]
    | 1, _ =>
      simp (config := { maxSteps := 1000000 }) only [eopTo, undef, push_cast, ↓Int.toNat_natCast, ↓Int.cast_ofNat_Int, Int.cast_ofNat_Int, ↓reduceIte, reduceCtorEq, Nat.reduceEqDiff, Nat.reduceLT, Nat.reduceLeDiff, Nat.reduceAdd, Nat.reduceSub, Nat.reduceMul, Int.reduceNeg, Int.reduceLE, Int.reduceLT, Int.reduceToNat, Int.reduceAdd, Int.reduceSub, Int.reduceMul, Int.reduceEq]
      (repeat (refine And.intro (by first | omega | decide) ?_))
      refine drawK_rule [3] [(0, true), (1, true), (2, true), (3, true), (4, true), (5, true), (6, true), (7, true), (8, true), (9, true), (10, true), (11, true), (12, true), (13, false), (14, false), (15, true), (16, true), (17, false)] (by kernel_rfl) (by kernel_rfl) rfl (by kernel_rfl) ?_
      simp (config := { maxSteps := 1000000 }) only [eopTo, hx0, hx1, hat, undef, push_cast, ↓Int.toNat_natCast, ↓Int.cast_ofNat_Int, Int.cast_ofNat_Int, ↓reduceIte, reduceCtorEq, Nat.reduceEqDiff, Nat.reduceLT, Nat.reduceLeDiff, Nat.reduceAdd, Nat.reduceSub, Nat.reduceMul, Int.reduceNeg, Int.reduceLE, Int.reduceLT, Int.reduceToNat, Int.reduceAdd, Int.reduceSub, Int.reduceMul, Int.reduceEq]
      (repeat (refine And.intro (by first | omega | decide) ?_))
      refine callK_v rfl cb76 rfl (padOK (powU pu key) d m g 1 hd64 hm64 (by omega)) (dOk_lt rfl) ?_
      simp (config := { maxSteps := 1000000 }) only [eopTo, hx0, hx1, hat, hq0, hq1, undef, push_cast, ↓Int.toNat_natCast, ↓Int.cast_ofNat_Int, Int.cast_ofNat_Int, ↓reduceIte, reduceCtorEq, Nat.reduceEqDiff, Nat.reduceLT, Nat.reduceLeDiff, Nat.reduceAdd, Nat.reduceSub, Nat.reduceMul, Int.reduceNeg, Int.reduceLE, Int.reduceLT, Int.reduceToNat, Int.reduceAdd, Int.reduceSub, Int.reduceMul, Int.reduceEq]
      (repeat (refine And.intro (by first | omega | decide) ?_))
      refine callK_v rfl cb78 rfl (rSubK _ _) (dOk_lt rfl) ?_
      simp (config := { maxSteps := 1000000 }) only [eopTo, hx0, hx1, hat, undef, push_cast, ↓Int.toNat_natCast, ↓Int.cast_ofNat_Int, Int.cast_ofNat_Int, ↓reduceIte, reduceCtorEq, Nat.reduceEqDiff, Nat.reduceLT, Nat.reduceLeDiff, Nat.reduceAdd, Nat.reduceSub, Nat.reduceMul, Int.reduceNeg, Int.reduceLE, Int.reduceLT, Int.reduceToNat, Int.reduceAdd, Int.reduceSub, Int.reduceMul, Int.reduceEq]
      (repeat (refine And.intro (by first | omega | decide) ?_))
      refine loopK_normal 2 [0, 1, 2, 3] (by omega) (by omega) ?_
      simp (config := { maxSteps := 1000000 }) only [eopTo, push_cast, ↓Int.toNat_natCast, ↓Int.cast_ofNat_Int, Int.cast_ofNat_Int, ↓reduceIte, reduceCtorEq, Nat.reduceEqDiff, Nat.reduceLT, Nat.reduceLeDiff, Nat.reduceAdd, Nat.reduceSub, Nat.reduceMul, Int.reduceNeg, Int.reduceLE, Int.reduceLT, Int.reduceToNat, Int.reduceAdd, Int.reduceSub, Int.reduceMul, Int.reduceEq]
    | 2, _ => simp (config := { maxSteps := 1000000 }) only [eopTo, n1, n2, n3, hq0, hq1, undef, push_cast, ↓Int.toNat_natCast, ↓Int.cast_ofNat_Int, Int.cast_ofNat_Int, ↓reduceIte, reduceCtorEq, Nat.reduceEqDiff, Nat.reduceLT, Nat.reduceLeDiff, Nat.reduceAdd, Nat.reduceSub, Nat.reduceMul, Int.reduceNeg, Int.reduceLE, Int.reduceLT, Int.reduceToNat, Int.reduceAdd, Int.reduceSub, Int.reduceMul, Int.reduceEq]
/-! ### For who calls them -/
theorem boxOK25 {w0 : World} {hp : List Res} {x1 x2 : At} {s5 : Sv} {of an : List UInt64} {l : List Pr} (me gen need : Int) (self key : UInt64) (hl : l.length ≤ 1000) (h2l : of.length ≤ 1000) (h3l : an.length ≤ 1000)
    (h1 : Shows w0 No hp (.x (.a x1)) (of.map vU64)) (h2 : Shows w0 No hp (.x (.a x2)) (an.map vU64)) (h5 : ShowsR w0 No hp s5 l.length (pvs l)) (hk : LaidK 2 w0) (hw : TabW w0) (hbr : ∀ r ∈ hp, Res.bnd hp.length r) :
    CallOK Tryd.prog w0 No 26 [.x (.a (.v (.int .i64 me))), .x (.a (.v (.int .i64 gen))), .x (.g [.v (vU64 self), .v (vU64 key), x1, x2]), .x (.a (.v (.int .i64 need))), s5] hp (.t [.a (.o hp.length), .a (.v (bxErr me gen need key of.length an.length l))]) (hp ++ [.own 23 (.u64 (bxOut me gen need self key of an l))]) := callOK_own2 hbr trivial fun γ w hS => by
  obtain ⟨A2, c2, e2, b2, r2⟩ := h1 γ w hS
  obtain ⟨A3, c3, e3, b3, r3⟩ := h2 γ w hS
  obtain ⟨A, c, e1, b1, r1⟩ := h5 γ w hS
  rw [List.length_map] at e2 b2 e3 b3
  have e2 : x1.val γ = .slice A2 of.length c2 := e2
  have e3 : x2.val γ = .slice A3 an.length c3 := e3
  show Calls _ _ #[.int .i64 me, .int .i64 gen, .agg #[vU64 self, vU64 key, x1.val γ, x2.val γ], .int .i64 need, s5.val γ] w _
  rw [e1, e2, e3]
  exact box_any me gen need self key of an l A c A2 c2 A3 c3 w hl h2l h3l b1 b2 b3 r1 r2 r3 (laid_later hk hS) (hw.later hS)
theorem rboxOK25 {w0 : World} {hp : List Res} {x1 x2 : At} {s5 : Sv} {of an : List UInt64} {l : List Pr} (me gen need : Int) (self key : UInt64) (hl : l.length ≤ 1000) (h2l : of.length ≤ 1000) (h3l : an.length ≤ 1000)
    (h1 : Shows w0 No hp (.x (.a x1)) (of.map vU64)) (h2 : Shows w0 No hp (.x (.a x2)) (an.map vU64)) (h5 : ShowsR w0 No hp s5 l.length (pvs l)) (hbr : ∀ r ∈ hp, Res.bnd hp.length r) :
    CallOK Tryd.prog w0 No 29 [.x (.a (.v (.int .i64 me))), .x (.a (.v (.int .i64 gen))), .x (.g [.v (vU64 self), .v (vU64 key), x1, x2]), .x (.a (.v (.int .i64 need))), s5] hp (.t [.a (.o hp.length), .a (.v (.bool (bxOk me gen need key of.length an.length l)))]) (hp ++ [.own 23 (.u64 (bxOut me gen need self key of an l))]) := callOK_own2 hbr trivial fun γ w hS => by
  obtain ⟨A2, c2, e2, b2, r2⟩ := h1 γ w hS
  obtain ⟨A3, c3, e3, b3, r3⟩ := h2 γ w hS
  obtain ⟨A, c, e1, b1, r1⟩ := h5 γ w hS
  rw [List.length_map] at e2 b2 e3 b3
  have e2 : x1.val γ = .slice A2 of.length c2 := e2
  have e3 : x2.val γ = .slice A3 an.length c3 := e3
  show Calls _ _ #[.int .i64 me, .int .i64 gen, .agg #[vU64 self, vU64 key, x1.val γ, x2.val γ], .int .i64 need, s5.val γ] w _
  rw [e1, e2, e3]
  exact rbox_any me gen need self key of an l A c A2 c2 A3 c3 w hl h2l h3l b1 b2 b3 r1 r2 r3
theorem openOK25 {w0 : World} {hp : List Res} (me gen : Int) (key : UInt64) (from_ : Pr) (t0 t1 : UInt64) (hk : LaidK 2 w0) (hw : TabW w0) :
    CallOK Tryd.prog w0 No 30 [.x (.a (.v (.int .i64 me))), .x (.a (.v (.int .i64 gen))), .x (.a (.v (vU64 key))), .x (.g [.v (.int .i64 from_.1), .v (vU64 from_.2)]), .x (.a64 [t0, t1])] hp (.t [.g [.v (vU64 (eopX me gen from_ t0 t1)), .v (vU64 (eopY me gen key from_ t0 t1 t0 0)), .v (vU64 (eopX me gen from_ t0 t1)), .v (vU64 (eopY me gen key from_ t0 t1 t1 1))], .a (.v (eopErr me gen from_ t0 t1))]) hp := callOK_v fun _ w hS => open25_any me gen key from_ t0 t1 w (laid_later hk hS) (hw.later hS)
theorem ropenOK25 {w0 : World} {ow : Nat → Prop} {hp : List Res} (me gen : Int) (key : UInt64) (from_ : Pr) (t0 t1 : UInt64) :
    CallOK Tryd.prog w0 ow 31 [.x (.a (.v (.int .i64 me))), .x (.a (.v (.int .i64 gen))), .x (.a (.v (vU64 key))), .x (.g [.v (.int .i64 from_.1), .v (vU64 from_.2)]), .x (.a64 [t0, t1])] hp (.t [.g [.v (vU64 (eopX me gen from_ t0 t1)), .v (vU64 (eopY me gen key from_ t0 t1 t0 0)), .v (vU64 (eopX me gen from_ t0 t1)), .v (vU64 (eopY me gen key from_ t0 t1 t1 1))], .a (.v (.bool (eopOk me gen from_ t0 t1)))]) hp := callOK_v fun _ w _ => ropen25_any me gen key from_ t0 t1 w
end Go.Proofs.YteiifdpikcnbgaaDoor
