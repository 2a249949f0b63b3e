import Derived.Test.YtombphphaoeeiaaGreatDoorSr3
import Derived.Test.YtombphphaoeeiaaGreatDoorEsA
import Derived.Test.YtombphphaoeeiaaGreatDoorSr0
/- The secrets of a group (strip's Secrets): seeds and keys, whatever order its gifts come in. -/
namespace Go.Proofs.YtombphphaoeeiaaGreatDoor
open Go.RowKit
set_option linter.unusedSimpArgs false
set_option linter.unusedVariables false
attribute [local irreducible] Callable CallOK CallG CallM DrawG LoopG symR symM
attribute [local irreducible] okV
theorem mayBeK {w0 : World} {hp : List Res} {sv : Sv} {g : Gr} (h : ShowsG w0 hp sv g) : CallOK Tryz.prog w0 No 19 [sv] hp (.x (.a (.v (.bool g.mayB)))) hp := callOK_v fun γ w hS => by
  obtain ⟨G, e, ok, rfl⟩ := h γ w hS
  show Calls _ _ #[sv.val γ] w _
  rw [e]
  exact mayBe_any G w ok
def secT (g : Gr) (b : Bool) : Sv := if b = true then .t [.a (.o 0), .a (.o 1), .a (.v .nilIface)] else .t [.a (.v (.map none)), .a (.v (.map none)), .a (.v (errN g.err))]
def secH (g : Gr) (b : Bool) : List Res := if b = true then [.mp .i64 (g.sd g.ps.length), .mp .i64 (g.ky g.ps.length)] else []
def secQ (g : Gr) (b : Bool) : Prop := b = decide (g.err = 0)
theorem err_may {g : Gr} (h : g.mayB = false) : g.err = 1 := by unfold Gr.err; rw [h]; rfl
theorem err_few {g : Gr} (h : g.mayB = true) (h2 : (g.gv.length : Int) < g.nd) : g.err = 7 := by unfold Gr.err; rw [if_pos h, if_pos h2]
theorem err_all {g : Gr} (h : g.mayB = true) (h2 : ¬ (g.gv.length : Int) < g.nd) (h3 : g.all = true) : g.err = 0 := by unfold Gr.err; rw [if_pos h, if_neg h2, if_pos h3]
theorem err_no {g : Gr} {i : Nat} (h : g.mayB = true) (h2 : ¬ (g.gv.length : Int) < g.nd) (hi : i < g.ps.length) (h3 : g.okI i = false) : g.err = 13 := by
  unfold Gr.err; rw [if_pos h, if_neg h2, if_neg (by rw [Gr.all_no hi h3]; decide)]
theorem may_gv {g : Gr} (h : g.mayB = true) {i : Nat} (hi : i < g.gv.length) : (ix g.gv i).2.length = g.ps.length := by
  unfold Gr.mayB at h
  simp only [Bool.and_eq_true] at h
  have := List.all_eq_true.1 h.2.2.2.2 _ (ix_memS hi)
  unfold gvOk numsOk at this
  simp only [Bool.and_eq_true, decide_eq_true_eq] at this
  rw [this.2.1, idsG_len]
theorem sd_in {g : Gr} {i : Nat} (h : hasF g.cm (ix g.ps i).1 = true) : putI (g.sd i) (ix g.ps i).1 (.a (.v (vU64 (g.sec i)))) = g.sd (i + 1) ∧ g.ky (i + 1) = g.ky i := ⟨by rw [Gr.sd, if_pos h], by rw [Gr.ky, if_pos h]⟩
theorem sd_out {g : Gr} {i : Nat} (h : hasF g.cm (ix g.ps i).1 = false) : putI (g.ky i) (ix g.ps i).1 (.a (.v (vU64 (g.sec i)))) = g.ky (i + 1) ∧ g.sd (i + 1) = g.sd i := ⟨by rw [Gr.ky, if_neg (by rw [h]; decide)], by rw [Gr.sd, if_neg (by rw [h]; decide)]⟩
theorem okI_no1 {g : Gr} {i : Nat} (h : ¬ joiE (g.sh i) g.nd = 0) : g.okI i = false := by unfold Gr.okI; rw [decide_eq_false h]; rfl
theorem okI_no2 {g : Gr} {i : Nat} (h1 : hasF g.cm (ix g.ps i).1 = false) (h : ¬ powU 3 (g.sec i) = (ix g.ps i).2) : g.okI i = false := by unfold Gr.okI; rw [h1, decide_eq_false h, Bool.or_false, Bool.and_false]
theorem okI_in {g : Gr} {i : Nat} (h : joiE (g.sh i) g.nd = 0) (h1 : hasF g.cm (ix g.ps i).1 = true) : g.okI i = true := by unfold Gr.okI; rw [decide_eq_true h, h1]; rfl
theorem okI_out {g : Gr} {i : Nat} (h : joiE (g.sh i) g.nd = 0) (h1 : powU 3 (g.sec i) = (ix g.ps i).2) : g.okI i = true := by unfold Gr.okI; rw [decide_eq_true h, decide_eq_true h1, Bool.or_true]; rfl
attribute [local irreducible] idsG lessF chkS Gr.mayB gvOk may isIn Gr.sd Gr.ky Gr.sec joiE joiU hasF shc Gr.shS Gr.sh Gr.err powU atU
set_option maxRecDepth 100000 in
set_option maxHeartbeats 8000000 in
theorem secrets_any (G : Grp) (w : World) (hG : G.Ok w) : Calls Tryz.prog 8 (List.map (Sv.val []) [.x (.g [.v (.slice G.pA G.ps.length G.pc), .v (.slice G.cA G.cm.length G.cc), .v (.int .i64 G.nd), .v (.map G.mo)])]).toArray w fun e w' => ∃ b γ1, secQ G.gr b ∧ e = .returned ((secT G.gr b).val γ1) ∧ Sat w No γ1 (secH G.gr b) w' := by
  have F := FP.of hG.pR
  obtain ⟨f1, f2, f3, f4⟩ := hG.few
  have ng : ∀ {P : Prop} (b : Bool), b = false → secQ G.gr b → P → True := fun _ _ _ _ => trivial
  refine calls_ex (n := 85) (secQ G.gr) (secT G.gr) (secH G.gr) Tryz.func8 rfl Tryz.ntmps8 [.x (.g [.v (.slice G.pA G.ps.length G.pc), .v (.slice G.cA G.cm.length G.cc), .v (.int .i64 G.nd), .v (.map G.mo)])] (Sat.init w No) (by simp) ?_
  simp (config := { maxSteps := 1000000 }) only [push_cast, ↓reduceIte, Nat.reduceEqDiff, Nat.reduceLT, Nat.reduceAdd]
  (repeat (refine And.intro (by first | omega | decide) ?_))
  refine callG_v rfl cb19 rfl (mayBeK (showsG_raw hG)) (dOk_lt rfl) ?_
  have no : ∀ n : Int, ¬ n = 0 → G.gr.err = n → secQ G.gr false ∧ secT G.gr false = .t [.a (.v (.map none)), .a (.v (.map none)), .a (.v (.iface 63 (.int .i64 n)))] ∧ secH G.gr false = [] := fun n hn he => ⟨by unfold secQ; rw [he, decide_eq_false hn], by unfold secT; rw [he]; rfl, rfl⟩
  cases hm : G.gr.mayB
  · obtain ⟨q, e1, e2⟩ := no 1 (by decide) (err_may hm)
    simp (config := { maxSteps := 1000000 }) only [push_cast, ↓reduceIte, Nat.reduceEqDiff, Nat.reduceLT]
    refine ⟨false, q, ?_⟩
    rw [e1, e2]
    refine endsAs [] ?_
    simp (config := { maxSteps := 1000000 }) only [push_cast, ↓reduceIte]
  simp (config := { maxSteps := 1000000 }) only [undef, push_cast, ↓reduceIte, reduceCtorEq, Nat.reduceEqDiff, Nat.reduceLT, Nat.reduceAdd]
  (repeat (refine And.intro (by first | omega | decide) ?_))
  refine callG_lenR rfl rfl hG.m Tryz.underlying29 (dOk_lt rfl) ?_
  have hml := G.mLlen
  have hgl := G.gvlen
  by_cases h2 : (G.mL.length : Int) < G.nd
  · obtain ⟨q, e1, e2⟩ := no 7 (by decide) (err_few hm (by rw [hgl, ← hml]; exact h2))
    simp (config := { maxSteps := 1000000 }) only [h2, undef, push_cast, ↓reduceIte, reduceCtorEq, Nat.reduceEqDiff, Nat.reduceLT, Nat.reduceAdd]
    refine ⟨false, q, ?_⟩
    rw [e1, e2]
    refine endsAs [] ?_
    simp (config := { maxSteps := 1000000 }) only [push_cast, ↓reduceIte]
  have h2' : ¬ (G.gr.gv.length : Int) < G.gr.nd := by rw [hgl, ← hml]; exact h2
  simp (config := { maxSteps := 1000000 }) only [h2, undef, push_cast, ↓reduceIte, reduceCtorEq, Nat.reduceEqDiff, Nat.reduceLT, Nat.reduceAdd]
  (repeat (refine And.intro (by first | omega | decide) ?_))
  refine loop_rule (ι := Nat) (fun i => ⟨[(1, .x (.a (.p 0 0))), (5, .x (.a (.o 1))), (6, .x (.a (.o 2))), (28, (.x (.a (.v (.slice G.pA G.ps.length G.pc))))), (29, .x (.a (.v (.int .i64 G.ps.length)))), (30, .x (.a (.v (.int .i64 i))))], [.blk 31 (.c [.v (.slice G.pA G.ps.length G.pc), .v (.slice G.cA G.cm.length G.cc), .v (.int .i64 G.nd), .v (.map G.mo)]), .mp .i64 (G.gr.sd i), .mp .i64 (G.gr.ky i)]⟩) (fun i => i ≤ G.ps.length ∧ ∀ j, j < i → G.gr.okI j = true) (fun i => G.ps.length - i) 0 [0, 1, 2] ⟨Nat.zero_le _, fun j h => by omega⟩ ?_ ?_
  · have e0 : G.gr.sd 0 = [] := by unfold Gr.sd; rfl
    have e1 : G.gr.ky 0 = [] := by unfold Gr.ky; rfl
    simp (config := { maxSteps := 1000000 }) only [e0, e1, mpBnd_nil, push_cast, ↓Int.cast_ofNat_Int, Int.cast_ofNat_Int, ↓reduceIte, reduceCtorEq, Nat.reduceEqDiff, Nat.reduceLT, Nat.reduceAdd]
  rintro i ⟨hi, hI⟩
  by_cases hlt : (i : Int) < G.ps.length
  · have hi' : i < G.ps.length := by omega
    have i0 : (0 : Int) ≤ i := by omega
    have c0 := F.c0 i hi'
    have c1 := F.c1 i hi'
    have o0 := F.ok0 i hi'
    have o1 := F.ok1 i hi'
    have hA := F.some_ (by omega)
    have bsd := fun n => G.gr.sd_bnd n i
    have bky := fun n => G.gr.ky_bnd n i
    have rsd := fun ρ => G.gr.sd_ren ρ i
    have rky := fun ρ => G.gr.ky_ren ρ i
    simp (config := { maxSteps := 1000000 }) only [hlt, i0, c0, c1, o0, o1, hA, bsd, bky, pAdd_zero, pAdd_add, pAdd_isSome, undef, push_cast, ↓Int.toNat_natCast, ↓reduceIte, reduceCtorEq, Nat.reduceEqDiff, Nat.reduceLT, Nat.reduceAdd]
    (repeat (refine And.intro (by first | omega | decide) ?_))
    refine callG_rangeR rfl rfl hG.m Tryz.underlying29 (dOk_lt rfl) (by simp (config := { maxSteps := 1000000 }) only [bsd, bky, push_cast, Nat.reduceLT, Nat.reduceAdd]) fun r => ?_
    simp (config := { maxSteps := 1000000 }) only [push_cast]
    refine loop_ghostN 9 71 2 (.c []) (by omega) rfl rfl (by simp (config := { maxSteps := 1000000 }) only [bsd, bky, push_cast, Nat.reduceLT, Nat.reduceAdd]) ?_
    simp (config := { maxSteps := 1000000 }) only [push_cast, Nat.reduceAdd]
    refine loop_rule (ι := List Nat) (fun seen => ⟨[(1, .x (.a (.p 0 0))), (5, .x (.a (.o 1))), (6, .x (.a (.o 2))), (7, .x (.a (.v (.int .i64 i)))), (8, .x (.a (.p 3 0))), (9, .x (.a (.o 5))), (28, (.x (.a (.v (.slice G.pA G.ps.length G.pc))))), (29, .x (.a (.v (.int .i64 G.ps.length)))), (30, .x (.a (.v (.int .i64 i)))), (37, .x (.a (.v (.pointer (some ⟨r, 0, none⟩)))))], [.blk 31 (.c [.v (.slice G.pA G.ps.length G.pc), .v (.slice G.cA G.cm.length G.cc), .v (.int .i64 G.nd), .v (.map G.mo)]), .mp .i64 (G.gr.sd i), .mp .i64 (G.gr.ky i), .blk 54 (.c [.v (.int .i64 (ix G.ps i).1), .v (vU64 (ix G.ps i).2)]), .abs (ItR (.map G.mo) G.mL.length r seen), .onn 71 2 (.c (shc (G.gr.shS i seen)))]⟩)
      (fun seen => seen.Nodup ∧ ∀ j ∈ seen, j < G.gv.length) (fun seen => G.gv.length - seen.length) [] [0, 1, 2, 3, 4, 5] ⟨List.nodup_nil, fun j h => by cases h⟩ ?_ ?_
    · have e0 : shc (G.gr.shS i []) = [] := by unfold Gr.shS shc; rfl
      simp (config := { maxSteps := 1000000 }) only [e0, bsd, bky, rsd, rky, push_cast, ↓reduceIte, reduceCtorEq, Nat.reduceEqDiff, Nat.reduceLT, Nat.reduceAdd]
    rintro seen ⟨n1, n2⟩
    have sl : (shc (G.gr.shS i seen)).length = seen.length * 2 := by rw [shc_len, Gr.shS_len]
    have sf := fun {Q : At → Prop} => shc_forall (Q := Q) (G.gr.shS i seen)
    have sr := fun ρ => shc_ren ρ (G.gr.shS i seen)
    simp (config := { maxSteps := 1000000 }) only [push_cast, ↓reduceIte]
    (repeat (refine And.intro (by first | omega | decide) ?_))
    refine callG_nextR (k := 4) rfl rfl hG.m rfl (dOk_lt rfl) (fun hall => ?_) (fun j p hp hns => ?_)
    · have hall' : ∀ j, j < G.gr.gv.length → j ∈ seen := fun j hj => hall j (by rw [hml, ← hgl]; exact hj)
      obtain ⟨q1, q2⟩ := G.gr.join_any hm (by rw [G.keys]; exact hG.nd) i n1 hall' fun j hj => by rw [hgl]; exact n2 j hj
      have hls : seen.length ≤ 1000 := by have := nodup_fewG n1 n2; omega
      simp (config := { maxSteps := 1000000 }) only [undef, push_cast, ↓reduceIte, reduceCtorEq, Nat.reduceEqDiff, Nat.reduceLT, Nat.reduceAdd]
      (repeat (refine And.intro (by first | omega | decide) ?_))
      refine callG_v rfl cb21 rfl (joinOK (l := G.gr.shS i seen) G.nd (by rw [Gr.shS_len]; exact hls) (showsR_onn rfl (fun γ => shc_vals γ _) (by rw [shs_len, Gr.shS_len]))) (dOk_lt rfl) ?_
      have q1' : joiE (G.gr.shS i seen) G.nd = joiE (G.gr.sh i) G.nd := q1
      have q2' : joiU (G.gr.shS i seen) G.nd = G.gr.sec i := q2
      by_cases h5 : joiE (G.gr.sh i) G.nd = 0
      · have ez : erS 0 = .nilIface := rfl
        simp (config := { maxSteps := 1000000 }) only [q1', q2', h5, ez, undef, push_cast, ↓reduceIte, reduceCtorEq, Nat.reduceEqDiff, Nat.reduceLT, Nat.reduceAdd]
        (repeat (refine And.intro (by first | omega | decide) ?_))
        refine callG_v rfl cb22 rfl (hasK (l := G.cm) (ix G.ps i).1 (by omega) (shows_raw hG.cR _ _ (by simp) hG.cl)) (dOk_lt rfl) ?_
        cases h6 : hasF G.cm (ix G.ps i).1
        · simp (config := { maxSteps := 1000000 }) only [push_cast, ↓reduceIte]
          (repeat (refine And.intro (by first | omega | decide) ?_))
          refine draw_rule [(0, true), (2, true), (3, true), (1, false), (4, true)] (by kernel_rfl) (by kernel_rfl) rfl (by kernel_rfl) ?_
          simp (config := { maxSteps := 1000000 }) only [undef, push_cast, ↓reduceIte, reduceCtorEq, Nat.reduceEqDiff, Nat.reduceLT, Nat.reduceAdd]
          (repeat (refine And.intro (by first | omega | decide) ?_))
          refine callM_v rfl cb10 rfl (publicK _) (dOk_lt rfl) ?_
          by_cases h7 : powU 3 (G.gr.sec i) = (ix G.ps i).2
          · obtain ⟨s1, s2⟩ := sd_out (g := G.gr) (i := i) h6
            have s1' : putI (G.gr.ky i) (ix G.ps i).1 (.a (.v (vU64 (G.gr.sec i)))) = G.gr.ky (i + 1) := s1
            have bs1 := fun n => G.gr.sd_bnd n (i + 1)
            have bk1 := fun n => G.gr.ky_bnd n (i + 1)
            have rs1 := fun ρ => G.gr.sd_ren ρ (i + 1)
            have rk1 := fun ρ => G.gr.ky_ren ρ (i + 1)
            have h7' := eq_true h7
            simp (config := { maxSteps := 1000000 }) only [h7', not_true_eq_false, decide_false, Bool.false_eq_true, s1', ← s2, undef, push_cast, ↓reduceIte, reduceCtorEq, Nat.reduceEqDiff, Nat.reduceLT, Nat.reduceAdd, Int.reduceNeg]
            (repeat (refine And.intro (by first | omega | decide) ?_))
            refine loopK_normal (i + 1) [0, 1, 2] ⟨by omega, fun k hk => ?_⟩ (by omega) ?_
            · by_cases ek : k = i
              · rw [ek]; exact okI_out (g := G.gr) h5 h7
              · exact hI k (by omega)
            · simp (config := { maxSteps := 1000000 }) only [s2, bk1, rk1, bsd, rsd, push_cast, ↓reduceIte, reduceCtorEq, Nat.reduceEqDiff, Nat.reduceLT, Nat.reduceAdd]
          · obtain ⟨q, e1, e2⟩ := no 13 (by decide) (err_no (i := i) hm h2' hi' (okI_no2 (g := G.gr) h6 h7))
            simp (config := { maxSteps := 1000000 }) only [h7, not_false_eq_true, decide_true, push_cast, ↓reduceIte, Nat.reduceEqDiff, Nat.reduceLT, Nat.reduceAdd]
            refine ⟨false, q, ?_⟩
            rw [e1, e2]
            refine endsAs [] ?_
            simp (config := { maxSteps := 1000000 }) only [push_cast, ↓reduceIte]
        · obtain ⟨s1, s2⟩ := sd_in (g := G.gr) (i := i) h6
          have s1' : putI (G.gr.sd i) (ix G.ps i).1 (.a (.v (vU64 (G.gr.sec i)))) = G.gr.sd (i + 1) := s1
          have bs1 := fun n => G.gr.sd_bnd n (i + 1)
          have bk1 := fun n => G.gr.ky_bnd n (i + 1)
          have rs1 := fun ρ => G.gr.sd_ren ρ (i + 1)
          have rk1 := fun ρ => G.gr.ky_ren ρ (i + 1)
          simp (config := { maxSteps := 1000000 }) only [s1', ← s2, undef, push_cast, ↓reduceIte, reduceCtorEq, Nat.reduceEqDiff, Nat.reduceLT, Nat.reduceAdd, Int.reduceNeg]
          (repeat (refine And.intro (by first | omega | decide) ?_))
          refine loopK_normal (i + 1) [0, 1, 2] ⟨by omega, fun k hk => ?_⟩ (by omega) ?_
          · by_cases ek : k = i
            · rw [ek]; exact okI_in (g := G.gr) h5 h6
            · exact hI k (by omega)
          · simp (config := { maxSteps := 1000000 }) only [s2, bs1, rs1, bky, rky, push_cast, ↓reduceIte, reduceCtorEq, Nat.reduceEqDiff, Nat.reduceLT, Nat.reduceAdd]
      · obtain ⟨q, e1, e2⟩ := no 13 (by decide) (err_no (i := i) hm h2' hi' (okI_no1 (g := G.gr) h5))
        have en : erS (joiE (G.gr.sh i) G.nd) = .iface 63 (.int .i64 (joiE (G.gr.sh i) G.nd)) := erS_ne h5
        simp (config := { maxSteps := 1000000 }) only [q1', q2', en, push_cast, ↓reduceIte, Nat.reduceEqDiff, Nat.reduceLT, Nat.reduceAdd]
        refine ⟨false, q, ?_⟩
        rw [e1, e2]
        refine endsAs [] ?_
        simp (config := { maxSteps := 1000000 }) only [push_cast, ↓reduceIte]
    obtain ⟨e, he, hi2, rfl, hix, hge⟩ := G.mL_at hp
    obtain ⟨g1, g2⟩ := hG.e e he
    have hev : e.val = .slice e.A e.l.length e.c := rfl
    have hel : e.l.length = G.ps.length := by
      have := may_gv hm (i := j) (by rw [hgl]; exact hi2)
      rw [hix] at this
      exact this
    have hil : i < e.l.length := by omega
    have hil' : (i : Int) < e.l.length := by omega
    have FE := FV.no g2
    have cj := (FE.cell (ix_map vU64 e.l i hil)).1
    have oj := (FE.cell (ix_map vU64 e.l i hil)).2
    have hE := FE.some_ (by rw [List.length_map]; omega)
    have hpj : G.mL[j]? = some (e.id, e.val) := hp
    have sn : shc (G.gr.shS i seen) ++ [.v (vU64 (atU e.id)), .v (vU64 (ix e.l i))] = shc (G.gr.shS i (seen ++ [j])) := by
      rw [shc_snoc, Gr.shS_snoc, hix]
      rfl
    have sl2 := len_lt n1 n2 hi2 hns
    simp (config := { maxSteps := 1000000 }) only [push_cast, ↓reduceIte, Nat.reduceLT, Nat.reduceAdd]
    (repeat (refine And.intro (by first | omega | decide) ?_))
    refine callG_entryR (k := 4) rfl rfl hG.m rfl hpj (dOk_lt rfl) ?_
    simp (config := { maxSteps := 1000000 }) only [hev, push_cast, ↓reduceIte, Nat.reduceEqDiff, Nat.reduceLT, Nat.reduceAdd]
    (repeat (refine And.intro (by first | omega | decide) ?_))
    have sf' := fun {Q : At → Prop} => shc_forall (Q := Q) (G.gr.shS i (seen ++ [j]))
    have sr' := fun ρ => shc_ren ρ (G.gr.shS i (seen ++ [j]))
    refine drawVT_rule 5 [] 10 (.rd 0 (.rd 1 (.rd 3 (.rd 4 (.rd 5 (.rd 6 (.wr 2 (.wr 7 (.wr 8 (.wr 9 .nil)))))))))) ⟨[(1, .x (.a (.p 0 0))), (5, .x (.a (.o 1))), (6, .x (.a (.o 2))), (7, .x (.a (.v (.int .i64 i)))), (8, .x (.a (.p 3 0))), (28, (.x (.a (.v (.slice G.pA G.ps.length G.pc))))), (29, .x (.a (.v (.int .i64 G.ps.length)))), (30, .x (.a (.v (.int .i64 i)))), (37, .x (.a (.v (.pointer (some ⟨r, 0, none⟩))))), (52, .x (.a (.o 5)))], [.blk 31 (.c [.v (.slice G.pA G.ps.length G.pc), .v (.slice G.cA G.cm.length G.cc), .v (.int .i64 G.nd), .v (.map G.mo)]), .mp .i64 (G.gr.sd i), .mp .i64 (G.gr.ky i), .blk 54 (.c [.v (.int .i64 (ix G.ps i).1), .v (vU64 (ix G.ps i).2)]), .abs (ItR (.map G.mo) G.mL.length r (seen ++ [j])), .onn 71 2 (.c (shc (G.gr.shS i (seen ++ [j]))))]⟩ (by kernel_rfl) (by kernel_rfl) (by show 5 ≤ 6; omega) ?_ ?_
    · simp (config := { maxSteps := 1000000 }) only [hil', i0, cj, oj, hE, push_cast, ↓Int.toNat_natCast, ↓reduceIte, reduceCtorEq, Nat.reduceEqDiff, Nat.reduceLT, Nat.reduceAdd, Nat.reduceSub]
      (repeat (refine And.intro (by first | omega | decide) ?_))
      refine callQ_v rfl cb20 rfl (atOK e.id) (dOk_lt rfl) ?_
      have b5 : (seen.length + 1) * 16 ≤ 140737488355328 := by omega
      have b6 : seen.length + 1 ≤ 2 ^ 63 - 1 := by omega
      simp (config := { maxSteps := 1000000 }) only [sn, sl, sf, half2, b5, b6, bsd, bky, push_cast, ↓reduceIte, reduceCtorEq, Nat.reduceEqDiff, Nat.reduceLT, Nat.reduceLeDiff, Nat.reduceAdd, Nat.reduceMul]
      (repeat (refine And.intro (by first | omega | decide) ?_))
      refine leads_le [0, 1, 2, 3, 4, 7] ?_
      simp (config := { maxSteps := 1000000 }) only [bsd, bky, rsd, rky, sf', sr', push_cast, ↓reduceIte, reduceCtorEq, Nat.reduceEqDiff, Nat.reduceLT, Nat.reduceAdd]
    simp (config := { maxSteps := 1000000 }) only [push_cast, ↓reduceIte, Nat.reduceEqDiff, Nat.reduceLT, Nat.reduceAdd]
    refine loopK_normal (seen ++ [j]) [0, 1, 2, 3, 4, 5] ⟨nodup_snoc n1 hns, fun k hk => ?_⟩ ?_ ?_
    · rcases List.mem_append.1 hk with hk | hk
      · exact n2 k hk
      · rw [List.mem_singleton.1 hk]; exact hi2
    · show G.gv.length - (seen ++ [j]).length < G.gv.length - seen.length
      rw [List.length_append]
      show G.gv.length - (seen.length + 1) < _
      omega
    · simp (config := { maxSteps := 1000000 }) only [sf', sr', bsd, bky, rsd, rky, push_cast, ↓reduceIte, reduceCtorEq, Nat.reduceEqDiff, Nat.reduceLT, Nat.reduceAdd]
  have hii : i = G.ps.length := by omega
  subst hii
  have h0 : G.gr.err = 0 := err_all hm h2' (Gr.all_iff.2 hI)
  have bsd := fun n => G.gr.sd_bnd n G.ps.length
  have bky := fun n => G.gr.ky_bnd n G.ps.length
  have rsd := fun ρ => G.gr.sd_ren ρ G.ps.length
  have rky := fun ρ => G.gr.ky_ren ρ G.ps.length
  simp (config := { maxSteps := 1000000 }) only [hlt, push_cast, ↓reduceIte, Nat.reduceEqDiff, Nat.reduceLT, Nat.reduceAdd]
  refine ⟨true, by unfold secQ; rw [decide_eq_true h0], ?_⟩
  have e1 : secT G.gr true = .t [.a (.o 0), .a (.o 1), .a (.v .nilIface)] := rfl
  have e2 : secH G.gr true = [.mp .i64 (G.gr.sd G.ps.length), .mp .i64 (G.gr.ky G.ps.length)] := rfl
  rw [e1, e2]
  refine endsAs [1, 2] ?_
  simp (config := { maxSteps := 1000000 }) only [bsd, bky, rsd, rky, push_cast, ↓reduceIte, Nat.reduceEqDiff, Nat.reduceLT, Nat.reduceAdd]
end Go.Proofs.YtombphphaoeeiaaGreatDoor
