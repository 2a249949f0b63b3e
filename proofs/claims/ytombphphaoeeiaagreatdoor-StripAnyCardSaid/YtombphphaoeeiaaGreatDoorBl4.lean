import Derived.Test.YtombphphaoeeiaaGreatDoorBl3
import Derived.Test.YtombphphaoeeiaaGreatDoorBl2
import Derived.Test.YtombphphaoeeiaaGreatDoorPreH
/- blind.Own, Row and Open: rows that are hidden, and what hides their sum. -/
namespace Go.Proofs.YtombphphaoeeiaaGreatDoor
open Go.RowKit
set_option linter.unusedSimpArgs false
/-! ### Rows, wherever they lie -/
def ShowsRows (w0 : World) (hp : List Res) (sv : Sv) (L : List (List UInt32)) : Prop :=
  ∀ γ w, Sat w0 No γ hp w → ∃ (R : List Rw) (A : Option Addr) (c : Nat), R.map (·.l) = L ∧ sv.val γ = .slice A R.length c ∧ RdV w w.heap.size A (R.map Rw.val) ∧ ∀ i, i < R.length → RdV w w.heap.size (ix R i).A ((ix R i).l.map vU32)
attribute [local irreducible] Callable CallOK CallG CallM DrawG LoopG symR symM
/-! ### Own -/
set_option maxRecDepth 100000 in
theorem own10_any (seed : UInt64) (n : Int) (w : World) (hk : LaidK 1 w) : Calls Tryz.prog 11 #[vU64 seed, .int .i64 n] w fun e w' => ∃ v, e = .returned (.tuple #[v, wErr ownS n 32]) ∧ Own w' w.heap.size 23 v ((wOut seed ownS n).map vU32) ∧ Below w.heap.size w w' := by
  have h0 := fun h => calls_own2 (P := Tryz.prog) (w := w) (n := 11) Tryz.func11 rfl Tryz.ntmps11 [.x (.a (.v (vU64 seed))), .x (.a (.v (.int .i64 n)))] (by simp) 23 (.u32 (wOut seed ownS n)) (wErr ownS n 32) (vs := (wOut seed ownS n).map vU32) (fun _ => rfl) h
  refine h0 ?_
  clear h0
  simp only [ownLit, push_cast, ↓reduceIte, reduceCtorEq, Nat.reduceEqDiff, Nat.reduceLT]
  refine callG_x rfl cb25 rfl (words7OK seed ownS n hk (by simp only [push_cast])) (dOk_lt rfl) (by simp only [push_cast]) ?_
  simp only [ownT2, ownT, push_cast, ↓reduceIte, Nat.reduceEqDiff, Nat.reduceLT]
theorem own10OK {w0 : World} {hp : List Res} (seed : UInt64) (n : Int) (hk : LaidK 1 w0) (hbr : ∀ r ∈ hp, Res.bnd hp.length r) : CallOK Tryz.prog w0 No 11 [.x (.a (.v (vU64 seed))), .x (.a (.v (.int .i64 n)))] hp (.t [.a (.o hp.length), .a (.v (wErr ownS n 32))]) (hp ++ [.own 23 (.u32 (wOut seed ownS n))]) := callOK_own2 hbr trivial fun _ w hS => own10_any seed n w (laid_later hk hS)
/-! ### Row -/
def brErr (me : Int) (l : List Pr) (d : Nat) : Value := if brOk me l d = true then .nilIface else .iface 63 (.int .i64 1)
attribute [local irreducible] prOut prOk may powU opOut opErr wOut wErr brOut brOk sumR
/-! ### Open -/
theorem withOK {w0 : World} {hp : List Res} {s1 s2 : Sv} {came : List Int} {l : List Pr} (one : Pr) (hl : l.length ≤ 1000) (hl2 : came.length ≤ 1000000) (h1 : Shows w0 No hp s1 (came.map vI64)) (h2 : ShowsR w0 No hp s2 l.length (pvs l)) (hbr : ∀ r ∈ hp, Res.bnd hp.length r) :
    CallOK Tryz.prog w0 No 34 [.x (.g [.v (.int .i64 one.1), .v (vU64 one.2)]), s1, s2] hp (.x (.a (.o hp.length))) (hp ++ [.onn 54 2 (.c (pcs (withL one came l)))]) := by
  have := callOK_take (P := Tryz.prog) (f := 34) (svs := [.x (.g [.v (.int .i64 one.1), .v (vU64 one.2)]), s1, s2]) (w0 := w0) (ow := No) (sv1 := .x (.a (.o 0))) (hp1 := [.onn 54 2 (.c (pcs (withL one came l)))]) [] hbr (by simp only [push_cast]) (by simp only [push_cast, Nat.reduceLT])
    fun γ w hS => ⟨No, fun b h => h.elim, by
      obtain ⟨A, c, e1, b1, r1⟩ := h1 γ w hS
      obtain ⟨A2, c2, e2, b2, r2⟩ := h2 γ w hS
      rw [List.length_map] at e1 b1
      show Calls _ _ #[.agg #[.int .i64 one.1, vU64 one.2], s1.val γ, s2.val γ] w _
      rw [e1, e2]
      exact with_any one came l A2 c2 A c w hl hl2 b1 r2 r1⟩
  simp only [goneAll, shiftL, pcs_ren, push_cast] at this
  exact this
attribute [local irreducible] opnOut opnNum opnVal ocTo soTo withL given among hidW
set_option maxRecDepth 100000 in
set_option maxHeartbeats 4000000 in
theorem blindOpen_any (came : List Int) (l : List Pr) (sf kf : Int → Option UInt64) (sv kv : Value) (dim : Int) (A : Option Addr) (c : Nat) (A2 : Option Addr) (c2 : Nat) (w : World) (hl : l.length ≤ 1000000) (hl2 : came.length ≤ 1000000) (hc : l.length ≤ c) (hc2 : came.length ≤ c2) (hR : RdV w w.heap.size A (pvs l)) (hR2 : RdV w w.heap.size A2 (came.map vI64)) (hs : RawU w sv sf) (hkv : RawU w kv kf) (hk : LaidK 1 w) :
    Calls Tryz.prog 17 (List.map (Sv.val []) [(.x (.a (.v (.slice A2 came.length c2)))), (.x (.a (.v (.slice A l.length c)))), .x (.a (.v sv)), .x (.a (.v kv)), .x (.a (.v (.int .i64 dim)))]).toArray w fun e w' => ∃ v, e = .returned (.tuple #[v, erV (opnNum came l sf kf dim)]) ∧ Own w' w.heap.size 23 v ((opnOut came l sf kf dim).map vU32) ∧ Below w.heap.size w w' := by
  have F := FP.of hR
  have G := FM.of hR2
  have h0 := fun h => calls_own2 (P := Tryz.prog) (w := w) (n := 113) Tryz.func17 rfl Tryz.ntmps17 [(.x (.a (.v (.slice A2 came.length c2)))), (.x (.a (.v (.slice A l.length c)))), .x (.a (.v sv)), .x (.a (.v kv)), .x (.a (.v (.int .i64 dim)))] (by simp) 23 (.u32 (opnOut came l sf kf dim)) (erV (opnNum came l sf kf dim)) (vs := (opnOut came l sf kf dim).map vU32) (fun _ => rfl) h
  refine h0 ?_
  clear h0
  have no : ∀ {n : Int}, opnNum came l sf kf dim = n → ¬ n = 0 → erV (opnNum came l sf kf dim) = .iface 63 (.int .i64 n) ∧ opnOut came l sf kf dim = [] := fun h1 h2 => ⟨by rw [h1]; exact erV_ne h2, opnOut_no (by rw [h1]; exact h2)⟩
  simp only [push_cast, ↓reduceIte, reduceCtorEq, Nat.reduceEqDiff, Nat.reduceLT, Nat.reduceAdd]
  refine callG_x rfl cb27 rfl (zero02OK dim (by simp only [push_cast])) (dOk_lt rfl) (by simp only [push_cast]) ?_
  cases hz : zOk dim
  · have ez : zErr dim = .iface 63 (.int .i64 1) := by unfold zErr; rw [hz]; rfl
    obtain ⟨h1, h2⟩ := no (opnNum_dim hz) (by decide)
    simp only [ez, h1, h2, ownT2, ownT, push_cast, ↓reduceIte, Nat.reduceEqDiff, Nat.reduceLT]
  have hz' : 0 ≤ dim ∧ dim ≤ 32 := of_decide_eq_true hz
  obtain ⟨d, rfl⟩ : ∃ d : Nat, dim = d := ⟨dim.toNat, by omega⟩
  have hd : d ≤ 32 := by omega
  have ez : zErr d = .nilIface := by unfold zErr; rw [hz]; rfl
  have eo : zOut d = ocTo d (fd sf) came 0 := by unfold zOut; rw [hz, Int.toNat_natCast]; exact (ocTo_zero d (fd sf) came).symm
  simp only [ez, eo, push_cast, ↓reduceIte, reduceCtorEq, Nat.reduceEqDiff, Nat.reduceLT]
  refine callG_v rfl cb28 rfl (check09OK (showsR_raw hR hc)) (dOk_lt rfl) ?_
  cases hm : may l
  · obtain ⟨h1, h2⟩ := no (opnNum_may hm) (by decide)
    simp only [mayErr_no hm, h1, h2, undef, ownT2, ownT, push_cast, ↓reduceIte, Nat.reduceEqDiff, Nat.reduceLT]
  have h64 := may_len hm
  simp only [mayErr_yes hm, push_cast, ↓reduceIte, reduceCtorEq, Nat.reduceEqDiff, Nat.reduceLT]
  refine callG_v rfl cb29 rfl (amongOK (came := came) (l := l) hl hl2 (shows_raw hR2 _ _ (by simp) hc2) (showsR_raw hR hc)) (dOk_lt rfl) ?_
  cases ha : among came l
  · obtain ⟨h1, h2⟩ := no (opnNum_among ha) (by decide)
    simp only [h1, h2, ownT2, ownT, push_cast, ↓reduceIte, Nat.reduceEqDiff, Nat.reduceLT]
  simp only [push_cast, ↓reduceIte, reduceCtorEq, Nat.reduceEqDiff, Nat.reduceLT]
  refine callG_v rfl cb30 rfl (givenOK (came := came) (l := l) (sf := sf) (kf := kf) hl hl2 (shows_raw hR2 _ _ (by simp) hc2) (showsR_raw hR hc) (fun γ w' hS => rawU_later hs hS) (fun γ w' hS => rawU_later hkv hS)) (dOk_lt rfl) ?_
  cases hg : given came l sf kf
  · obtain ⟨h1, h2⟩ := no (opnNum_given hz hm ha hg) (by decide)
    simp only [h1, h2, ownT2, ownT, push_cast, ↓reduceIte, Nat.reduceEqDiff, Nat.reduceLT]
  have hnum := opnNum_yes hz hm ha hg
  have hout := opnOut_yes hnum
  rw [Int.toNat_natCast] at hout
  simp only [push_cast, ↓reduceIte, reduceCtorEq, Nat.reduceLT]
  refine loop_rule (ι := Nat) (fun i => ⟨[(0, (.x (.a (.v (.slice A2 came.length c2))))), (1, (.x (.a (.v (.slice A l.length c))))), (2, .x (.a (.v sv))), (3, .x (.a (.v kv))), (4, .x (.a (.v (.int .i64 d)))), (12, .x (.a (.o 0))), (47, (.x (.a (.v (.slice A2 came.length c2))))), (48, .x (.a (.v (.int .i64 came.length)))), (49, .x (.a (.v (.int .i64 i))))], [.own 23 (.u32 (ocTo d (fd sf) came i))]⟩) (fun i => i ≤ came.length) (fun i => came.length - i) 0 [0] (by omega) ?_ ?_
  · simp only [push_cast, ↓Int.cast_ofNat_Int, Int.cast_ofNat_Int, ↓reduceIte, reduceCtorEq, Nat.reduceEqDiff, Nat.reduceLT]
  · intro i hi
    by_cases hlt : (i : Int) < came.length
    · have i0 : (0 : Int) ≤ i := by omega
      have c0 : cellOf w (pAdd A2 i) = .int .i64 (ix came i) := G.cell i (by omega)
      have o0 := G.ok i (by omega)
      have hA := G.some_ (by omega)
      obtain ⟨v, hv⟩ := given_seed hg ha (i := i) (by omega)
      have hX := hs.look (ix came i)
      rw [hv] at hX
      have hX : lookX w sv (ix came i) = some (vU64 v) := hX
      have hraw := hs.raw
      have hfd := fd_some hv
      have hwe := wErr_yes (own_wOk d hd)
      have hwo := own_wOut v d hd
      have hop : opOk (ocTo d (fd sf) came i) (ownW v d) = true := opOk_len (ocTo_length _ _ _ _) (ownW_length _ _) hd
      have hso : opOut (· + ·) (ocTo d (fd sf) came i) (ownW v d) = ocTo d (fd sf) came (i + 1) := by rw [opOut_yes hop, ocTo_length, ocTo_succ, hfd]
      simp (config := { maxSteps := 600000 }) only [hlt, i0, c0, o0, hA, hX, hraw, push_cast, ↓Int.toNat_natCast, ↓reduceIte, reduceCtorEq, Nat.reduceEqDiff, Nat.reduceLT]
      (repeat (refine And.intro (by first | omega | decide) ?_))
      refine callG_x rfl cb11 rfl (own10OK v d hk (by simp only [push_cast])) (dOk_lt rfl) (by simp only [push_cast, Nat.reduceLT]) ?_
      simp (config := { maxSteps := 600000 }) only [hwe, hwo, push_cast, ↓reduceIte, reduceCtorEq, Nat.reduceEqDiff, Nat.reduceLT, Nat.reduceAdd]
      refine callG_x rfl cb31 rfl (vecAddOK (shows_own rfl fun _ => rfl) (shows_own rfl fun _ => rfl) (by simp only [push_cast, Nat.reduceAdd])) (dOk_lt rfl) (by simp only [push_cast, Nat.reduceLT, Nat.reduceAdd]) ?_
      simp (config := { maxSteps := 600000 }) only [opErr_yes hop, hso, push_cast, ↓reduceIte, reduceCtorEq, Nat.reduceEqDiff, Nat.reduceLT, Nat.reduceAdd, Int.reduceNeg]
      (repeat (refine And.intro (by first | omega | decide) ?_))
      refine loopK_normal (i + 1) [2] (by omega) (by omega) ?_
      simp (config := { maxSteps := 600000 }) only [push_cast, ↓reduceIte, reduceCtorEq, Nat.reduceEqDiff, Nat.reduceLT]
    · have hil : i = came.length := by omega
      subst hil
      clear hi
      simp (config := { maxSteps := 600000 }) only [hlt, push_cast, ↓reduceIte, reduceCtorEq, Nat.reduceEqDiff, Nat.reduceLT]
      have e0 := (soTo_zero d (fd kf) came l (ocTo d (fd sf) came came.length)).symm
      refine loop_rule (ι := Nat) (fun i => ⟨[(0, (.x (.a (.v (.slice A2 came.length c2))))), (1, (.x (.a (.v (.slice A l.length c))))), (3, .x (.a (.v kv))), (4, .x (.a (.v (.int .i64 d)))), (12, .x (.a (.o 0))), (74, (.x (.a (.v (.slice A l.length c))))), (75, .x (.a (.v (.int .i64 l.length)))), (76, .x (.a (.v (.int .i64 i))))], [.own 23 (.u32 (soTo d (fd kf) came l (ocTo d (fd sf) came came.length) i))]⟩) (fun i => i ≤ l.length) (fun i => l.length - i) 0 [0] (by omega) ?_ ?_
      · simp (config := { maxSteps := 600000 }) only [← e0, push_cast, ↓Int.cast_ofNat_Int, Int.cast_ofNat_Int, ↓reduceIte, reduceCtorEq, Nat.reduceEqDiff, Nat.reduceLT]
      · intro i hi
        have hsl := soTo_length (f := fd kf) (came := came) (l := l) (ocTo_length d (fd sf) came came.length) i
        by_cases hlt : (i : Int) < l.length
        · have i0 : (0 : Int) ≤ i := by omega
          have c0 := F.c0 i (by omega)
          have c1 := F.c1 i (by omega)
          have o0 := F.ok0 i (by omega)
          have o1 := F.ok1 i (by omega)
          have hA := F.some_ (by omega)
          simp (config := { maxSteps := 600000 }) only [hlt, i0, c0, c1, o0, o1, hA, pAdd_zero, pAdd_add, pAdd_isSome, undef, push_cast, ↓Int.toNat_natCast, ↓reduceIte, reduceCtorEq, Nat.reduceEqDiff, Nat.reduceLT, Nat.reduceAdd]
          (repeat (refine And.intro (by first | omega | decide) ?_))
          refine callG_v rfl cb32 rfl (containsIOK (l := came) (ix l i).1 hl2 (shows_raw hR2 _ _ (by simp) hc2)) (dOk_lt rfl) ?_
          cases hin : isIn came (ix l i).1
          · obtain ⟨v, hv⟩ := given_key hg (i := i) (by omega) hin
            have hX := hkv.look (ix l i).1
            rw [hv] at hX
            have hX : lookX w kv (ix l i).1 = some (vU64 v) := hX
            have hraw := hkv.raw
            have hwo := withL_ok (came := came) (i := i) hm (by omega) hd
            have hpo := hidW_out (came := came) (i := i) (fd kf) hm (by omega) hd
            rw [fd_some hv] at hpo
            have hop : opOk (soTo d (fd kf) came l (ocTo d (fd sf) came came.length) i) (hidW came l d (fd kf) i) = true := opOk_len hsl (hidW_length _ _ _ _ _) hd
            have hso : opOut (· - ·) (soTo d (fd kf) came l (ocTo d (fd sf) came came.length) i) (hidW came l d (fd kf) i) = soTo d (fd kf) came l (ocTo d (fd sf) came came.length) (i + 1) := by rw [opOut_yes hop, hsl, soTo_out hin]
            simp (config := { maxSteps := 600000 }) only [push_cast, ↓reduceIte]
            refine draw_rule [(0, true), (1, true), (2, true), (3, true), (4, true), (5, true), (6, true), (7, true), (8, true), (10, true), (9, false), (11, false), (12, true), (13, true), (14, true), (15, true), (16, true)] (by kernel_rfl) (by kernel_rfl) rfl (by kernel_rfl) ?_
            simp (config := { maxSteps := 600000 }) only [hX, hraw, undef, push_cast, ↓reduceIte, reduceCtorEq, Nat.reduceEqDiff, Nat.reduceLT, Nat.reduceAdd]
            (repeat (refine And.intro (by first | omega | decide) ?_))
            refine callM_x rfl cb34 rfl (withOK (ix l i) (by omega) hl2 (shows_raw hR2 _ _ (by simp) hc2) (showsR_raw hR hc) (by simp only [push_cast, Nat.reduceAdd])) (dOk_lt rfl) (by simp only [push_cast, Nat.reduceLT, Nat.reduceAdd]) ?_
            simp (config := { maxSteps := 600000 }) only [push_cast, ↓reduceIte, Nat.reduceAdd]
            (repeat (refine And.intro (by first | omega | decide) ?_))
            refine callM_x rfl cb33 rfl (pairRowOK (l := withL (ix l i) came l) (ix l i).1 v d (showsR_pcs rfl) hk (by simp only [pcs_forall, push_cast, Nat.reduceAdd])) (dOk_lt rfl) (by simp only [pcs_forall, push_cast, Nat.reduceLT, Nat.reduceAdd]) ?_
            simp (config := { maxSteps := 600000 }) only [prErr_yes hwo, hpo, push_cast, ↓reduceIte, reduceCtorEq, Nat.reduceEqDiff, Nat.reduceLT, Nat.reduceAdd]
            (repeat (refine And.intro (by first | omega | decide) ?_))
            refine callG_x rfl cb18 rfl (vecSubOK (shows_own rfl fun _ => rfl) (shows_own rfl fun _ => rfl) (by simp only [pcs_forall, push_cast, Nat.reduceAdd])) (dOk_lt rfl) (by simp only [pcs_forall, push_cast, Nat.reduceLT, Nat.reduceAdd]) ?_
            simp (config := { maxSteps := 600000 }) only [opErr_yes hop, hso, push_cast, ↓reduceIte, reduceCtorEq, Nat.reduceEqDiff, Nat.reduceLT, Nat.reduceAdd, Int.reduceNeg]
            (repeat (refine And.intro (by first | omega | decide) ?_))
            refine loopK_normal (i + 1) [4] (by omega) (by omega) ?_
            simp (config := { maxSteps := 600000 }) only [push_cast, ↓reduceIte, reduceCtorEq, Nat.reduceEqDiff, Nat.reduceLT]
          · have hso := soTo_in (d := d) (f := fd kf) (s := ocTo d (fd sf) came came.length) hin
            simp (config := { maxSteps := 600000 }) only [push_cast, ↓reduceIte, reduceCtorEq, Nat.reduceEqDiff, Nat.reduceLT, Nat.reduceAdd, Int.reduceNeg]
            (repeat (refine And.intro (by first | omega | decide) ?_))
            refine loopK_normal (i + 1) [0] (by omega) (by omega) ?_
            simp (config := { maxSteps := 600000 }) only [hso, push_cast, ↓reduceIte, reduceCtorEq, Nat.reduceEqDiff, Nat.reduceLT]
        · have hil : i = l.length := by omega
          subst hil
          have e1 : erV (opnNum came l sf kf d) = .nilIface := by rw [hnum]; rfl
          have e2 : soTo d (fd kf) came l (ocTo d (fd sf) came came.length) l.length = opnOut came l sf kf d := (opnVal_eq came l sf kf d).trans hout.symm
          simp (config := { maxSteps := 600000 }) only [hlt, e1, e2, ownT2, ownT, push_cast, ↓reduceIte, reduceCtorEq, Nat.reduceEqDiff, Nat.reduceLT]
theorem blindOpenOK {w0 : World} {hp : List Res} {s1 s2 s3 s4 : Sv} {came : List Int} {l : List Pr} {sf kf : Int → Option UInt64} (dim : Int) (hl : l.length ≤ 1000000) (hl2 : came.length ≤ 1000000) (h1 : Shows w0 No hp s1 (came.map vI64)) (h2 : ShowsR w0 No hp s2 l.length (pvs l)) (h3 : ShowsM w0 No hp s3 sf) (h4 : ShowsM w0 No hp s4 kf) (hk : LaidK 1 w0) (hbr : ∀ r ∈ hp, Res.bnd hp.length r) :
    CallOK Tryz.prog w0 No 17 [s1, s2, s3, s4, .x (.a (.v (.int .i64 dim)))] hp (.t [.a (.o hp.length), .a (.v (erV (opnNum came l sf kf dim)))]) (hp ++ [.own 23 (.u32 (opnOut came l sf kf dim))]) := callOK_own2 hbr trivial fun γ w hS => by
  obtain ⟨A, c, e1, b1, r1⟩ := h1 γ w hS
  obtain ⟨A2, c2, e2, b2, r2⟩ := h2 γ w hS
  rw [List.length_map] at e1 b1
  show Calls _ _ #[s1.val γ, s2.val γ, s3.val γ, s4.val γ, .int .i64 dim] w _
  rw [e1, e2]
  exact blindOpen_any came l sf kf _ _ dim A2 c2 A c w hl hl2 b2 b1 r2 r1 (h3 γ w hS) (h4 γ w hS) (laid_later hk hS)
end Go.Proofs.YtombphphaoeeiaaGreatDoor
