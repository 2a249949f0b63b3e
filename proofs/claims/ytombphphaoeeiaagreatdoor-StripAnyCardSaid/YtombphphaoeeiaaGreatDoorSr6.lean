import Derived.Test.YtombphphaoeeiaaGreatDoorSr4
import Derived.Test.YtombphphaoeeiaaGreatDoorSr5
/- A row of which what hides it is taken off, group by group (strip's Row). -/
namespace Go.Proofs.YtombphphaoeeiaaGreatDoor
open Go.RowKit
set_option linter.unusedSimpArgs false
set_option linter.unusedVariables false
attribute [local irreducible] Callable CallOK CallG CallM DrawG LoopG symR symM
section
variable {w0 : World} {hp : List Res} {sv : Sv} {g : Gr}
theorem secretsNo (h : ShowsG w0 hp sv g) (he : ¬ g.err = 0) : CallOK Tryz.prog w0 No 8 [sv] hp (.t [.a (.v (.map none)), .a (.v (.map none)), .a (.v (.iface 63 (.int .i64 g.err)))]) hp := callOK_v fun γ w hS => by
  obtain ⟨G, e, ok, rfl⟩ := h γ w hS
  show Calls _ _ #[sv.val γ] w _
  rw [e]
  refine (secrets_any G w ok).mono ?_
  rintro e w' ⟨b, γ1, hb, he', hS'⟩
  have hb : b = decide (G.gr.err = 0) := hb
  rw [decide_eq_false he] at hb
  subst hb
  exact ⟨he', hS'.keeps.below (Nat.le_refl _) fun _ h => h.elim⟩
theorem secretsYes (h : ShowsG w0 hp sv g) (he : g.err = 0) (hbr : ∀ r ∈ hp, Res.bnd hp.length r) : CallOK Tryz.prog w0 No 8 [sv] hp (.t [.a (.o hp.length), .a (.o (hp.length + 1)), .a (.v .nilIface)]) (hp ++ [.mp .i64 (g.sd g.ps.length), .mp .i64 (g.ky g.ps.length)]) := by
  have bs := fun n => g.sd_bnd n g.ps.length
  have bk := fun n => g.ky_bnd n g.ps.length
  have rs := fun ρ => g.sd_ren ρ g.ps.length
  have rk := fun ρ => g.ky_ren ρ g.ps.length
  have := callOK_take (P := Tryz.prog) (f := 8) (svs := [sv]) (w0 := w0) (ow := No) (sv1 := .t [.a (.o 0), .a (.o 1), .a (.v .nilIface)]) (hp1 := [.mp .i64 (g.sd g.ps.length), .mp .i64 (g.ky g.ps.length)]) [] hbr (by simp only [bs, bk, push_cast, Nat.reduceAdd]) (by simp only [push_cast, Nat.reduceLT, Nat.reduceAdd])
    fun γ w hS => ⟨No, fun b h => h.elim, by
      obtain ⟨G, e, ok, rfl⟩ := h γ w hS
      show Calls _ _ #[sv.val γ] w _
      rw [e]
      refine (secrets_any G w ok).mono ?_
      rintro e w' ⟨b, γ1, hb, he', hS'⟩
      have hb : b = decide (G.gr.err = 0) := hb
      rw [decide_eq_true he] at hb
      subst hb
      exact ⟨γ1, he', hS'⟩⟩
  simp only [goneAll, shiftL, List.range_succ, List.range_zero, rs, rk, push_cast, Nat.reduceAdd] at this
  exact this
theorem apartK {l : List Grp} {A : Option Addr} {c : Nat} (hG : GrsOk w0 A c l) : CallOK Tryz.prog w0 No 15 [.x (.a (.v (.slice A l.length c)))] hp (.x (.a (.v (.bool (apartG (grs l)))))) hp := callOK_v fun γ w hS =>
  apart_any l A c w ⟨hG.le, rdV_later hG.rd hS, fun G h => (hG.ok G h).later hS, hG.few⟩
end
theorem rowN_dim {l : List Gr} {row : List UInt32} (h : ¬ row.length ≤ 32) : rowN l row = 1 := by unfold rowN; rw [if_neg fun x => h x.1]
theorem rowN_apart {l : List Gr} {row : List UInt32} (h : apartG l = false) : rowN l row = 1 := by unfold rowN; rw [if_neg fun x => by rw [h] at x; exact absurd x.2 (by decide)]
theorem rowN_all {l : List Gr} {row : List UInt32} (h1 : row.length ≤ 32) (h2 : apartG l = true) : rowN l row = rwN l row.length l.length := by unfold rowN; rw [if_pos ⟨h1, h2⟩]
theorem rowO_no {l : List Gr} {row : List UInt32} (h : ¬ rowN l row = 0) : rowO l row = [] := by unfold rowO; rw [if_neg h]
theorem rowO_yes {l : List Gr} {row : List UInt32} (h : rowN l row = 0) : rowO l row = rwTo l row l.length := by unfold rowO; rw [if_pos h]
theorem rwN_stuck {l : List Gr} {d i : Nat} (h : ¬ rwN l d i = 0) : ∀ j, i ≤ j → rwN l d j = rwN l d i
  | 0, hj => by rw [show i = 0 by omega]
  | j + 1, hj => by
    by_cases e : i = j + 1
    · rw [e]
    · have := rwN_stuck h j (by omega)
      show (if rwN l d j = 0 then _ else rwN l d j) = _
      rw [this, if_neg h]
theorem rwN_next {l : List Gr} {d i : Nat} (h : rwN l d i = 0) : rwN l d (i + 1) = (ix l i).code d := by
  show (if rwN l d i = 0 then _ else rwN l d i) = _
  rw [if_pos h]
theorem row_code {l : List Gr} {row : List UInt32} {i : Nat} {n : Int} (h1 : row.length ≤ 32) (h2 : apartG l = true) (hi : i < l.length) (h : rwN l row.length i = 0) (hc : (ix l i).code row.length = n) (hn : ¬ n = 0) : rowN l row = n ∧ rowO l row = [] := by
  have e : rowN l row = n := by
    rw [rowN_all h1 h2, rwN_stuck (i := i + 1) (by rw [rwN_next h, hc]; exact hn) _ (by omega), rwN_next h, hc]
  exact ⟨e, rowO_no (by rw [e]; exact hn)⟩
theorem Gr.look_sf (g : Gr) (k : Int) : lookI (g.sd g.ps.length) k = (g.sf k).map fun v => .a (.v (vU64 v)) := g.lookI_sd k _
theorem Gr.look_kf (g : Gr) (k : Int) : lookI (g.ky g.ps.length) k = (g.kf k).map fun v => .a (.v (vU64 v)) := g.lookI_ky k _
theorem code_err {g : Gr} {d : Nat} (h : ¬ g.err = 0) : g.code d = g.err := by unfold Gr.code; rw [if_neg h]
theorem code_opn {g : Gr} {d : Nat} (h : g.err = 0) : g.code d = opnNum g.cm g.ps g.sf g.kf d := by unfold Gr.code; rw [if_pos h]
theorem opn_off {g : Gr} {d : Nat} (h : opnNum g.cm g.ps g.sf g.kf d = 0) : opnOut g.cm g.ps g.sf g.kf d = g.off d := by rw [opnOut_yes h]; rfl
theorem off_len (g : Gr) (d : Nat) : (g.off d).length = d := opnVal_length _ _ _ _ _
theorem rw_next {l : List Gr} {row : List UInt32} {g : Gr} {i : Nat} (h : ix l i = g) (hd : row.length ≤ 32) : opErr (rwTo l row i) (g.off row.length) = .nilIface ∧ opOut (· - ·) (rwTo l row i) (g.off row.length) = rwTo l row (i + 1) := by
  have l1 := rwTo_len l row i
  have l2 := off_len g row.length
  have hok : opOk (rwTo l row i) (g.off row.length) = true := by unfold opOk; rw [l1, l2, decide_eq_true hd, decide_eq_true rfl]; rfl
  refine ⟨opErr_yes hok, ?_⟩
  rw [opOut_yes hok, l1, ← h]
  rfl
attribute [local irreducible] apartG rwTo rwN rowN rowO Gr.sd Gr.ky Gr.err Gr.code Gr.off opnNum opnOut opOut opTo Gr.sf Gr.kf
set_option maxRecDepth 100000 in
set_option maxHeartbeats 8000000 in
theorem row32_any (l : List Grp) (A : Option Addr) (c : Nat) (row : List UInt32) (A2 : Option Addr) (c2 : Nat) (w : World) (hG : GrsOk w A c l) (hc : row.length ≤ c2) (hr : row.length ≤ 1000) (hR : RdV w w.heap.size A2 (row.map vU32)) (hk : LaidK 1 w) :
    Calls Tryz.prog 7 #[.slice A l.length c, .slice A2 row.length c2] w fun e w' => ∃ v, e = .returned (.tuple #[v, erV (rowN (grs l) row)]) ∧ Own w' w.heap.size 23 v ((rowO (grs l) row).map vU32) ∧ Below w.heap.size w w' := by
  have F := FGr.of hG.rd
  have hl := grs_len l
  refine calls_own2 (n := 65) Tryz.func7 rfl Tryz.ntmps7 [(.x (.a (.v (.slice A l.length c)))), (.x (.a (.v (.slice A2 row.length c2))))] (by simp) 23 (.u32 (rowO (grs l) row)) (erV (rowN (grs l) row)) (fun _ => rfl) ?_
  by_cases h1 : (32 : Int) < row.length
  · have e1 := rowN_dim (l := grs l) (row := row) (by omega)
    have e2 := rowO_no (l := grs l) (row := row) (by rw [e1]; decide)
    have e3 : erV 1 = .iface 63 (.int .i64 1) := rfl
    simp (config := { maxSteps := 1000000 }) only [h1, e1, e2, e3, undef, ownT2, ownT, push_cast, ↓reduceIte, reduceCtorEq, Nat.reduceEqDiff, Nat.reduceLT]
  simp (config := { maxSteps := 1000000 }) only [h1, push_cast, ↓reduceIte, reduceCtorEq, Nat.reduceEqDiff, Nat.reduceLT]
  (repeat (refine And.intro (by first | omega | decide) ?_))
  refine callG_v rfl cb15 rfl (apartK hG) (dOk_lt rfl) ?_
  cases ha : apartG (grs l)
  · have e1 := rowN_apart (row := row) ha
    have e2 := rowO_no (l := grs l) (row := row) (by rw [e1]; decide)
    have e3 : erV 1 = .iface 63 (.int .i64 1) := rfl
    simp (config := { maxSteps := 1000000 }) only [e1, e2, e3, ownT2, ownT, push_cast, ↓reduceIte, Nat.reduceEqDiff, Nat.reduceLT]
  simp (config := { maxSteps := 1000000 }) only [push_cast, ↓reduceIte, reduceCtorEq, Nat.reduceEqDiff, Nat.reduceLT]
  (repeat (refine And.intro (by first | omega | decide) ?_))
  have hd : row.length ≤ 32 := by omega
  refine callG_x rfl cb16 rfl (cloneUOK hr (shows_raw hR _ _ (by simp) hc) (by simp only [push_cast])) (dOk_lt rfl) (by simp only [push_cast]) ?_
  simp (config := { maxSteps := 1000000 }) only [push_cast, ↓reduceIte, reduceCtorEq, Nat.reduceLT]
  (repeat (refine And.intro (by first | omega | decide) ?_))
  refine loop_rule (ι := Nat) (fun i => ⟨[(1, (.x (.a (.v (.slice A2 row.length c2))))), (6, .x (.a (.o 0))), (24, (.x (.a (.v (.slice A l.length c))))), (25, .x (.a (.v (.int .i64 l.length)))), (26, .x (.a (.v (.int .i64 i))))], [.own 23 (.u32 (rwTo (grs l) row i))]⟩) (fun i => i ≤ l.length ∧ rwN (grs l) row.length i = 0) (fun i => l.length - i) 0 [0] ⟨Nat.zero_le _, by unfold rwN; rfl⟩ ?_ ?_
  · have e0 : rwTo (grs l) row 0 = row := by unfold rwTo; rfl
    simp (config := { maxSteps := 1000000 }) only [e0, push_cast, ↓Int.cast_ofNat_Int, Int.cast_ofNat_Int, ↓reduceIte, reduceCtorEq, Nat.reduceEqDiff, Nat.reduceLT]
  rintro i ⟨hi, hI⟩
  by_cases hlt : (i : Int) < l.length
  · have hi' : i < l.length := by omega
    have i0 : (0 : Int) ≤ i := by omega
    have c0 := F.c0 i hi'
    have c1 := F.c1 i hi'
    have c2' := F.c2 i hi'
    have c3 := F.c3 i hi'
    have o0 := F.o0 i hi'
    have o1 := F.o1 i hi'
    have o2 := F.o2 i hi'
    have o3 := F.o3 i hi'
    have hA := F.some_ (by omega)
    have hGi := hG.ok _ (ix_memS hi')
    have f0 := hG.few
    have egr := grs_ix hi'
    obtain ⟨f1, f2, f3, f4⟩ := hGi.few
    have hcode : ∀ n, (ix l i).gr.code row.length = n → ¬ n = 0 → rowN (grs l) row = n ∧ rowO (grs l) row = [] := fun n hn h0 => row_code hd ha (by rw [hl]; exact hi') hI (by rw [egr]; exact hn) h0
    simp (config := { maxSteps := 1000000 }) only [hlt, i0, c0, c1, c2', c3, o0, o1, o2, o3, hA, pAdd_zero, pAdd_add, pAdd_isSome, undef, push_cast, ↓Int.toNat_natCast, ↓reduceIte, reduceCtorEq, Nat.reduceEqDiff, Nat.reduceLT, Nat.reduceAdd]
    (repeat (refine And.intro (by first | omega | decide) ?_))
    obtain ⟨G, hGe⟩ : ∃ G, G = ix l i := ⟨_, rfl⟩
    rw [← hGe] at hGi egr hcode f1 f2 f3
    rw [← hGe]
    by_cases he : G.gr.err = 0
    · have bs := fun n => G.gr.sd_bnd n G.gr.ps.length
      have bk := fun n => G.gr.ky_bnd n G.gr.ps.length
      refine callG_rule rfl cb8 rfl (secretsYes (showsG_raw hGi) he (by simp (config := { maxSteps := 1000000 }) only [push_cast, Nat.reduceAdd])) (dOk_lt rfl) (fun _ => by simp (config := { maxSteps := 1000000 }) only [push_cast, Nat.reduceLT, Nat.reduceAdd]) ?_
      simp (config := { maxSteps := 1000000 }) only [List.nil_append, List.cons_append, undef, push_cast, ↓reduceIte, reduceCtorEq, Nat.reduceEqDiff, Nat.reduceLT, Nat.reduceAdd]
      (repeat (refine And.intro (by first | omega | decide) ?_))
      refine callG_x rfl cb17 rfl (blindOpenOK (came := G.cm) (l := G.ps) (sf := G.gr.sf) (kf := G.gr.kf) (row.length : Int) (by omega) (by omega) (shows_raw hGi.cR _ _ (by simp) hGi.cl) (showsR_raw hGi.pR hGi.pl) (showsM_mp rfl fun k => G.gr.look_sf k) (showsM_mp rfl fun k => G.gr.look_kf k) hk (by simp (config := { maxSteps := 1000000 }) only [bs, bk, push_cast, Nat.reduceAdd])) (dOk_lt rfl) (by simp (config := { maxSteps := 1000000 }) only [bs, bk, push_cast, Nat.reduceLT, Nat.reduceAdd]) ?_
      by_cases ho : opnNum G.cm G.ps G.gr.sf G.gr.kf (row.length : Int) = 0
      · have oo : opnOut G.cm G.ps G.gr.sf G.gr.kf (row.length : Int) = G.gr.off row.length := opn_off (g := G.gr) ho
        have ez : erV 0 = .nilIface := rfl
        obtain ⟨n1, n2⟩ := rw_next (row := row) egr hd
        simp (config := { maxSteps := 1000000 }) only [ho, oo, ez, push_cast, ↓reduceIte, Nat.reduceEqDiff, Nat.reduceLT, Nat.reduceAdd]
        (repeat (refine And.intro (by first | omega | decide) ?_))
        refine callG_x rfl cb18 rfl (vecSubOK (a := rwTo (grs l) row i) (b := G.gr.off row.length) (shows_own rfl fun _ => rfl) (shows_own rfl fun _ => rfl) (by simp (config := { maxSteps := 1000000 }) only [bs, bk, push_cast, Nat.reduceAdd])) (dOk_lt rfl) (by simp (config := { maxSteps := 1000000 }) only [bs, bk, push_cast, Nat.reduceLT, Nat.reduceAdd]) ?_
        simp (config := { maxSteps := 1000000 }) only [n1, n2, push_cast, ↓reduceIte, Nat.reduceEqDiff, Nat.reduceLT, Nat.reduceAdd, Int.reduceNeg]
        (repeat (refine And.intro (by first | omega | decide) ?_))
        refine loopK_normal (i + 1) [5] ⟨by omega, by rw [rwN_next hI, egr, code_opn he]; exact ho⟩ (by omega) ?_
        simp (config := { maxSteps := 1000000 }) only [push_cast, ↓reduceIte, Nat.reduceEqDiff, Nat.reduceLT]
      · obtain ⟨e1, e2⟩ := hcode _ (code_opn he) ho
        have en : erV (opnNum G.cm G.ps G.gr.sf G.gr.kf (row.length : Int)) = .iface 63 (.int .i64 (opnNum G.cm G.ps G.gr.sf G.gr.kf (row.length : Int))) := erV_ne ho
        have e1' : rowN (grs l) row = opnNum G.cm G.ps G.gr.sf G.gr.kf (row.length : Int) := e1
        simp (config := { maxSteps := 1000000 }) only [e1', e2, en, ownT2, ownT, push_cast, ↓reduceIte, Nat.reduceEqDiff, Nat.reduceLT, Nat.reduceAdd]
    · obtain ⟨e1, e2⟩ := hcode _ (code_err he) he
      have en : erV G.gr.err = .iface 63 (.int .i64 G.gr.err) := erV_ne he
      refine callG_v rfl cb8 rfl (secretsNo (showsG_raw hGi) he) (dOk_lt rfl) ?_
      simp (config := { maxSteps := 1000000 }) only [e1, e2, en, ownT2, ownT, push_cast, ↓reduceIte, Nat.reduceEqDiff, Nat.reduceLT, Nat.reduceAdd]
  have hii : i = l.length := by omega
  subst hii
  have e1 : rowN (grs l) row = 0 := by rw [rowN_all hd ha, hl]; exact hI
  have e2 : rowO (grs l) row = rwTo (grs l) row l.length := by rw [rowO_yes e1, hl]
  have ez : erV 0 = .nilIface := rfl
  simp (config := { maxSteps := 1000000 }) only [hlt, e1, e2, ez, ownT2, ownT, push_cast, ↓reduceIte, Nat.reduceEqDiff, Nat.reduceLT]
theorem row32K {w0 : World} {hp : List Res} {s1 s2 : Sv} {l : List Gr} {row : List UInt32} (hr : row.length ≤ 1000) (h1 : ∀ γ w, Sat w0 No γ hp w → ∃ (A : Option Addr) (c : Nat) (L : List Grp), s1.val γ = .slice A L.length c ∧ GrsOk w A c L ∧ grs L = l) (h2 : Shows w0 No hp s2 (row.map vU32)) (hk : LaidK 1 w0) (hbr : ∀ r ∈ hp, Res.bnd hp.length r) :
    CallOK Tryz.prog w0 No 7 [s1, s2] hp (.t [.a (.o hp.length), .a (.v (erV (rowN l row)))]) (hp ++ [.own 23 (.u32 (rowO l row))]) := callOK_own2 hbr trivial fun γ w hS => by
  obtain ⟨A, c, L, e1, ok, rfl⟩ := h1 γ w hS
  obtain ⟨A2, c2, e2, b2, r2⟩ := h2 γ w hS
  rw [List.length_map] at e2 b2
  show Calls _ _ #[s1.val γ, s2.val γ] w _
  rw [e1, e2]
  exact row32_any L A c row A2 c2 w ok b2 hr r2 (laid_later hk hS)
end Go.Proofs.YtombphphaoeeiaaGreatDoor
