import Derived.Test.YtombphphaoeeiaaGreatDoorBl1
import Derived.Test.YtombphphaoeeiaaGreatDoorSetA
import Derived.Test.YtombphphaoeeiaaGreatDoorPrA
/- Who came, of peers: the small functions of rows that are hidden. -/
namespace Go.Proofs.YtombphphaoeeiaaGreatDoor
open Go.RowKit
set_option linter.unusedSimpArgs false
abbrev peV (p : Pr) : Array Value := #[.agg #[.int .i64 p.1, vU64 p.2]]
attribute [local irreducible] Callable CallOK CallG CallM DrawG LoopG symR symM
/-- A test of peers that came in as a function. -/
def PeerFn (w : World) (fv : Value) (F : Pr → Bool) : Prop := PureFn Tryz.prog w fv peV fun p => .bool (F p)
set_option maxRecDepth 100000 in
theorem indexP_any (l : List Pr) (fv : Value) (F : Pr → Bool) (A : Option Addr) (c : Nat) (w : World) (hl : l.length ≤ 1000000) (hR : RdV w w.heap.size A (pvs l)) (hF : PeerFn w fv F) : Calls Tryz.prog 71 #[.slice A l.length c, fv] w fun e w' => e = .returned (.int .i64 (firstI (fun i => F (ix l i)) l.length)) ∧ Below w.heap.size w w' := by
  have G := FP.of hR
  refine calls_v (n := 19) Tryz.func71 rfl Tryz.ntmps71 [(.x (.a (.v (.slice A l.length c)))), .x (.a (.v fv))] (by simp) (.x (.a (.v (.int .i64 (firstI (fun i => F (ix l i)) l.length))))) (fun _ => rfl) ?_
  simp only [push_cast, ↓reduceIte, reduceCtorEq, Nat.reduceLT, Int.reduceNeg]
  refine loop_rule (ι := Nat) (fun i => ⟨[(0, (.x (.a (.v (.slice A l.length c))))), (1, .x (.a (.v fv))), (7, .x (.a (.v (.int .i64 l.length)))), (8, .x (.a (.v (.int .i64 i))))], []⟩) (fun i => i ≤ l.length ∧ ∀ j, j < i → F (ix l j) = false) (fun i => l.length - i) 0 [] ⟨by omega, fun j h => by omega⟩ ?_ ?_
  · simp only [push_cast, ↓Int.cast_ofNat_Int, Int.cast_ofNat_Int, ↓reduceIte, reduceCtorEq, Nat.reduceEqDiff]
  · rintro i ⟨hi, hj⟩
    by_cases hlt : (i : Int) < l.length
    · have i0 : (0 : Int) ≤ i := by omega
      have c0 := G.c0 i (by omega)
      have c1 := G.c1 i (by omega)
      have o0 := G.ok0 i (by omega)
      have o1 := G.ok1 i (by omega)
      have hA := G.some_ (by omega)
      simp only [hlt, i0, c0, c1, o0, o1, hA, pAdd_zero, pAdd_add, pAdd_isSome, push_cast, ↓Int.toNat_natCast, ↓reduceIte, reduceCtorEq, Nat.reduceEqDiff, Nat.reduceLT, Int.reduceNeg]
      (repeat (refine And.intro (by first | omega | decide) ?_))
      refine callV_rule (ix l i) (.x (.a (.v (.bool (F (ix l i)))))) hF rfl rfl rfl (fun _ => rfl) (fun _ => rfl) (fun _ h => h) (dOk_lt rfl) ?_
      cases h : F (ix l i)
      · simp only [push_cast, ↓reduceIte, reduceCtorEq, Nat.reduceEqDiff, Nat.reduceLT, Int.reduceNeg]
        (repeat (refine And.intro (by first | omega | decide) ?_))
        refine loopK_normal (i + 1) [] ⟨by omega, fun j hjl => ?_⟩ (by omega) ?_
        · by_cases e : j = i
          · rw [e]; exact h
          · exact hj j (by omega)
        · simp only [push_cast, ↓reduceIte, reduceCtorEq, Nat.reduceEqDiff]
      · have hp := firstI_at (F := fun i => F (ix l i)) (n := l.length) (i := i) (by omega) h hj
        simp only [hp, push_cast, ↓reduceIte, Nat.reduceEqDiff, Nat.reduceLT, Int.reduceNeg]
    · have hp := firstI_no (F := fun i => F (ix l i)) (n := l.length) (fun j h => hj j (by omega))
      simp only [hlt, hp, push_cast, ↓reduceIte, reduceCtorEq, Nat.reduceEqDiff, Nat.reduceLT, Int.reduceNeg]
def anyP (F : Pr → Bool) (l : List Pr) : Bool := l.any F
theorem firstP_any (F : Pr → Bool) (l : List Pr) : decide (0 ≤ firstI (fun i => F (ix l i)) l.length) = anyP F l := by
  rw [Bool.eq_iff_iff, decide_eq_true_eq, firstI_ge]
  unfold anyP
  rw [List.any_eq_true]
  constructor
  · rintro ⟨i, hi, h⟩
    exact ⟨_, ix_mem hi, h⟩
  · rintro ⟨p, hp, h⟩
    obtain ⟨i, hi, rfl⟩ := mem_ix hp
    exact ⟨i, hi, h⟩
set_option maxRecDepth 100000 in
theorem containsP_any (l : List Pr) (fv : Value) (F : Pr → Bool) (A : Option Addr) (c : Nat) (w : World) (hl : l.length ≤ 1000000) (hR : RdV w w.heap.size A (pvs l)) (hF : PeerFn w fv F) : Calls Tryz.prog 51 #[.slice A l.length c, fv] w fun e w' => e = .returned (.bool (anyP F l)) ∧ Below w.heap.size w w' := by
  refine calls_v (n := 9) Tryz.func51 rfl Tryz.ntmps51 [(.x (.a (.v (.slice A l.length c)))), .x (.a (.v fv))] (by simp) (.x (.a (.v (.bool (anyP F l))))) (fun _ => rfl) ?_
  have hp := firstP_any F l
  simp only [push_cast, ↓reduceIte, reduceCtorEq, Nat.reduceEqDiff, Nat.reduceLT]
  refine callG_v (sv := .x (.a (.v (.int .i64 (firstI (fun i => F (ix l i)) l.length))))) rfl cb71 rfl (callOK_v fun γ w' hS => ?_) (dOk_lt rfl) ?_
  · have hk := hS.keeps
    refine indexP_any l fv F A c w' hl (rd_later hR hS) ?_
    obtain ⟨f, caps, e, hcb, hF⟩ := hF
    exact ⟨f, caps, e, hcb, fun w2 x h2 => hF w2 x (hk.trans h2)⟩
  simp only [hp, push_cast, ↓reduceIte, Nat.reduceLT]
theorem containsPOK {w0 : World} {hp : List Res} {s1 s2 : Sv} {l : List Pr} (F : Pr → Bool) (hl : l.length ≤ 1000000) (h1 : ShowsR w0 No hp s1 l.length (pvs l)) (h2 : ∀ γ w, Sat w0 No γ hp w → PeerFn w (s2.val γ) F) : CallOK Tryz.prog w0 No 51 [s1, s2] hp (.x (.a (.v (.bool (anyP F l))))) hp := callOK_v fun γ w hS => by
  obtain ⟨A, c, e1, b1, r1⟩ := h1 γ w hS
  show Calls _ _ #[s1.val γ, s2.val γ] w _
  rw [e1]
  exact containsP_any l _ F A c w hl r1 (h2 γ w hS)
set_option maxRecDepth 100000 in
theorem among1_any (n : Int) (p : Pr) (a : Addr) (w : World) (_hs : a.spot = none) (h : w.cell? a = some (.int .i64 n)) : Calls Tryz.prog 52 (peV p ++ #[.pointer (some a)]) w fun e w' => e = .returned (.bool (decide (p.1 = n))) ∧ Below w.heap.size w w' := by
  have hb : rawOk w No (some a) := ⟨a, _, rfl, block_lt_of_cell h, fun h => h, h⟩
  have hc : cellOf w (some a) = .int .i64 n := by show (w.cell? a).getD undef = _; rw [h]; rfl
  refine calls_v (n := 8) Tryz.func52 rfl Tryz.ntmps52 [.x (.g [.v (.int .i64 p.1), .v (vU64 p.2)]), .x (.a (.v (.pointer (some a))))] (by simp) (.x (.a (.v (.bool (decide (p.1 = n)))))) (fun _ => rfl) ?_
  simp only [hb, hc, undef, push_cast, ↓reduceIte, reduceCtorEq, Nat.reduceEqDiff, Nat.reduceLT, Nat.reduceAdd]
theorem among1_fn {w0 : World} {hp : List Res} {k : Nat} {t : TypeId} {n : Int} (hr : hp[k]? = some (.blk t (.c [.v (.int .i64 n)]))) : ∀ γ w, Sat w0 No γ hp w → PeerFn w (Sv.val γ (.f (.func 52) [.p k 0])) fun p => decide (p.1 = n) := fun γ w hS => by
  refine ⟨52, #[.pointer (some ⟨nmB γ k, 0, none⟩)], rfl, cb52, fun w' p hk => ?_⟩
  have hc := hS.cell hr (i := 0) (by simp [Cont.len])
  have hlt := block_lt_of_cell hc
  have hc' : w'.cell? ⟨nmB γ k, 0, none⟩ = some (.int .i64 n) := (cell_block (p := ⟨nmB γ k, 0, none⟩) (hk.block _ hlt (fun h => h))).trans hc
  exact among1_any n p _ w' rfl hc'
theorem any_id (l : List Pr) (n : Int) : anyP (fun p => decide (p.1 = n)) l = hasId l n := rfl
set_option maxRecDepth 100000 in
set_option maxHeartbeats 1000000 in
theorem among_any (came : List Int) (l : List Pr) (A : Option Addr) (c : Nat) (A2 : Option Addr) (c2 : Nat) (w : World) (hl : l.length ≤ 1000000) (hl2 : came.length ≤ 1000000) (hc : l.length ≤ c) (hR : RdV w w.heap.size A (pvs l)) (hR2 : RdV w w.heap.size A2 (came.map vI64)) : Calls Tryz.prog 29 #[.slice A2 came.length c2, .slice A l.length c] w fun e w' => e = .returned (.bool (among came l)) ∧ Below w.heap.size w w' := by
  have F := FM.of hR2
  refine calls_v (n := 25) Tryz.func29 rfl Tryz.ntmps29 [(.x (.a (.v (.slice A2 came.length c2)))), (.x (.a (.v (.slice A l.length c))))] (by simp) (.x (.a (.v (.bool (among came l))))) (fun _ => rfl) ?_
  simp only [push_cast, ↓reduceIte, reduceCtorEq, Nat.reduceLT, Int.reduceNeg]
  refine loop_rule (ι := Nat) (fun i => ⟨[(1, (.x (.a (.v (.slice A l.length c))))), (5, .x (.a (.v (.int .i64 (lastI came i))))), (8, (.x (.a (.v (.slice A2 came.length c2))))), (9, .x (.a (.v (.int .i64 came.length)))), (10, .x (.a (.v (.int .i64 i))))], []⟩) (fun i => i ≤ came.length ∧ ∀ j, j < i → amGood came l j = true) (fun i => came.length - i) 0 [] ⟨by omega, fun j h => by omega⟩ ?_ ?_
  · simp only [lastI_zero, push_cast, ↓Int.cast_ofNat_Int, Int.cast_ofNat_Int, ↓reduceIte, reduceCtorEq, Nat.reduceEqDiff, Int.reduceNeg]
  · rintro i ⟨hi, hj⟩
    by_cases hlt : (i : Int) < came.length
    · have i0 : (0 : Int) ≤ i := by omega
      have c0 : cellOf w (pAdd A2 i) = .int .i64 (ix came i) := F.cell i (by omega)
      have o0 := F.ok i (by omega)
      have hA := F.some_ (by omega)
      by_cases h1 : ix came i ≤ lastI came i
      · have hg : among came l = false := among_no (i := i) (by omega) (by unfold amGood; rw [decide_eq_false (by omega)]; rfl)
        simp only [hlt, i0, c0, o0, hA, h1, hg, undef, push_cast, ↓Int.toNat_natCast, ↓reduceIte, reduceCtorEq, Nat.reduceEqDiff, Nat.reduceLT]
      · simp only [hlt, i0, c0, o0, hA, h1, undef, push_cast, ↓Int.toNat_natCast, ↓reduceIte, reduceCtorEq, Nat.reduceEqDiff, Nat.reduceLT]
        (repeat (refine And.intro (by first | omega | decide) ?_))
        refine callG_v rfl cb51 rfl (containsPOK (l := l) (fun p => decide (p.1 = ix came i)) hl (showsR_raw hR hc) (among1_fn rfl)) (dOk_lt rfl) ?_
        simp only [any_id]
        cases h2 : hasId l (ix came i)
        · have hg : among came l = false := among_no (i := i) (by omega) (by unfold amGood; rw [h2, Bool.and_false])
          simp only [hg, push_cast, ↓reduceIte, Nat.reduceEqDiff, Nat.reduceLT]
        · have hg : amGood came l i = true := by unfold amGood; rw [h2, decide_eq_true (by omega)]; rfl
          simp only [undef, push_cast, ↓reduceIte, Nat.reduceEqDiff, Nat.reduceLT, Int.reduceNeg]
          (repeat (refine And.intro (by first | omega | decide) ?_))
          refine loopK_normal (i + 1) [] ⟨by omega, fun j hjl => ?_⟩ (by omega) ?_
          · by_cases e : j = i
            · rw [e]; exact hg
            · exact hj j (by omega)
          · simp only [lastI_succ, push_cast, ↓reduceIte, Nat.reduceEqDiff]
    · have hg : among came l = true := among_iff.2 fun j h => hj j (by omega)
      simp only [hlt, hg, push_cast, ↓reduceIte, Nat.reduceEqDiff, Nat.reduceLT]
theorem amongOK {w0 : World} {hp : List Res} {s1 s2 : Sv} {came : List Int} {l : List Pr} (hl : l.length ≤ 1000000) (hl2 : came.length ≤ 1000000) (h1 : Shows w0 No hp s1 (came.map vI64)) (h2 : ShowsR w0 No hp s2 l.length (pvs l)) : CallOK Tryz.prog w0 No 29 [s1, s2] hp (.x (.a (.v (.bool (among came l))))) hp := callOK_v fun γ w hS => by
  obtain ⟨A, c, e1, b1, r1⟩ := h1 γ w hS
  obtain ⟨A2, c2, e2, b2, r2⟩ := h2 γ w hS
  rw [List.length_map] at e1
  show Calls _ _ #[s1.val γ, s2.val γ] w _
  rw [e1, e2]
  exact among_any came l A2 c2 A c w hl hl2 b2 r2 r1
set_option maxRecDepth 100000 in
set_option maxHeartbeats 1000000 in
theorem given_any (came : List Int) (l : List Pr) (sf kf : Int → Option UInt64) (sv kv : Value) (A : Option Addr) (c : Nat) (A2 : Option Addr) (c2 : Nat) (w : World) (hl : l.length ≤ 1000000) (hl2 : came.length ≤ 1000000) (hc2 : came.length ≤ c2) (hR : RdV w w.heap.size A (pvs l)) (hR2 : RdV w w.heap.size A2 (came.map vI64)) (hs : RawU w sv sf) (hk : RawU w kv kf) :
    Calls Tryz.prog 30 #[.slice A2 came.length c2, .slice A l.length c, sv, kv] w fun e w' => e = .returned (.bool (given came l sf kf)) ∧ Below w.heap.size w w' := by
  have F := FP.of hR
  refine calls_v (n := 36) Tryz.func30 rfl Tryz.ntmps30 [(.x (.a (.v (.slice A2 came.length c2)))), (.x (.a (.v (.slice A l.length c)))), .x (.a (.v sv)), .x (.a (.v kv))] (by simp) (.x (.a (.v (.bool (given came l sf kf))))) (fun _ => rfl) ?_
  simp only [push_cast, ↓reduceIte, reduceCtorEq, Nat.reduceEqDiff, Nat.reduceLT, Nat.reduceAdd]
  refine loop_rule (ι := Nat) (fun i => ⟨[(0, (.x (.a (.v (.slice A2 came.length c2))))), (2, .x (.a (.v sv))), (3, .x (.a (.v kv))), (14, (.x (.a (.v (.slice A l.length c))))), (15, .x (.a (.v (.int .i64 l.length)))), (16, .x (.a (.v (.int .i64 i))))], []⟩) (fun i => i ≤ l.length ∧ ∀ j, j < i → gvGood came l sf kf j = true) (fun i => l.length - i) 0 [] ⟨by omega, fun j h => by omega⟩ ?_ ?_
  · simp only [push_cast, ↓Int.cast_ofNat_Int, Int.cast_ofNat_Int, ↓reduceIte, reduceCtorEq, Nat.reduceEqDiff]
  · rintro i ⟨hi, hj⟩
    by_cases hlt : (i : Int) < l.length
    · have i0 : (0 : Int) ≤ i := by omega
      have c0 := F.c0 i (by omega)
      have c1 := F.c1 i (by omega)
      have o0 := F.ok0 i (by omega)
      have o1 := F.ok1 i (by omega)
      have hA := F.some_ (by omega)
      simp only [hlt, i0, c0, c1, o0, o1, hA, pAdd_zero, pAdd_add, pAdd_isSome, undef, push_cast, ↓Int.toNat_natCast, ↓reduceIte, reduceCtorEq, Nat.reduceEqDiff, Nat.reduceLT, Nat.reduceAdd]
      (repeat (refine And.intro (by first | omega | decide) ?_))
      refine callG_v rfl cb32 rfl (containsIOK (l := came) (ix l i).1 hl2 (shows_raw hR2 _ _ (by simp) hc2)) (dOk_lt rfl) ?_
      have next : gvGood came l sf kf i = true → ∀ j, j < i + 1 → gvGood came l sf kf j = true := fun hg j hjl => by
        by_cases e : j = i
        · rw [e]; exact hg
        · exact hj j (by omega)
      have no : gvGood came l sf kf i = false → given came l sf kf = false := fun hg => given_no (by omega) hg
      cases hin : isIn came (ix l i).1
      · have hX := hk.look (ix l i).1
        have hraw := hk.raw
        cases hkf : kf (ix l i).1 with
        | none =>
          rw [hkf] at hX
          have hX : lookX w kv (ix l i).1 = none := hX
          have hg := no (by unfold gvGood; rw [hin, hkf]; rfl)
          simp only [hX, hraw, hg, undef, push_cast, ↓reduceIte, reduceCtorEq, Nat.reduceEqDiff, Nat.reduceLT, Nat.reduceAdd]
        | some v =>
          rw [hkf] at hX
          have hX : lookX w kv (ix l i).1 = some (vU64 v) := hX
          simp only [hX, hraw, undef, push_cast, ↓reduceIte, reduceCtorEq, Nat.reduceEqDiff, Nat.reduceLT, Nat.reduceAdd, Int.reduceNeg]
          (repeat (refine And.intro (by first | omega | decide) ?_))
          refine loopK_normal (i + 1) [] ⟨by omega, next (by unfold gvGood; rw [hin, hkf]; rfl)⟩ (by omega) ?_
          simp only [push_cast, ↓reduceIte, reduceCtorEq, Nat.reduceEqDiff]
      · have hX := hs.look (ix l i).1
        have hraw := hs.raw
        cases hkf : sf (ix l i).1 with
        | none =>
          rw [hkf] at hX
          have hX : lookX w sv (ix l i).1 = none := hX
          have hg := no (by unfold gvGood; rw [hin, hkf]; rfl)
          simp only [hX, hraw, hg, undef, push_cast, ↓reduceIte, reduceCtorEq, Nat.reduceEqDiff, Nat.reduceLT, Nat.reduceAdd]
        | some v =>
          rw [hkf] at hX
          have hX : lookX w sv (ix l i).1 = some (vU64 v) := hX
          simp only [hX, hraw, undef, push_cast, ↓reduceIte, reduceCtorEq, Nat.reduceEqDiff, Nat.reduceLT, Nat.reduceAdd, Int.reduceNeg]
          (repeat (refine And.intro (by first | omega | decide) ?_))
          refine loopK_normal (i + 1) [] ⟨by omega, next (by unfold gvGood; rw [hin, hkf]; rfl)⟩ (by omega) ?_
          simp only [push_cast, ↓reduceIte, reduceCtorEq, Nat.reduceEqDiff]
    · have hg : given came l sf kf = true := given_iff.2 fun j h => hj j (by omega)
      simp only [hlt, hg, push_cast, ↓reduceIte, reduceCtorEq, Nat.reduceEqDiff, Nat.reduceLT]
theorem givenOK {w0 : World} {hp : List Res} {s1 s2 s3 s4 : Sv} {came : List Int} {l : List Pr} {sf kf : Int → Option UInt64} (hl : l.length ≤ 1000000) (hl2 : came.length ≤ 1000000) (h1 : Shows w0 No hp s1 (came.map vI64)) (h2 : ShowsR w0 No hp s2 l.length (pvs l)) (h3 : ShowsM w0 No hp s3 sf) (h4 : ShowsM w0 No hp s4 kf) : CallOK Tryz.prog w0 No 30 [s1, s2, s3, s4] hp (.x (.a (.v (.bool (given came l sf kf))))) hp := callOK_v fun γ w hS => by
  obtain ⟨A, c, e1, b1, r1⟩ := h1 γ w hS
  obtain ⟨A2, c2, e2, b2, r2⟩ := h2 γ w hS
  rw [List.length_map] at e1 b1
  show Calls _ _ #[s1.val γ, s2.val γ, s3.val γ, s4.val γ] w _
  rw [e1, e2]
  exact given_any came l sf kf _ _ A2 c2 A c w hl hl2 b1 r2 r1 (h3 γ w hS) (h4 γ w hS)
theorem pr_eq (p q : Pr) : (decide (p.1 = q.1) && decide (n64 p.2 = n64 q.2)) = decide (p = q) := by
  rw [Bool.eq_iff_iff]
  simp only [Bool.and_eq_true, decide_eq_true_eq, n64_inj]
  exact ⟨fun ⟨a, b⟩ => Prod.ext a b, fun h => by rw [h]; exact ⟨rfl, rfl⟩⟩
set_option maxRecDepth 100000 in
set_option maxHeartbeats 1000000 in
theorem with_any (one : Pr) (came : List Int) (l : List Pr) (A : Option Addr) (c : Nat) (A2 : Option Addr) (c2 : Nat) (w : World) (hl : l.length ≤ 1000) (hl2 : came.length ≤ 1000000) (hc2 : came.length ≤ c2) (hR : RdV w w.heap.size A (pvs l)) (hR2 : RdV w w.heap.size A2 (came.map vI64)) :
    Calls Tryz.prog 34 (List.map (Sv.val []) [.x (.g [.v (.int .i64 one.1), .v (vU64 one.2)]), (.x (.a (.v (.slice A2 came.length c2)))), (.x (.a (.v (.slice A l.length c))))]).toArray w fun e w' => ∃ γ1, e = .returned ((Sv.x (.a (.o 0))).val γ1) ∧ Sat w No γ1 [.onn 54 2 (.c (pcs (withL one came l)))] w' := by
  have F := FP.of hR
  refine calls_fun (n := 31) Tryz.func34 rfl Tryz.ntmps34 _ (Sat.init w No) (by simp) _ _ ?_
  simp only [push_cast, ↓reduceIte, reduceCtorEq, Nat.reduceEqDiff, Nat.reduceLT, Nat.reduceAdd]
  refine loop_ghostN 7 54 2 (.c []) (by omega) rfl rfl (by simp only [push_cast, Nat.reduceLT]) ?_
  refine loop_rule (ι := Nat) (fun i => ⟨[(1, (.x (.a (.v (.slice A2 came.length c2))))), (3, .x (.a (.p 0 0))), (7, .x (.a (.o 1))), (10, (.x (.a (.v (.slice A l.length c))))), (11, .x (.a (.v (.int .i64 l.length)))), (12, .x (.a (.v (.int .i64 i))))], [.blk 54 (.c [.v (.int .i64 one.1), .v (vU64 one.2)]), .onn 54 2 (.c (pcs (withTo one came l i)))]⟩) (fun i => i ≤ l.length) (fun i => l.length - i) 0 [0, 1] (by omega) ?_ ?_
  · simp only [withTo_zero, pcs_nil, push_cast, ↓Int.cast_ofNat_Int, Int.cast_ofNat_Int, ↓reduceIte, reduceCtorEq, Nat.reduceEqDiff, Nat.reduceLT, Nat.reduceAdd]
  · intro i hi
    by_cases hlt : (i : Int) < l.length
    · have i0 : (0 : Int) ≤ i := by omega
      have c0 := F.c0 i (by omega)
      have c1 := F.c1 i (by omega)
      have o0 := F.ok0 i (by omega)
      have o1 := F.ok1 i (by omega)
      have hA := F.some_ (by omega)
      have hw := withTo_length one came l i
      have hsn := (pcs_app (withTo one came l i) [ix l i]).symm
      have hpe := pr_eq (ix l i) one
      cases hd : decide (ix l i = one)
      · rw [hd] at hpe
        simp only [hlt, i0, c0, c1, o0, o1, hA, hpe, pAdd_zero, pAdd_add, pAdd_isSome, undef, push_cast, ↓Int.toNat_natCast, ↓reduceIte, reduceCtorEq, Nat.reduceEqDiff, Nat.reduceLT, Nat.reduceAdd]
        (repeat (refine And.intro (by first | omega | decide) ?_))
        refine callG_v rfl cb32 rfl (containsIOK (l := came) (ix l i).1 hl2 (shows_raw hR2 _ _ (by simp) hc2)) (dOk_lt rfl) ?_
        cases hin : isIn came (ix l i).1
        · have hno : withB came one (ix l i) = false := by unfold withB; rw [hd, hin]; rfl
          have e := withTo_no (one := one) (came := came) (l := l) (i := i) (by omega) hno
          simp only [push_cast, ↓reduceIte, Nat.reduceEqDiff, Nat.reduceLT, Nat.reduceAdd, Int.reduceNeg]
          (repeat (refine And.intro (by first | omega | decide) ?_))
          refine loopK_normal (i + 1) [0, 1] (by omega) (by omega) ?_
          simp only [e, push_cast, ↓reduceIte, reduceCtorEq, Nat.reduceEqDiff, Nat.reduceLT, Nat.reduceAdd]
        · have hyes : withB came one (ix l i) = true := by unfold withB; rw [hd, hin]; rfl
          have e := withTo_yes (one := one) (came := came) (l := l) (i := i) (by omega) hyes
          rw [pcs_cons, pcs_nil, ← e] at hsn
          simp only [hsn, push_cast, ↓reduceIte, Nat.reduceEqDiff, Nat.reduceLT, Nat.reduceLeDiff, Nat.reduceAdd, Nat.reduceMul, Int.reduceNeg]
          (repeat (refine And.intro (by first | omega | decide) ?_))
          refine loopK_normal (i + 1) [0, 4] (by omega) (by omega) ?_
          simp only [push_cast, ↓reduceIte, reduceCtorEq, Nat.reduceEqDiff, Nat.reduceLT, Nat.reduceAdd]
      · rw [hd] at hpe
        have hyes : withB came one (ix l i) = true := by unfold withB; rw [hd]; rfl
        have e := withTo_yes (one := one) (came := came) (l := l) (i := i) (by omega) hyes
        rw [pcs_cons, pcs_nil, ← e] at hsn
        simp only [hlt, i0, c0, c1, o0, o1, hA, hpe, hsn, pAdd_zero, pAdd_add, pAdd_isSome, undef, push_cast, ↓Int.toNat_natCast, ↓reduceIte, reduceCtorEq, Nat.reduceEqDiff, Nat.reduceLT, Nat.reduceLeDiff, Nat.reduceAdd, Nat.reduceMul, Int.reduceNeg]
        (repeat (refine And.intro (by first | omega | decide) ?_))
        refine loopK_normal (i + 1) [0, 4] (by omega) (by omega) ?_
        simp only [push_cast, ↓reduceIte, reduceCtorEq, Nat.reduceEqDiff, Nat.reduceLT, Nat.reduceAdd]
    · have e : i = l.length := by omega
      subst e
      have e := withTo_all one came l
      simp only [hlt, e, push_cast, ↓reduceIte, Nat.reduceEqDiff, Nat.reduceLT, Nat.reduceAdd]
      refine endsAs [1] ?_
      simp only [push_cast, ↓reduceIte, Nat.reduceLT]
end Go.Proofs.YtombphphaoeeiaaGreatDoor
