/- The document's rows that are hidden, and what hides their sum. -/
import Derived.Test.YteiifdpikcnbgaaDoorBl4
namespace Go.Proofs.YteiifdpikcnbgaaDoor
open Go.RowKit
set_option linter.unusedSimpArgs false
/-! ### Plain -/
theorem brOut_add {x : List UInt32} {me : Int} {seed key : UInt64} {l : List Pr} (h : brOk me l x.length = true) : opOut (· + ·) (opOut (· + ·) x (ownW seed x.length)) (prOut me key l x.length) = brOut x me seed key l ∧ opOk (opOut (· + ·) x (ownW seed x.length)) (prOut me key l x.length) = true ∧ opOk x (ownW seed x.length) = true := by
  have h' := h
  unfold brOk at h'
  simp only [Bool.and_eq_true, decide_eq_true_eq] at h'
  obtain ⟨h32, hp⟩ := h'
  have hpl := prTo_len (key := key) hp
  have ho := ownW_length seed x.length
  have h1 : opOk x (ownW seed x.length) = true := opOk_len rfl ho h32
  have e1 : opOut (· + ·) x (ownW seed x.length) = opTo (· + ·) x (ownW seed x.length) x.length := opOut_yes h1
  have h2 : opOk (opOut (· + ·) x (ownW seed x.length)) (prOut me key l x.length) = true := opOk_len (d := x.length) (by rw [e1, opTo_length]) hpl h32
  refine ⟨?_, h2, h1⟩
  rw [brOut_yes h, opOut_yes h2, e1, opTo_length]
  apply ext_ix
  · rw [opTo_length, sumR_length]
  · intro j hj
    rw [opTo_length] at hj
    rw [opTo_get _ _ _ _ _ hj, opTo_get _ _ _ _ _ hj]
    show _ = ix (sumR x.length [x, ownW seed x.length, prOut me key l x.length] 3) j
    rw [sumR_succ, opTo_get _ _ _ _ _ hj, sumR_succ, opTo_get _ _ _ _ _ hj, sumR_succ, opTo_get _ _ _ _ _ hj, sumR_zero, zeros_get]
    show _ = 0 + ix x j + ix (ownW seed x.length) j + ix (prOut me key l x.length) j
    rw [UInt32.zero_add]
theorem found_hasId (l : List Pr) (n : Int) : foundTo n l l.length = hasId l n := by
  rw [Bool.eq_iff_iff, foundTo_iff (Nat.le_refl _), hasId_iff]
theorem hasId_nonneg {l : List Pr} {n : Int} (hm : may l = true) (h : hasId l n = true) : 0 ≤ n := by
  obtain ⟨i, hi, rfl⟩ := hasId_iff.1 h
  exact ((may_pw.1 hm).2 _ (ix_mem hi)).1
theorem given_seed_no {came : List Int} {l : List Pr} {sf kf : Int → Option UInt64} (ha : among came l = true) {i : Nat} (hi : i < came.length) (h : sf (ix came i) = none) : given came l sf kf = false := by
  obtain ⟨k, hk, e⟩ := hasId_iff.1 (among_mem ha (ix_mem hi))
  refine given_no hk ?_
  unfold gvGood
  rw [e, if_pos (isIn_iff.2 (ix_mem hi)), h]
  rfl
theorem gv_in {came : List Int} {l : List Pr} {sf kf : Int → Option UInt64} {i : Nat} (h : isIn came (ix l i).1 = true) (hs : ∀ j, j < came.length → (sf (ix came j)).isSome = true) : gvGood came l sf kf i = true := by
  obtain ⟨j, hj, e⟩ := mem_ix (isIn_iff.1 h)
  unfold gvGood
  rw [if_pos h, ← e]
  exact hs j hj
theorem withB_at {l : List Pr} {came : List Int} {i k : Nat} (hm : may l = true) (hi : i < l.length) (hk : k < l.length) : withB came (ix l i) (ix l k) = (decide (k = i) || isIn came (ix l k).1) := by
  unfold withB
  congr 1
  rw [Bool.eq_iff_iff, decide_eq_true_eq, decide_eq_true_eq]
  exact ⟨fun h => may_inj hm hk hi (by rw [h]), fun h => by rw [h]⟩
theorem findTo_get (l : List Pr) (id : Int) (i : Nat) : findTo l id (i + 1) = if (ix l i).1 = id then some (ix l i).2 else findTo l id i := rfl
attribute [local irreducible] Callable CallOK CallG CallM DrawG LoopG symR symM
/-! ### find, in -/
set_option maxRecDepth 100000 in
theorem find10_any (l : List Pr) (id : Int) (A : Option Addr) (c : Nat) (w : World) (hl : l.length ≤ 1000000) (hR : RdV w w.heap.size A (pvs l)) : Calls Tryd.prog 61 #[.slice A l.length c, .int .i64 id] w fun e w' => e = .returned (.tuple #[vU64 (fd (findL l) id), .bool (findL l id).isSome]) ∧ Below w.heap.size w w' := by
  have F := FP.of hR
  refine calls_v (n := 29) Tryd.func61 rfl Tryd.ntmps61 [(.x (.a (.v (.slice A l.length c)))), .x (.a (.v (.int .i64 id)))] (by simp) (.t [.a (.v (vU64 (fd (findL l) id))), .a (.v (.bool (findL l id).isSome))]) (fun _ => rfl) ?_
  simp only [undef, push_cast, ↓Int.toNat_natCast, ↓Int.cast_ofNat_Int, Int.cast_ofNat_Int, ↓reduceIte, reduceCtorEq, Nat.reduceEqDiff, Nat.reduceLT, Nat.reduceLeDiff, Nat.reduceAdd, Nat.reduceSub, Nat.reduceMul, Int.reduceNeg, Int.reduceLE, Int.reduceLT, Int.reduceToNat, Int.reduceAdd, Int.reduceSub, Int.reduceMul, Int.reduceEq]
  refine loop_rule (ι := Nat) (fun i => ⟨[(0, (.x (.a (.v (.slice A l.length c))))), (1, .x (.a (.v (.int .i64 id)))), (6, .x (.a (.v (vU64 ((findTo l id i).getD 0))))), (7, .x (.a (.v (.bool (findTo l id i).isSome)))), (8, .x (.a (.v (.int .i64 i))))], []⟩) (fun i => i ≤ l.length) (fun i => l.length - i) 0 [] (by omega) ?_ ?_
  · have e0 : vU64 ((findTo l id 0).getD 0) = .int .u64 0 := rfl
    have e1 : (findTo l id 0).isSome = false := rfl
    simp only [e0, e1, push_cast, ↓Int.toNat_natCast, ↓Int.cast_ofNat_Int, Int.cast_ofNat_Int, ↓reduceIte, reduceCtorEq, Nat.reduceEqDiff, Nat.reduceLT, Nat.reduceLeDiff, Nat.reduceAdd, Nat.reduceSub, Nat.reduceMul, Int.reduceNeg, Int.reduceLE, Int.reduceLT, Int.reduceToNat, Int.reduceAdd, Int.reduceSub, Int.reduceMul, Int.reduceEq]
  · intro i hi
    by_cases hlt : (i : Int) < l.length
    · have i0 : (0 : Int) ≤ i := by omega
      have c0 := F.c0 i (by omega)
      have c1 := F.c1 i (by omega)
      have o0 := F.ok0 i (by omega)
      have o1 := F.ok1 i (by omega)
      have hA := F.some_ (by omega)
      by_cases h : (ix l i).1 = id
      · have hf := findTo_yes h
        simp only [hlt, i0, c0, c1, o0, o1, hA, h, pAdd_zero, pAdd_add, pAdd_isSome, undef, push_cast, ↓Int.toNat_natCast, ↓Int.cast_ofNat_Int, Int.cast_ofNat_Int, ↓reduceIte, reduceCtorEq, Nat.reduceEqDiff, Nat.reduceLT, Nat.reduceLeDiff, Nat.reduceAdd, Nat.reduceSub, Nat.reduceMul, Int.reduceNeg, Int.reduceLE, Int.reduceLT, Int.reduceToNat, Int.reduceAdd, Int.reduceSub, Int.reduceMul, Int.reduceEq]
        (repeat (refine And.intro (by first | omega | decide) ?_))
        refine loopK_normal (i + 1) [] (by omega) (by omega) ?_
        simp only [hf, Option.getD_some, push_cast, ↓Int.toNat_natCast, ↓Int.cast_ofNat_Int, Int.cast_ofNat_Int, ↓reduceIte, reduceCtorEq, Nat.reduceEqDiff, Nat.reduceLT, Nat.reduceLeDiff, Nat.reduceAdd, Nat.reduceSub, Nat.reduceMul, Int.reduceNeg, Int.reduceLE, Int.reduceLT, Int.reduceToNat, Int.reduceAdd, Int.reduceSub, Int.reduceMul, Int.reduceEq]
      · have hf := findTo_no h
        simp only [hlt, i0, c0, c1, o0, o1, hA, h, pAdd_zero, pAdd_add, pAdd_isSome, undef, push_cast, ↓Int.toNat_natCast, ↓Int.cast_ofNat_Int, Int.cast_ofNat_Int, ↓reduceIte, reduceCtorEq, Nat.reduceEqDiff, Nat.reduceLT, Nat.reduceLeDiff, Nat.reduceAdd, Nat.reduceSub, Nat.reduceMul, Int.reduceNeg, Int.reduceLE, Int.reduceLT, Int.reduceToNat, Int.reduceAdd, Int.reduceSub, Int.reduceMul, Int.reduceEq]
        (repeat (refine And.intro (by first | omega | decide) ?_))
        refine loopK_normal (i + 1) [] (by omega) (by omega) ?_
        simp only [hf, push_cast, ↓Int.toNat_natCast, ↓Int.cast_ofNat_Int, Int.cast_ofNat_Int, ↓reduceIte, reduceCtorEq, Nat.reduceEqDiff, Nat.reduceLT, Nat.reduceLeDiff, Nat.reduceAdd, Nat.reduceSub, Nat.reduceMul, Int.reduceNeg, Int.reduceLE, Int.reduceLT, Int.reduceToNat, Int.reduceAdd, Int.reduceSub, Int.reduceMul, Int.reduceEq]
    · have e : i = l.length := by omega
      subst e
      have e0 : (findTo l id l.length).getD 0 = fd (findL l) id := rfl
      have e1 : (findTo l id l.length).isSome = (findL l id).isSome := rfl
      simp only [hlt, e0, e1, undef, push_cast, ↓Int.toNat_natCast, ↓Int.cast_ofNat_Int, Int.cast_ofNat_Int, ↓reduceIte, reduceCtorEq, Nat.reduceEqDiff, Nat.reduceLT, Nat.reduceLeDiff, Nat.reduceAdd, Nat.reduceSub, Nat.reduceMul, Int.reduceNeg, Int.reduceLE, Int.reduceLT, Int.reduceToNat, Int.reduceAdd, Int.reduceSub, Int.reduceMul, Int.reduceEq]
theorem find10OK {w0 : World} {hp : List Res} {sv : Sv} {l : List Pr} (id : Int) (hl : l.length ≤ 1000000) (h : ShowsR w0 No hp sv l.length (pvs l)) : CallOK Tryd.prog w0 No 61 [sv, .x (.a (.v (.int .i64 id)))] hp (.t [.a (.v (vU64 (fd (findL l) id))), .a (.v (.bool (findL l id).isSome))]) hp := callOK_v fun γ w hS => by
  obtain ⟨A, c, e1, _, r1⟩ := h γ w hS
  show Calls _ _ #[sv.val γ, .int .i64 id] w _
  rw [e1]
  exact find10_any l id A c w hl r1
set_option maxRecDepth 100000 in
theorem in10_any (l : List Int) (n : Int) (A : Option Addr) (c : Nat) (w : World) (hl : l.length ≤ 1000000) (hR : RdV w w.heap.size A (l.map vI64)) : Calls Tryd.prog 62 #[.slice A l.length c, .int .i64 n] w fun e w' => e = .returned (.bool (isIn l n)) ∧ Below w.heap.size w w' := by
  have F := FM.of hR
  refine calls_v (n := 18) Tryd.func62 rfl Tryd.ntmps62 [(.x (.a (.v (.slice A l.length c)))), .x (.a (.v (.int .i64 n)))] (by simp) (.x (.a (.v (.bool (isIn l n))))) (fun _ => rfl) ?_
  simp only [undef, push_cast, ↓Int.toNat_natCast, ↓Int.cast_ofNat_Int, Int.cast_ofNat_Int, ↓reduceIte, reduceCtorEq, Nat.reduceEqDiff, Nat.reduceLT, Nat.reduceLeDiff, Nat.reduceAdd, Nat.reduceSub, Nat.reduceMul, Int.reduceNeg, Int.reduceLE, Int.reduceLT, Int.reduceToNat, Int.reduceAdd, Int.reduceSub, Int.reduceMul, Int.reduceEq]
  refine loop_rule (ι := Nat) (fun i => ⟨[(0, (.x (.a (.v (.slice A l.length c))))), (1, .x (.a (.v (.int .i64 n)))), (5, .x (.a (.v (.int .i64 i))))], []⟩) (fun i => i ≤ l.length ∧ ∀ j, j < i → ¬ ix l j = n) (fun i => l.length - i) 0 [] ⟨by omega, fun j h => by omega⟩ ?_ ?_
  · simp only [push_cast, ↓Int.toNat_natCast, ↓Int.cast_ofNat_Int, Int.cast_ofNat_Int, ↓reduceIte, reduceCtorEq, Nat.reduceEqDiff, Nat.reduceLT, Nat.reduceLeDiff, Nat.reduceAdd, Nat.reduceSub, Nat.reduceMul, Int.reduceNeg, Int.reduceLE, Int.reduceLT, Int.reduceToNat, Int.reduceAdd, Int.reduceSub, Int.reduceMul, Int.reduceEq]
  · rintro i ⟨hi, hj⟩
    by_cases hlt : (i : Int) < l.length
    · have i0 : (0 : Int) ≤ i := by omega
      have c0 : cellOf w (pAdd A i) = .int .i64 (ix l i) := F.cell i (by omega)
      have o0 := F.ok i (by omega)
      have hA := F.some_ (by omega)
      by_cases h : ix l i = n
      · have hp := isIn_yes (i := i) (by omega) h
        simp only [hlt, i0, c0, o0, hA, h, hp, undef, push_cast, ↓Int.toNat_natCast, ↓Int.cast_ofNat_Int, Int.cast_ofNat_Int, ↓reduceIte, reduceCtorEq, Nat.reduceEqDiff, Nat.reduceLT, Nat.reduceLeDiff, Nat.reduceAdd, Nat.reduceSub, Nat.reduceMul, Int.reduceNeg, Int.reduceLE, Int.reduceLT, Int.reduceToNat, Int.reduceAdd, Int.reduceSub, Int.reduceMul, Int.reduceEq]
      · simp only [hlt, i0, c0, o0, hA, h, undef, push_cast, ↓Int.toNat_natCast, ↓Int.cast_ofNat_Int, Int.cast_ofNat_Int, ↓reduceIte, reduceCtorEq, Nat.reduceEqDiff, Nat.reduceLT, Nat.reduceLeDiff, Nat.reduceAdd, Nat.reduceSub, Nat.reduceMul, Int.reduceNeg, Int.reduceLE, Int.reduceLT, Int.reduceToNat, Int.reduceAdd, Int.reduceSub, Int.reduceMul, Int.reduceEq]
        (repeat (refine And.intro (by first | omega | decide) ?_))
        refine loopK_normal (i + 1) [] ⟨by omega, fun j hjl => ?_⟩ (by omega) ?_
        · by_cases e : j = i
          · rw [e]; exact h
          · exact hj j (by omega)
        · simp only [push_cast, ↓Int.toNat_natCast, ↓Int.cast_ofNat_Int, Int.cast_ofNat_Int, ↓reduceIte, reduceCtorEq, Nat.reduceEqDiff, Nat.reduceLT, Nat.reduceLeDiff, Nat.reduceAdd, Nat.reduceSub, Nat.reduceMul, Int.reduceNeg, Int.reduceLE, Int.reduceLT, Int.reduceToNat, Int.reduceAdd, Int.reduceSub, Int.reduceMul, Int.reduceEq]
    · have hp := isIn_no (l := l) (n := n) (fun j h => hj j (by omega))
      simp only [hlt, hp, undef, push_cast, ↓Int.toNat_natCast, ↓Int.cast_ofNat_Int, Int.cast_ofNat_Int, ↓reduceIte, reduceCtorEq, Nat.reduceEqDiff, Nat.reduceLT, Nat.reduceLeDiff, Nat.reduceAdd, Nat.reduceSub, Nat.reduceMul, Int.reduceNeg, Int.reduceLE, Int.reduceLT, Int.reduceToNat, Int.reduceAdd, Int.reduceSub, Int.reduceMul, Int.reduceEq]
theorem in10OK {w0 : World} {hp : List Res} {sv : Sv} {l : List Int} (n : Int) (hl : l.length ≤ 1000000) (h : Shows w0 No hp sv (l.map vI64)) : CallOK Tryd.prog w0 No 62 [sv, .x (.a (.v (.int .i64 n)))] hp (.x (.a (.v (.bool (isIn l n))))) hp := callOK_v fun γ w hS => by
  obtain ⟨A, c, e1, _, r1⟩ := h γ w hS
  rw [List.length_map] at e1
  show Calls _ _ #[sv.val γ, .int .i64 n] w _
  rw [e1]
  exact in10_any l n A c w hl r1
/-! ### Row -/
attribute [local irreducible] prOut prOk may powU opOut opErr wOut wErr wOk brOut brOk sumR opOk
set_option maxRecDepth 100000 in
set_option maxHeartbeats 1000000 in
theorem refRow10_any (x : List UInt32) (me : Int) (seed key : UInt64) (l : List Pr) (A : Option Addr) (c : Nat) (A2 : Option Addr) (c2 : Nat) (w : World) (hl : l.length ≤ 1000000) (hc : l.length ≤ c) (hc2 : x.length ≤ c2) (hR : RdV w w.heap.size A (pvs l)) (hR2 : RdV w w.heap.size A2 (x.map vU32)) :
    Calls Tryd.prog 12 (List.map (Sv.val []) [(.x (.a (.v (.slice A2 x.length c2)))), .x (.a (.v (.int .i64 me))), .x (.a (.v (vU64 seed))), .x (.a (.v (vU64 key))), (.x (.a (.v (.slice A l.length c))))]).toArray w fun e w' => ∃ v, e = .returned (.tuple #[v, .bool (brOk me l x.length)]) ∧ Own w' w.heap.size 50 v ((brOut x me seed key l).map vU32) ∧ Below w.heap.size w w' := by
  have h0 := fun h => calls_own2 (P := Tryd.prog) (w := w) (n := 51) Tryd.func12 rfl Tryd.ntmps12 [(.x (.a (.v (.slice A2 x.length c2)))), .x (.a (.v (.int .i64 me))), .x (.a (.v (vU64 seed))), .x (.a (.v (vU64 key))), (.x (.a (.v (.slice A l.length c))))] (by simp) 50 (.u32 (brOut x me seed key l)) (.bool (brOk me l x.length)) (vs := (brOut x me seed key l).map vU32) (fun _ => rfl) h
  refine h0 ?_
  clear h0
  simp only [ownLit, undef, push_cast, ↓Int.toNat_natCast, ↓Int.cast_ofNat_Int, Int.cast_ofNat_Int, ↓reduceIte, reduceCtorEq, Nat.reduceEqDiff, Nat.reduceLT, Nat.reduceLeDiff, Nat.reduceAdd, Nat.reduceSub, Nat.reduceMul, Int.reduceNeg, Int.reduceLE, Int.reduceLT, Int.reduceToNat, Int.reduceAdd, Int.reduceSub, Int.reduceMul, Int.reduceEq]
  refine callG_x rfl cb14 rfl (refWords7OK seed ownS (by decide) x.length (by simp only [push_cast, ↓Int.toNat_natCast, ↓Int.cast_ofNat_Int, Int.cast_ofNat_Int, ↓reduceIte, reduceCtorEq, Nat.reduceEqDiff, Nat.reduceLT, Nat.reduceLeDiff, Nat.reduceAdd, Nat.reduceSub, Nat.reduceMul, Int.reduceNeg, Int.reduceLE, Int.reduceLT, Int.reduceToNat, Int.reduceAdd, Int.reduceSub, Int.reduceMul, Int.reduceEq])) (dOk_lt rfl) (by simp only [push_cast, ↓Int.toNat_natCast, ↓Int.cast_ofNat_Int, Int.cast_ofNat_Int, ↓reduceIte, reduceCtorEq, Nat.reduceEqDiff, Nat.reduceLT, Nat.reduceLeDiff, Nat.reduceAdd, Nat.reduceSub, Nat.reduceMul, Int.reduceNeg, Int.reduceLE, Int.reduceLT, Int.reduceToNat, Int.reduceAdd, Int.reduceSub, Int.reduceMul, Int.reduceEq]) ?_
  simp only [undef, push_cast, ↓Int.toNat_natCast, ↓Int.cast_ofNat_Int, Int.cast_ofNat_Int, ↓reduceIte, reduceCtorEq, Nat.reduceEqDiff, Nat.reduceLT, Nat.reduceLeDiff, Nat.reduceAdd, Nat.reduceSub, Nat.reduceMul, Int.reduceNeg, Int.reduceLE, Int.reduceLT, Int.reduceToNat, Int.reduceAdd, Int.reduceSub, Int.reduceMul, Int.reduceEq]
  refine callG_x rfl cb49 rfl (refRow09OK (l := l) me key x.length hl (showsR_raw hR hc) (by simp only [push_cast, ↓Int.toNat_natCast, ↓Int.cast_ofNat_Int, Int.cast_ofNat_Int, ↓reduceIte, reduceCtorEq, Nat.reduceEqDiff, Nat.reduceLT, Nat.reduceLeDiff, Nat.reduceAdd, Nat.reduceSub, Nat.reduceMul, Int.reduceNeg, Int.reduceLE, Int.reduceLT, Int.reduceToNat, Int.reduceAdd, Int.reduceSub, Int.reduceMul, Int.reduceEq])) (dOk_lt rfl) (by simp only [push_cast, ↓Int.toNat_natCast, ↓Int.cast_ofNat_Int, Int.cast_ofNat_Int, ↓reduceIte, reduceCtorEq, Nat.reduceEqDiff, Nat.reduceLT, Nat.reduceLeDiff, Nat.reduceAdd, Nat.reduceSub, Nat.reduceMul, Int.reduceNeg, Int.reduceLE, Int.reduceLT, Int.reduceToNat, Int.reduceAdd, Int.reduceSub, Int.reduceMul, Int.reduceEq]) ?_
  by_cases h32 : x.length ≤ 32
  · have hw := own_wOk x.length h32
    have hwo := own_wOut seed x.length h32
    cases hp : prOk me l x.length
    · have hb : brOk me l x.length = false := by unfold brOk; rw [hp, Bool.and_false]
      simp only [hw, hp, hb, brOut_no hb, undef, ownT2, ownT, push_cast, ↓Int.toNat_natCast, ↓Int.cast_ofNat_Int, Int.cast_ofNat_Int, ↓reduceIte, reduceCtorEq, Nat.reduceEqDiff, Nat.reduceLT, Nat.reduceLeDiff, Nat.reduceAdd, Nat.reduceSub, Nat.reduceMul, Int.reduceNeg, Int.reduceLE, Int.reduceLT, Int.reduceToNat, Int.reduceAdd, Int.reduceSub, Int.reduceMul, Int.reduceEq]
    · have hb : brOk me l x.length = true := by unfold brOk; rw [hp, decide_eq_true h32]; rfl
      obtain ⟨e1, e2, e3⟩ := brOut_add (seed := seed) (key := key) hb
      simp only [hw, hwo, hp, undef, push_cast, ↓Int.toNat_natCast, ↓Int.cast_ofNat_Int, Int.cast_ofNat_Int, ↓reduceIte, reduceCtorEq, Nat.reduceEqDiff, Nat.reduceLT, Nat.reduceLeDiff, Nat.reduceAdd, Nat.reduceSub, Nat.reduceMul, Int.reduceNeg, Int.reduceLE, Int.reduceLT, Int.reduceToNat, Int.reduceAdd, Int.reduceSub, Int.reduceMul, Int.reduceEq]
      refine callG_x rfl cb50 rfl (refAddOK 1 (shows_raw hR2 _ _ (by simp) hc2) (shows_own rfl fun _ => rfl) (by simp only [push_cast, ↓Int.toNat_natCast, ↓Int.cast_ofNat_Int, Int.cast_ofNat_Int, ↓reduceIte, reduceCtorEq, Nat.reduceEqDiff, Nat.reduceLT, Nat.reduceLeDiff, Nat.reduceAdd, Nat.reduceSub, Nat.reduceMul, Int.reduceNeg, Int.reduceLE, Int.reduceLT, Int.reduceToNat, Int.reduceAdd, Int.reduceSub, Int.reduceMul, Int.reduceEq])) (dOk_lt rfl) (by simp only [push_cast, ↓Int.toNat_natCast, ↓Int.cast_ofNat_Int, Int.cast_ofNat_Int, ↓reduceIte, reduceCtorEq, Nat.reduceEqDiff, Nat.reduceLT, Nat.reduceLeDiff, Nat.reduceAdd, Nat.reduceSub, Nat.reduceMul, Int.reduceNeg, Int.reduceLE, Int.reduceLT, Int.reduceToNat, Int.reduceAdd, Int.reduceSub, Int.reduceMul, Int.reduceEq]) ?_
      simp only [opOut_congr timesF_one, undef, push_cast, ↓Int.toNat_natCast, ↓Int.cast_ofNat_Int, Int.cast_ofNat_Int, ↓reduceIte, reduceCtorEq, Nat.reduceEqDiff, Nat.reduceLT, Nat.reduceLeDiff, Nat.reduceAdd, Nat.reduceSub, Nat.reduceMul, Int.reduceNeg, Int.reduceLE, Int.reduceLT, Int.reduceToNat, Int.reduceAdd, Int.reduceSub, Int.reduceMul, Int.reduceEq]
      refine callG_x rfl cb50 rfl (refAddOK 1 (shows_own rfl fun _ => rfl) (shows_own rfl fun _ => rfl) (by simp only [push_cast, ↓Int.toNat_natCast, ↓Int.cast_ofNat_Int, Int.cast_ofNat_Int, ↓reduceIte, reduceCtorEq, Nat.reduceEqDiff, Nat.reduceLT, Nat.reduceLeDiff, Nat.reduceAdd, Nat.reduceSub, Nat.reduceMul, Int.reduceNeg, Int.reduceLE, Int.reduceLT, Int.reduceToNat, Int.reduceAdd, Int.reduceSub, Int.reduceMul, Int.reduceEq])) (dOk_lt rfl) (by simp only [push_cast, ↓Int.toNat_natCast, ↓Int.cast_ofNat_Int, Int.cast_ofNat_Int, ↓reduceIte, reduceCtorEq, Nat.reduceEqDiff, Nat.reduceLT, Nat.reduceLeDiff, Nat.reduceAdd, Nat.reduceSub, Nat.reduceMul, Int.reduceNeg, Int.reduceLE, Int.reduceLT, Int.reduceToNat, Int.reduceAdd, Int.reduceSub, Int.reduceMul, Int.reduceEq]) ?_
      simp only [opOut_congr timesF_one, e1, e2, hb, undef, ownT2, ownT, push_cast, ↓Int.toNat_natCast, ↓Int.cast_ofNat_Int, Int.cast_ofNat_Int, ↓reduceIte, reduceCtorEq, Nat.reduceEqDiff, Nat.reduceLT, Nat.reduceLeDiff, Nat.reduceAdd, Nat.reduceSub, Nat.reduceMul, Int.reduceNeg, Int.reduceLE, Int.reduceLT, Int.reduceToNat, Int.reduceAdd, Int.reduceSub, Int.reduceMul, Int.reduceEq]
  · have hb : brOk me l x.length = false := by unfold brOk; rw [decide_eq_false h32]; rfl
    have hw : wOk ownS x.length 32 = false := wOk_hi (s := ownS) (by omega)
    simp only [hw, hb, brOut_no hb, undef, ownT2, ownT, push_cast, ↓Int.toNat_natCast, ↓Int.cast_ofNat_Int, Int.cast_ofNat_Int, ↓reduceIte, reduceCtorEq, Nat.reduceEqDiff, Nat.reduceLT, Nat.reduceLeDiff, Nat.reduceAdd, Nat.reduceSub, Nat.reduceMul, Int.reduceNeg, Int.reduceLE, Int.reduceLT, Int.reduceToNat, Int.reduceAdd, Int.reduceSub, Int.reduceMul, Int.reduceEq]
theorem refRow10OK {w0 : World} {hp : List Res} {s1 s2 : Sv} {x : List UInt32} {l : List Pr} (me : Int) (seed key : UInt64) (hl : l.length ≤ 1000000) (h1 : Shows w0 No hp s1 (x.map vU32)) (h2 : ShowsR w0 No hp s2 l.length (pvs l)) (hbr : ∀ r ∈ hp, Res.bnd hp.length r) :
    CallOK Tryd.prog w0 No 12 [s1, .x (.a (.v (.int .i64 me))), .x (.a (.v (vU64 seed))), .x (.a (.v (vU64 key))), s2] hp (.t [.a (.o hp.length), .a (.v (.bool (brOk me l x.length)))]) (hp ++ [.own 50 (.u32 (brOut x me seed key l))]) := callOK_own2 hbr trivial fun γ w hS => by
  obtain ⟨A, c, e1, b1, r1⟩ := h1 γ w hS
  obtain ⟨A2, c2, e2, b2, r2⟩ := h2 γ w hS
  rw [List.length_map] at e1 b1
  show Calls _ _ #[s1.val γ, .int .i64 me, vU64 seed, vU64 key, s2.val γ] w _
  rw [e1, e2]
  exact refRow10_any x me seed key l A2 c2 A c w hl b2 b1 r2 r1
/-! ### Open -/
attribute [local irreducible] opnOut opnNum opnVal ocTo soTo withL withTo given among hidW foundTo hasId findL
set_option maxRecDepth 100000 in
set_option maxHeartbeats 8000000 in
theorem refOpen10_any (came : List Int) (l seeds keys : List Pr) (dim : Int) (A : Option Addr) (c : Nat) (A2 : Option Addr) (c2 : Nat) (As : Option Addr) (cs : Nat) (Ak : Option Addr) (ck : Nat) (w : World) (hl : l.length ≤ 1000000) (hl2 : came.length ≤ 1000000) (hls : seeds.length ≤ 1000000) (hlk : keys.length ≤ 1000000)
    (hc : l.length ≤ c) (hc2 : came.length ≤ c2) (hcs : seeds.length ≤ cs) (hck : keys.length ≤ ck) (hR : RdV w w.heap.size A (pvs l)) (hR2 : RdV w w.heap.size A2 (came.map vI64)) (hRs : RdV w w.heap.size As (pvs seeds)) (hRk : RdV w w.heap.size Ak (pvs keys)) :
    Calls Tryd.prog 17 (List.map (Sv.val []) [(.x (.a (.v (.slice A2 came.length c2)))), (.x (.a (.v (.slice A l.length c)))), .x (.a (.v (.slice As seeds.length cs))), .x (.a (.v (.slice Ak keys.length ck))), .x (.a (.v (.int .i64 dim)))]).toArray w fun e w' => ∃ v, e = .returned (.tuple #[v, .int .i64 (opnNum came l (findL seeds) (findL keys) dim)]) ∧ Own w' w.heap.size 50 v ((opnOut came l (findL seeds) (findL keys) dim).map vU32) ∧ Below w.heap.size w w' := by
  have F := FP.of hR
  have G := FM.of hR2
  have h0 := fun h => calls_own2 (P := Tryd.prog) (w := w) (n := 182) Tryd.func17 rfl Tryd.ntmps17 [(.x (.a (.v (.slice A2 came.length c2)))), (.x (.a (.v (.slice A l.length c)))), .x (.a (.v (.slice As seeds.length cs))), .x (.a (.v (.slice Ak keys.length ck))), .x (.a (.v (.int .i64 dim)))] (by simp) 50 (.u32 (opnOut came l (findL seeds) (findL keys) dim)) (.int .i64 (opnNum came l (findL seeds) (findL keys) dim)) (vs := (opnOut came l (findL seeds) (findL keys) dim).map vU32) (fun _ => rfl) h
  refine h0 ?_
  clear h0
  generalize hsf : findL seeds = sf at *
  generalize hkf : findL keys = kf at *
  have no : ∀ {n : Int}, opnNum came l sf kf dim = n → ¬ n = 0 → opnNum came l sf kf dim = n ∧ opnOut came l sf kf dim = [] := fun h1 h2 => ⟨h1, opnOut_no (by rw [h1]; exact h2)⟩
  simp only [undef, push_cast, ↓Int.toNat_natCast, ↓Int.cast_ofNat_Int, Int.cast_ofNat_Int, ↓reduceIte, reduceCtorEq, Nat.reduceEqDiff, Nat.reduceLT, Nat.reduceLeDiff, Nat.reduceAdd, Nat.reduceSub, Nat.reduceMul, Int.reduceNeg, Int.reduceLE, Int.reduceLT, Int.reduceToNat, Int.reduceAdd, Int.reduceSub, Int.reduceMul, Int.reduceEq]
  refine callG_v rfl cb60 rfl (may09OK hl (showsR_raw hR hc)) (dOk_lt rfl) ?_
  cases hm : may l
  · obtain ⟨h1, h2⟩ := no (opnNum_may hm) (by decide)
    simp only [h1, h2, undef, ownT2, ownT, push_cast, ↓Int.toNat_natCast, ↓Int.cast_ofNat_Int, Int.cast_ofNat_Int, ↓reduceIte, reduceCtorEq, Nat.reduceEqDiff, Nat.reduceLT, Nat.reduceLeDiff, Nat.reduceAdd, Nat.reduceSub, Nat.reduceMul, Int.reduceNeg, Int.reduceLE, Int.reduceLT, Int.reduceToNat, Int.reduceAdd, Int.reduceSub, Int.reduceMul, Int.reduceEq]
  have h64 := may_len hm
  by_cases n1 : dim < 0
  · obtain ⟨h1, h2⟩ := no (opnNum_dim (zOk_no (.inl n1))) (by decide)
    simp only [n1, h1, h2, undef, ownT2, ownT, push_cast, ↓Int.toNat_natCast, ↓Int.cast_ofNat_Int, Int.cast_ofNat_Int, ↓reduceIte, reduceCtorEq, Nat.reduceEqDiff, Nat.reduceLT, Nat.reduceLeDiff, Nat.reduceAdd, Nat.reduceSub, Nat.reduceMul, Int.reduceNeg, Int.reduceLE, Int.reduceLT, Int.reduceToNat, Int.reduceAdd, Int.reduceSub, Int.reduceMul, Int.reduceEq]
  by_cases n2 : 32 < dim
  · obtain ⟨h1, h2⟩ := no (opnNum_dim (zOk_no (.inr n2))) (by decide)
    simp only [n1, n2, h1, h2, undef, ownT2, ownT, push_cast, ↓Int.toNat_natCast, ↓Int.cast_ofNat_Int, Int.cast_ofNat_Int, ↓reduceIte, reduceCtorEq, Nat.reduceEqDiff, Nat.reduceLT, Nat.reduceLeDiff, Nat.reduceAdd, Nat.reduceSub, Nat.reduceMul, Int.reduceNeg, Int.reduceLE, Int.reduceLT, Int.reduceToNat, Int.reduceAdd, Int.reduceSub, Int.reduceMul, Int.reduceEq]
  have hz : zOk dim = true := zOk_yes n1 n2
  obtain ⟨d, rfl⟩ : ∃ d : Nat, dim = d := ⟨dim.toNat, by omega⟩
  have hd : d ≤ 32 := by omega
  simp only [n1, n2, undef, push_cast, ↓Int.toNat_natCast, ↓Int.cast_ofNat_Int, Int.cast_ofNat_Int, ↓reduceIte, reduceCtorEq, Nat.reduceEqDiff, Nat.reduceLT, Nat.reduceLeDiff, Nat.reduceAdd, Nat.reduceSub, Nat.reduceMul, Int.reduceNeg, Int.reduceLE, Int.reduceLT, Int.reduceToNat, Int.reduceAdd, Int.reduceSub, Int.reduceMul, Int.reduceEq]
  refine loop_rule (ι := Nat) (fun i => ⟨[(0, (.x (.a (.v (.slice A2 came.length c2))))), (1, (.x (.a (.v (.slice A l.length c))))), (2, .x (.a (.v (.slice As seeds.length cs)))), (3, .x (.a (.v (.slice Ak keys.length ck)))), (4, .x (.a (.v (.int .i64 d)))), (12, .x (.a (.v (.int .i64 i))))], []⟩) (fun i => i ≤ came.length ∧ ∀ j, j < i → amGood came l j = true) (fun i => came.length - i) 0 [] ⟨by omega, fun j h => by omega⟩ ?_ ?_
  · simp (config := { maxSteps := 600000 }) only [push_cast, ↓Int.toNat_natCast, ↓Int.cast_ofNat_Int, Int.cast_ofNat_Int, ↓reduceIte, reduceCtorEq, Nat.reduceEqDiff, Nat.reduceLT, Nat.reduceLeDiff, Nat.reduceAdd, Nat.reduceSub, Nat.reduceMul, Int.reduceNeg, Int.reduceLE, Int.reduceLT, Int.reduceToNat, Int.reduceAdd, Int.reduceSub, Int.reduceMul, Int.reduceEq]
  · rintro i ⟨hi, hj⟩
    by_cases hlt : (i : Int) < came.length
    · have i0 : (0 : Int) ≤ i := by omega
      have c0 : cellOf w (pAdd A2 i) = .int .i64 (ix came i) := G.cell i (by omega)
      have o0 := G.ok i (by omega)
      have hA2 := G.some_ (by omega)
      simp (config := { maxSteps := 600000 }) only [hlt, undef, push_cast, ↓Int.toNat_natCast, ↓Int.cast_ofNat_Int, Int.cast_ofNat_Int, ↓reduceIte, reduceCtorEq, Nat.reduceEqDiff, Nat.reduceLT, Nat.reduceLeDiff, Nat.reduceAdd, Nat.reduceSub, Nat.reduceMul, Int.reduceNeg, Int.reduceLE, Int.reduceLT, Int.reduceToNat, Int.reduceAdd, Int.reduceSub, Int.reduceMul, Int.reduceEq]
      refine loop_rule (ι := Nat) (fun k => ⟨[(0, (.x (.a (.v (.slice A2 came.length c2))))), (1, (.x (.a (.v (.slice A l.length c))))), (2, .x (.a (.v (.slice As seeds.length cs)))), (3, .x (.a (.v (.slice Ak keys.length ck)))), (4, .x (.a (.v (.int .i64 d)))), (12, .x (.a (.v (.int .i64 i)))), (13, .x (.a (.v (.bool (foundTo (ix came i) l k))))), (14, .x (.a (.v (.int .i64 k))))], []⟩) (fun k => k ≤ l.length) (fun k => l.length - k) 0 [] (by omega) ?_ ?_
      · simp (config := { maxSteps := 600000 }) only [foundTo_zero, push_cast, ↓Int.toNat_natCast, ↓Int.cast_ofNat_Int, Int.cast_ofNat_Int, ↓reduceIte, reduceCtorEq, Nat.reduceEqDiff, Nat.reduceLT, Nat.reduceLeDiff, Nat.reduceAdd, Nat.reduceSub, Nat.reduceMul, Int.reduceNeg, Int.reduceLE, Int.reduceLT, Int.reduceToNat, Int.reduceAdd, Int.reduceSub, Int.reduceMul, Int.reduceEq]
      · intro k hk
        by_cases hkt : (k : Int) < l.length
        · have k0 : (0 : Int) ≤ k := by omega
          have d0 := F.c0 k (by omega)
          have p0 := F.ok0 k (by omega)
          have hA := F.some_ (by omega)
          simp (config := { maxSteps := 600000 }) only [hkt, undef, push_cast, ↓Int.toNat_natCast, ↓Int.cast_ofNat_Int, Int.cast_ofNat_Int, ↓reduceIte, reduceCtorEq, Nat.reduceEqDiff, Nat.reduceLT, Nat.reduceLeDiff, Nat.reduceAdd, Nat.reduceSub, Nat.reduceMul, Int.reduceNeg, Int.reduceLE, Int.reduceLT, Int.reduceToNat, Int.reduceAdd, Int.reduceSub, Int.reduceMul, Int.reduceEq]
          refine draw_rule [(0, true), (1, true), (2, true), (3, true), (4, true), (5, true), (6, true), (7, true), (8, true), (9, true), (10, true), (11, true), (12, true), (13, true)] (by kernel_rfl) (by kernel_rfl) rfl (by kernel_rfl) ?_
          cases hf : foundTo (ix came i) l k
          · by_cases h : (ix l k).1 = ix came i
            · have hfs := foundTo_yes h
              simp (config := { maxSteps := 600000 }) only [hlt, hkt, i0, k0, c0, o0, d0, p0, hA, hA2, h, pAdd_zero, pAdd_add, pAdd_isSome, undef, push_cast, ↓Int.toNat_natCast, ↓Int.cast_ofNat_Int, Int.cast_ofNat_Int, ↓reduceIte, reduceCtorEq, Nat.reduceEqDiff, Nat.reduceLT, Nat.reduceLeDiff, Nat.reduceAdd, Nat.reduceSub, Nat.reduceMul, Int.reduceNeg, Int.reduceLE, Int.reduceLT, Int.reduceToNat, Int.reduceAdd, Int.reduceSub, Int.reduceMul, Int.reduceEq]
              (repeat (refine And.intro (by first | omega | decide) ?_))
              refine loopK_normal (k + 1) [] (by omega) (by omega) ?_
              simp (config := { maxSteps := 600000 }) only [hfs, push_cast, ↓Int.toNat_natCast, ↓Int.cast_ofNat_Int, Int.cast_ofNat_Int, ↓reduceIte, reduceCtorEq, Nat.reduceEqDiff, Nat.reduceLT, Nat.reduceLeDiff, Nat.reduceAdd, Nat.reduceSub, Nat.reduceMul, Int.reduceNeg, Int.reduceLE, Int.reduceLT, Int.reduceToNat, Int.reduceAdd, Int.reduceSub, Int.reduceMul, Int.reduceEq]
            · have hfs := (foundTo_no h).trans hf
              simp (config := { maxSteps := 600000 }) only [hlt, hkt, i0, k0, c0, o0, d0, p0, hA, hA2, h, pAdd_zero, pAdd_add, pAdd_isSome, undef, push_cast, ↓Int.toNat_natCast, ↓Int.cast_ofNat_Int, Int.cast_ofNat_Int, ↓reduceIte, reduceCtorEq, Nat.reduceEqDiff, Nat.reduceLT, Nat.reduceLeDiff, Nat.reduceAdd, Nat.reduceSub, Nat.reduceMul, Int.reduceNeg, Int.reduceLE, Int.reduceLT, Int.reduceToNat, Int.reduceAdd, Int.reduceSub, Int.reduceMul, Int.reduceEq]
              (repeat (refine And.intro (by first | omega | decide) ?_))
              refine loopK_normal (k + 1) [] (by omega) (by omega) ?_
              simp (config := { maxSteps := 600000 }) only [hfs, push_cast, ↓Int.toNat_natCast, ↓Int.cast_ofNat_Int, Int.cast_ofNat_Int, ↓reduceIte, reduceCtorEq, Nat.reduceEqDiff, Nat.reduceLT, Nat.reduceLeDiff, Nat.reduceAdd, Nat.reduceSub, Nat.reduceMul, Int.reduceNeg, Int.reduceLE, Int.reduceLT, Int.reduceToNat, Int.reduceAdd, Int.reduceSub, Int.reduceMul, Int.reduceEq]
          · have hfs : foundTo (ix came i) l (k + 1) = true := (foundTo_iff (by omega)).2 (by
              obtain ⟨m, h1, h2⟩ := (foundTo_iff (by omega)).1 hf
              exact ⟨m, by omega, h2⟩)
            simp (config := { maxSteps := 600000 }) only [hlt, hkt, i0, k0, c0, o0, d0, p0, hA, hA2, pAdd_zero, pAdd_add, pAdd_isSome, undef, push_cast, ↓Int.toNat_natCast, ↓Int.cast_ofNat_Int, Int.cast_ofNat_Int, ↓reduceIte, reduceCtorEq, Nat.reduceEqDiff, Nat.reduceLT, Nat.reduceLeDiff, Nat.reduceAdd, Nat.reduceSub, Nat.reduceMul, Int.reduceNeg, Int.reduceLE, Int.reduceLT, Int.reduceToNat, Int.reduceAdd, Int.reduceSub, Int.reduceMul, Int.reduceEq]
            (repeat (refine And.intro (by first | omega | decide) ?_))
            refine loopK_normal (k + 1) [] (by omega) (by omega) ?_
            simp (config := { maxSteps := 600000 }) only [hfs, push_cast, ↓Int.toNat_natCast, ↓Int.cast_ofNat_Int, Int.cast_ofNat_Int, ↓reduceIte, reduceCtorEq, Nat.reduceEqDiff, Nat.reduceLT, Nat.reduceLeDiff, Nat.reduceAdd, Nat.reduceSub, Nat.reduceMul, Int.reduceNeg, Int.reduceLE, Int.reduceLT, Int.reduceToNat, Int.reduceAdd, Int.reduceSub, Int.reduceMul, Int.reduceEq]
        · have hkl : k = l.length := by omega
          subst hkl
          have hfo := found_hasId l (ix came i)
          simp (config := { maxSteps := 600000 }) only [hkt, hfo, undef, push_cast, ↓Int.toNat_natCast, ↓Int.cast_ofNat_Int, Int.cast_ofNat_Int, ↓reduceIte, reduceCtorEq, Nat.reduceEqDiff, Nat.reduceLT, Nat.reduceLeDiff, Nat.reduceAdd, Nat.reduceSub, Nat.reduceMul, Int.reduceNeg, Int.reduceLE, Int.reduceLT, Int.reduceToNat, Int.reduceAdd, Int.reduceSub, Int.reduceMul, Int.reduceEq]
          refine draw_rule [(0, true), (1, true), (2, true), (3, true), (4, true), (5, true), (6, true), (7, true), (8, true), (9, true), (10, true), (11, true), (12, true), (13, true), (14, true), (15, true), (16, true), (17, true)] (by kernel_rfl) (by kernel_rfl) rfl (by kernel_rfl) ?_
          cases hh : hasId l (ix came i)
          · have hg : among came l = false := among_no (i := i) (by omega) (by unfold amGood; rw [hh, Bool.and_false])
            obtain ⟨h1, h2⟩ := no (opnNum_among hg) (by decide)
            simp (config := { maxSteps := 600000 }) only [h1, h2, undef, ownT2, ownT, push_cast, ↓Int.toNat_natCast, ↓Int.cast_ofNat_Int, Int.cast_ofNat_Int, ↓reduceIte, reduceCtorEq, Nat.reduceEqDiff, Nat.reduceLT, Nat.reduceLeDiff, Nat.reduceAdd, Nat.reduceSub, Nat.reduceMul, Int.reduceNeg, Int.reduceLE, Int.reduceLT, Int.reduceToNat, Int.reduceAdd, Int.reduceSub, Int.reduceMul, Int.reduceEq]
          · by_cases hp : (0 : Int) < i
            · have e0 : cellOf w (pAdd A2 (i - 1)) = .int .i64 (ix came (i - 1)) := G.cell (i - 1) (by omega)
              have p0 := G.ok (i - 1) (by omega)
              have hk1 : ((i : Int) - 1).toNat = i - 1 := by omega
              have hk2 : (0 : Int) ≤ (i : Int) - 1 := by omega
              have hk3 : (i : Int) - 1 < came.length := by omega
              have hla : lastI came i = ix came (i - 1) := by
                obtain ⟨k, rfl⟩ : ∃ k, i = k + 1 := ⟨i - 1, by omega⟩
                rfl
              by_cases h5 : ix came i ≤ ix came (i - 1)
              · have hg : among came l = false := among_no (i := i) (by omega) (by unfold amGood; rw [hla, decide_eq_false (by omega)]; rfl)
                obtain ⟨h1, h2⟩ := no (opnNum_among hg) (by decide)
                simp (config := { maxSteps := 600000 }) only [hlt, hp, i0, c0, o0, e0, p0, hk1, hk2, hk3, hA2, h5, h1, h2, undef, ownT2, ownT, push_cast, ↓Int.toNat_natCast, ↓Int.cast_ofNat_Int, Int.cast_ofNat_Int, ↓reduceIte, reduceCtorEq, Nat.reduceEqDiff, Nat.reduceLT, Nat.reduceLeDiff, Nat.reduceAdd, Nat.reduceSub, Nat.reduceMul, Int.reduceNeg, Int.reduceLE, Int.reduceLT, Int.reduceToNat, Int.reduceAdd, Int.reduceSub, Int.reduceMul, Int.reduceEq]
                all_goals omega
              · have hg : amGood came l i = true := by unfold amGood; rw [hh, hla, decide_eq_true (by omega)]; rfl
                simp (config := { maxSteps := 600000 }) only [hlt, hp, i0, c0, o0, e0, p0, hk1, hk2, hk3, hA2, h5, undef, push_cast, ↓Int.toNat_natCast, ↓Int.cast_ofNat_Int, Int.cast_ofNat_Int, ↓reduceIte, reduceCtorEq, Nat.reduceEqDiff, Nat.reduceLT, Nat.reduceLeDiff, Nat.reduceAdd, Nat.reduceSub, Nat.reduceMul, Int.reduceNeg, Int.reduceLE, Int.reduceLT, Int.reduceToNat, Int.reduceAdd, Int.reduceSub, Int.reduceMul, Int.reduceEq]
                (repeat (refine And.intro (by first | omega | decide) ?_))
                refine loopK_normal (i + 1) [] ⟨by omega, fun j hjl => ?_⟩ (by omega) ?_
                · by_cases e : j = i
                  · rw [e]; exact hg
                  · exact hj j (by omega)
                · simp (config := { maxSteps := 600000 }) only [push_cast, ↓Int.toNat_natCast, ↓Int.cast_ofNat_Int, Int.cast_ofNat_Int, ↓reduceIte, reduceCtorEq, Nat.reduceEqDiff, Nat.reduceLT, Nat.reduceLeDiff, Nat.reduceAdd, Nat.reduceSub, Nat.reduceMul, Int.reduceNeg, Int.reduceLE, Int.reduceLT, Int.reduceToNat, Int.reduceAdd, Int.reduceSub, Int.reduceMul, Int.reduceEq]
            · have hi0 : i = 0 := by omega
              have hnn := hasId_nonneg hm hh
              have hla : lastI came i = -1 := by rw [hi0]; rfl
              have hg : amGood came l i = true := by unfold amGood; rw [hh, hla, decide_eq_true (by omega)]; rfl
              simp (config := { maxSteps := 600000 }) only [hlt, hp, undef, push_cast, ↓Int.toNat_natCast, ↓Int.cast_ofNat_Int, Int.cast_ofNat_Int, ↓reduceIte, reduceCtorEq, Nat.reduceEqDiff, Nat.reduceLT, Nat.reduceLeDiff, Nat.reduceAdd, Nat.reduceSub, Nat.reduceMul, Int.reduceNeg, Int.reduceLE, Int.reduceLT, Int.reduceToNat, Int.reduceAdd, Int.reduceSub, Int.reduceMul, Int.reduceEq]
              (repeat (refine And.intro (by first | omega | decide) ?_))
              refine loopK_normal (i + 1) [] ⟨by omega, fun j hjl => ?_⟩ (by omega) ?_
              · by_cases e : j = i
                · rw [e]; exact hg
                · exact hj j (by omega)
              · simp (config := { maxSteps := 600000 }) only [push_cast, ↓Int.toNat_natCast, ↓Int.cast_ofNat_Int, Int.cast_ofNat_Int, ↓reduceIte, reduceCtorEq, Nat.reduceEqDiff, Nat.reduceLT, Nat.reduceLeDiff, Nat.reduceAdd, Nat.reduceSub, Nat.reduceMul, Int.reduceNeg, Int.reduceLE, Int.reduceLT, Int.reduceToNat, Int.reduceAdd, Int.reduceSub, Int.reduceMul, Int.reduceEq]
    · have hil : i = came.length := by omega
      subst hil
      clear hi
      have ha : among came l = true := among_iff.2 hj
      have d0 : (0 : Int) ≤ d := by omega
      have dz : (d : Int) ≤ 281474976710656 / 4 := by omega
      have d3 : (4 : Int) * d ≤ 281474976710656 := by omega
      have d4 : (d : Int) ≤ 9223372036854775807 := by omega
      have ez := (ocTo_zero d (fd sf) came).symm
      simp (config := { maxSteps := 600000 }) only [hlt, d0, d3, d4, ez, undef, push_cast, ↓Int.toNat_natCast, ↓Int.cast_ofNat_Int, Int.cast_ofNat_Int, ↓reduceIte, reduceCtorEq, Nat.reduceEqDiff, Nat.reduceLT, Nat.reduceLeDiff, Nat.reduceAdd, Nat.reduceSub, Nat.reduceMul, Int.reduceNeg, Int.reduceLE, Int.reduceLT, Int.reduceToNat, Int.reduceAdd, Int.reduceSub, Int.reduceMul, Int.reduceEq]
      (repeat (refine And.intro (by first | omega | decide) ?_))
      refine loop_rule (ι := Nat) (fun i => ⟨[(0, (.x (.a (.v (.slice A2 came.length c2))))), (1, (.x (.a (.v (.slice A l.length c))))), (2, .x (.a (.v (.slice As seeds.length cs)))), (3, .x (.a (.v (.slice Ak keys.length ck)))), (4, .x (.a (.v (.int .i64 d)))), (15, .x (.a (.o 0))), (16, .x (.a (.v (.int .i64 i))))], [.own 50 (.u32 (ocTo d (fd sf) came i))]⟩) (fun i => i ≤ came.length ∧ ∀ j, j < i → (sf (ix came j)).isSome = true) (fun i => came.length - i) 0 [0] ⟨by omega, fun j h => by omega⟩ ?_ ?_
      · simp (config := { maxSteps := 600000 }) only [push_cast, ↓Int.toNat_natCast, ↓Int.cast_ofNat_Int, Int.cast_ofNat_Int, ↓reduceIte, reduceCtorEq, Nat.reduceEqDiff, Nat.reduceLT, Nat.reduceLeDiff, Nat.reduceAdd, Nat.reduceSub, Nat.reduceMul, Int.reduceNeg, Int.reduceLE, Int.reduceLT, Int.reduceToNat, Int.reduceAdd, Int.reduceSub, Int.reduceMul, Int.reduceEq]
      · rintro i ⟨hi, hsj⟩
        by_cases hlt : (i : Int) < came.length
        · have i0 : (0 : Int) ≤ i := by omega
          have c0 : cellOf w (pAdd A2 i) = .int .i64 (ix came i) := G.cell i (by omega)
          have o0 := G.ok i (by omega)
          have hA2 := G.some_ (by omega)
          simp (config := { maxSteps := 600000 }) only [hlt, i0, c0, o0, hA2, undef, push_cast, ↓Int.toNat_natCast, ↓Int.cast_ofNat_Int, Int.cast_ofNat_Int, ↓reduceIte, reduceCtorEq, Nat.reduceEqDiff, Nat.reduceLT, Nat.reduceLeDiff, Nat.reduceAdd, Nat.reduceSub, Nat.reduceMul, Int.reduceNeg, Int.reduceLE, Int.reduceLT, Int.reduceToNat, Int.reduceAdd, Int.reduceSub, Int.reduceMul, Int.reduceEq]
          (repeat (refine And.intro (by first | omega | decide) ?_))
          refine callG_v rfl cb61 rfl (find10OK (l := seeds) (ix came i) hls (showsR_raw hRs hcs)) (dOk_lt rfl) ?_
          rw [hsf]
          cases hv : sf (ix came i) with
          | none =>
            have hg := given_seed_no (kf := kf) ha (i := i) (by omega) hv
            obtain ⟨h1, h2⟩ := no (opnNum_given hz hm ha hg) (by decide)
            simp (config := { maxSteps := 600000 }) only [h1, h2, Option.isSome_none, undef, ownT2, ownT, push_cast, ↓Int.toNat_natCast, ↓Int.cast_ofNat_Int, Int.cast_ofNat_Int, ↓reduceIte, reduceCtorEq, Nat.reduceEqDiff, Nat.reduceLT, Nat.reduceLeDiff, Nat.reduceAdd, Nat.reduceSub, Nat.reduceMul, Int.reduceNeg, Int.reduceLE, Int.reduceLT, Int.reduceToNat, Int.reduceAdd, Int.reduceSub, Int.reduceMul, Int.reduceEq]
          | some v =>
            have hfd := fd_some hv
            have hwo := own_wOut v d hd
            have hop : opOk (ocTo d (fd sf) came i) (ownW v d) = true := opOk_len (ocTo_length _ _ _ _) (ownW_length _ _) hd
            have hso : opOut (· + ·) (ocTo d (fd sf) came i) (ownW v d) = ocTo d (fd sf) came (i + 1) := by rw [opOut_yes hop, ocTo_length, ocTo_succ, hfd]
            simp (config := { maxSteps := 600000 }) only [hfd, ownLit, undef, push_cast, ↓Int.toNat_natCast, ↓Int.cast_ofNat_Int, Int.cast_ofNat_Int, ↓reduceIte, reduceCtorEq, Nat.reduceEqDiff, Nat.reduceLT, Nat.reduceLeDiff, Nat.reduceAdd, Nat.reduceSub, Nat.reduceMul, Int.reduceNeg, Int.reduceLE, Int.reduceLT, Int.reduceToNat, Int.reduceAdd, Int.reduceSub, Int.reduceMul, Int.reduceEq]
            refine callG_x rfl cb14 rfl (refWords7OK v ownS (by decide) d (by simp only [push_cast, ↓Int.toNat_natCast, ↓Int.cast_ofNat_Int, Int.cast_ofNat_Int, ↓reduceIte, reduceCtorEq, Nat.reduceEqDiff, Nat.reduceLT, Nat.reduceLeDiff, Nat.reduceAdd, Nat.reduceSub, Nat.reduceMul, Int.reduceNeg, Int.reduceLE, Int.reduceLT, Int.reduceToNat, Int.reduceAdd, Int.reduceSub, Int.reduceMul, Int.reduceEq])) (dOk_lt rfl) (by simp only [push_cast, ↓Int.toNat_natCast, ↓Int.cast_ofNat_Int, Int.cast_ofNat_Int, ↓reduceIte, reduceCtorEq, Nat.reduceEqDiff, Nat.reduceLT, Nat.reduceLeDiff, Nat.reduceAdd, Nat.reduceSub, Nat.reduceMul, Int.reduceNeg, Int.reduceLE, Int.reduceLT, Int.reduceToNat, Int.reduceAdd, Int.reduceSub, Int.reduceMul, Int.reduceEq]) ?_
            simp (config := { maxSteps := 600000 }) only [hwo, undef, push_cast, ↓Int.toNat_natCast, ↓Int.cast_ofNat_Int, Int.cast_ofNat_Int, ↓reduceIte, reduceCtorEq, Nat.reduceEqDiff, Nat.reduceLT, Nat.reduceLeDiff, Nat.reduceAdd, Nat.reduceSub, Nat.reduceMul, Int.reduceNeg, Int.reduceLE, Int.reduceLT, Int.reduceToNat, Int.reduceAdd, Int.reduceSub, Int.reduceMul, Int.reduceEq]
            refine callG_x rfl cb50 rfl (refAddOK 1 (shows_own rfl fun _ => rfl) (shows_own rfl fun _ => rfl) (by simp only [push_cast, ↓Int.toNat_natCast, ↓Int.cast_ofNat_Int, Int.cast_ofNat_Int, ↓reduceIte, reduceCtorEq, Nat.reduceEqDiff, Nat.reduceLT, Nat.reduceLeDiff, Nat.reduceAdd, Nat.reduceSub, Nat.reduceMul, Int.reduceNeg, Int.reduceLE, Int.reduceLT, Int.reduceToNat, Int.reduceAdd, Int.reduceSub, Int.reduceMul, Int.reduceEq])) (dOk_lt rfl) (by simp only [push_cast, ↓Int.toNat_natCast, ↓Int.cast_ofNat_Int, Int.cast_ofNat_Int, ↓reduceIte, reduceCtorEq, Nat.reduceEqDiff, Nat.reduceLT, Nat.reduceLeDiff, Nat.reduceAdd, Nat.reduceSub, Nat.reduceMul, Int.reduceNeg, Int.reduceLE, Int.reduceLT, Int.reduceToNat, Int.reduceAdd, Int.reduceSub, Int.reduceMul, Int.reduceEq]) ?_
            simp (config := { maxSteps := 600000 }) only [opOut_congr timesF_one, hso, undef, push_cast, ↓Int.toNat_natCast, ↓Int.cast_ofNat_Int, Int.cast_ofNat_Int, ↓reduceIte, reduceCtorEq, Nat.reduceEqDiff, Nat.reduceLT, Nat.reduceLeDiff, Nat.reduceAdd, Nat.reduceSub, Nat.reduceMul, Int.reduceNeg, Int.reduceLE, Int.reduceLT, Int.reduceToNat, Int.reduceAdd, Int.reduceSub, Int.reduceMul, Int.reduceEq]
            (repeat (refine And.intro (by first | omega | decide) ?_))
            refine loopK_normal (i + 1) [2] ⟨by omega, fun j hjl => ?_⟩ (by omega) ?_
            · by_cases e : j = i
              · rw [e, hv]; rfl
              · exact hsj j (by omega)
            · simp (config := { maxSteps := 600000 }) only [push_cast, ↓Int.toNat_natCast, ↓Int.cast_ofNat_Int, Int.cast_ofNat_Int, ↓reduceIte, reduceCtorEq, Nat.reduceEqDiff, Nat.reduceLT, Nat.reduceLeDiff, Nat.reduceAdd, Nat.reduceSub, Nat.reduceMul, Int.reduceNeg, Int.reduceLE, Int.reduceLT, Int.reduceToNat, Int.reduceAdd, Int.reduceSub, Int.reduceMul, Int.reduceEq]
        · have hil : i = came.length := by omega
          subst hil
          clear hi
          simp (config := { maxSteps := 600000 }) only [hlt, undef, push_cast, ↓Int.toNat_natCast, ↓Int.cast_ofNat_Int, Int.cast_ofNat_Int, ↓reduceIte, reduceCtorEq, Nat.reduceEqDiff, Nat.reduceLT, Nat.reduceLeDiff, Nat.reduceAdd, Nat.reduceSub, Nat.reduceMul, Int.reduceNeg, Int.reduceLE, Int.reduceLT, Int.reduceToNat, Int.reduceAdd, Int.reduceSub, Int.reduceMul, Int.reduceEq]
          have e0 := (soTo_zero d (fd kf) came l (ocTo d (fd sf) came came.length)).symm
          refine loop_rule (ι := Nat) (fun i => ⟨[(0, (.x (.a (.v (.slice A2 came.length c2))))), (1, (.x (.a (.v (.slice A l.length c))))), (3, .x (.a (.v (.slice Ak keys.length ck)))), (4, .x (.a (.v (.int .i64 d)))), (15, .x (.a (.o 0))), (21, .x (.a (.v (.int .i64 i))))], [.own 50 (.u32 (soTo d (fd kf) came l (ocTo d (fd sf) came came.length) i))]⟩) (fun i => i ≤ l.length ∧ ∀ j, j < i → gvGood came l sf kf j = true) (fun i => l.length - i) 0 [0] ⟨by omega, fun j h => by omega⟩ ?_ ?_
          · simp (config := { maxSteps := 600000 }) only [← e0, push_cast, ↓Int.toNat_natCast, ↓Int.cast_ofNat_Int, Int.cast_ofNat_Int, ↓reduceIte, reduceCtorEq, Nat.reduceEqDiff, Nat.reduceLT, Nat.reduceLeDiff, Nat.reduceAdd, Nat.reduceSub, Nat.reduceMul, Int.reduceNeg, Int.reduceLE, Int.reduceLT, Int.reduceToNat, Int.reduceAdd, Int.reduceSub, Int.reduceMul, Int.reduceEq]
          · rintro i ⟨hi, hgj⟩
            have hsl := soTo_length (f := fd kf) (came := came) (l := l) (ocTo_length d (fd sf) came came.length) i
            by_cases hlt : (i : Int) < l.length
            · have i0 : (0 : Int) ≤ i := by omega
              have c0 := F.c0 i (by omega)
              have c1 := F.c1 i (by omega)
              have o0 := F.ok0 i (by omega)
              have o1 := F.ok1 i (by omega)
              have hA := F.some_ (by omega)
              have next : gvGood came l sf kf i = true → ∀ j, j < i + 1 → gvGood came l sf kf j = true := fun hg j hjl => by
                by_cases e : j = i
                · rw [e]; exact hg
                · exact hgj j (by omega)
              simp (config := { maxSteps := 600000 }) only [hlt, i0, c0, c1, o0, o1, hA, pAdd_zero, pAdd_add, pAdd_isSome, undef, push_cast, ↓Int.toNat_natCast, ↓Int.cast_ofNat_Int, Int.cast_ofNat_Int, ↓reduceIte, reduceCtorEq, Nat.reduceEqDiff, Nat.reduceLT, Nat.reduceLeDiff, Nat.reduceAdd, Nat.reduceSub, Nat.reduceMul, Int.reduceNeg, Int.reduceLE, Int.reduceLT, Int.reduceToNat, Int.reduceAdd, Int.reduceSub, Int.reduceMul, Int.reduceEq]
              (repeat (refine And.intro (by first | omega | decide) ?_))
              refine callG_v rfl cb62 rfl (in10OK (l := came) (ix l i).1 hl2 (shows_raw hR2 _ _ (by simp) hc2)) (dOk_lt rfl) ?_
              cases hin : isIn came (ix l i).1
              · simp (config := { maxSteps := 600000 }) only [hlt, i0, c0, c1, o0, o1, hA, pAdd_zero, pAdd_add, pAdd_isSome, undef, push_cast, ↓Int.toNat_natCast, ↓Int.cast_ofNat_Int, Int.cast_ofNat_Int, ↓reduceIte, reduceCtorEq, Nat.reduceEqDiff, Nat.reduceLT, Nat.reduceLeDiff, Nat.reduceAdd, Nat.reduceSub, Nat.reduceMul, Int.reduceNeg, Int.reduceLE, Int.reduceLT, Int.reduceToNat, Int.reduceAdd, Int.reduceSub, Int.reduceMul, Int.reduceEq]
                (repeat (refine And.intro (by first | omega | decide) ?_))
                refine callG_v rfl cb61 rfl (find10OK (l := keys) (ix l i).1 hlk (showsR_raw hRk hck)) (dOk_lt rfl) ?_
                rw [hkf]
                cases hv : kf (ix l i).1 with
                | none =>
                  have hg : given came l sf kf = false := given_no (i := i) (by omega) (by unfold gvGood; rw [hin, hv]; rfl)
                  obtain ⟨h1, h2⟩ := no (opnNum_given hz hm ha hg) (by decide)
                  simp (config := { maxSteps := 600000 }) only [h1, h2, Option.isSome_none, undef, ownT2, ownT, push_cast, ↓Int.toNat_natCast, ↓Int.cast_ofNat_Int, Int.cast_ofNat_Int, ↓reduceIte, reduceCtorEq, Nat.reduceEqDiff, Nat.reduceLT, Nat.reduceLeDiff, Nat.reduceAdd, Nat.reduceSub, Nat.reduceMul, Int.reduceNeg, Int.reduceLE, Int.reduceLT, Int.reduceToNat, Int.reduceAdd, Int.reduceSub, Int.reduceMul, Int.reduceEq]
                | some v =>
                  have hfd := fd_some hv
                  have hwo := withL_ok (came := came) (i := i) hm (by omega) hd
                  have hpo := hidW_out (came := came) (i := i) (fd kf) hm (by omega) hd
                  rw [hfd] at hpo
                  have hop : opOk (soTo d (fd kf) came l (ocTo d (fd sf) came came.length) i) (hidW came l d (fd kf) i) = true := opOk_len hsl (hidW_length _ _ _ _ _) hd
                  have hso : opOut (· - ·) (soTo d (fd kf) came l (ocTo d (fd sf) came came.length) i) (hidW came l d (fd kf) i) = soTo d (fd kf) came l (ocTo d (fd sf) came came.length) (i + 1) := by rw [opOut_yes hop, hsl, soTo_out hin]
                  have hgg : gvGood came l sf kf i = true := by unfold gvGood; rw [hin, hv]; rfl
                  simp (config := { maxSteps := 600000 }) only [hfd, undef, push_cast, ↓Int.toNat_natCast, ↓Int.cast_ofNat_Int, Int.cast_ofNat_Int, ↓reduceIte, reduceCtorEq, Nat.reduceEqDiff, Nat.reduceLT, Nat.reduceLeDiff, Nat.reduceAdd, Nat.reduceSub, Nat.reduceMul, Int.reduceNeg, Int.reduceLE, Int.reduceLT, Int.reduceToNat, Int.reduceAdd, Int.reduceSub, Int.reduceMul, Int.reduceEq]
                  refine loop_ghostN 24 65 2 (.c []) (by omega) rfl rfl (by simp (config := { maxSteps := 600000 }) only [push_cast, ↓Int.toNat_natCast, ↓Int.cast_ofNat_Int, Int.cast_ofNat_Int, ↓reduceIte, reduceCtorEq, Nat.reduceEqDiff, Nat.reduceLT, Nat.reduceLeDiff, Nat.reduceAdd, Nat.reduceSub, Nat.reduceMul, Int.reduceNeg, Int.reduceLE, Int.reduceLT, Int.reduceToNat, Int.reduceAdd, Int.reduceSub, Int.reduceMul, Int.reduceEq]) ?_
                  refine loop_rule (ι := Nat) (fun k => ⟨[(0, (.x (.a (.v (.slice A2 came.length c2))))), (1, (.x (.a (.v (.slice A l.length c))))), (3, .x (.a (.v (.slice Ak keys.length ck)))), (4, .x (.a (.v (.int .i64 d)))), (15, .x (.a (.o 0))), (21, .x (.a (.v (.int .i64 i)))), (22, .x (.a (.v (vU64 v)))), (24, .x (.a (.o 1))), (25, .x (.a (.v (.int .i64 k))))], [.own 50 (.u32 (soTo d (fd kf) came l (ocTo d (fd sf) came came.length) i)), .onn 65 2 (.c (pcs (withTo (ix l i) came l k)))]⟩) (fun k => k ≤ l.length) (fun k => l.length - k) 0 [0, 1] (by omega) ?_ ?_
                  · simp (config := { maxSteps := 600000 }) only [withTo_zero, pcs_nil, push_cast, ↓Int.toNat_natCast, ↓Int.cast_ofNat_Int, Int.cast_ofNat_Int, ↓reduceIte, reduceCtorEq, Nat.reduceEqDiff, Nat.reduceLT, Nat.reduceLeDiff, Nat.reduceAdd, Nat.reduceSub, Nat.reduceMul, Int.reduceNeg, Int.reduceLE, Int.reduceLT, Int.reduceToNat, Int.reduceAdd, Int.reduceSub, Int.reduceMul, Int.reduceEq]
                  · intro k hk
                    by_cases hkt : (k : Int) < l.length
                    · have k0 : (0 : Int) ≤ k := by omega
                      have d0 := F.c0 k (by omega)
                      have d1 := F.c1 k (by omega)
                      have p0 := F.ok0 k (by omega)
                      have p1 := F.ok1 k (by omega)
                      have hw := withTo_length (ix l i) came l k
                      have hsn := (pcs_app (withTo (ix l i) came l k) [ix l k]).symm
                      have hwb := withB_at (came := came) (i := i) (k := k) hm (by omega) (by omega)
                      by_cases hki : (k : Int) = i
                      · have hyes : withB came (ix l i) (ix l k) = true := by rw [hwb, decide_eq_true (by omega)]; rfl
                        have e := withTo_yes (one := ix l i) (came := came) (l := l) (i := k) (by omega) hyes
                        rw [pcs_cons, pcs_nil, ← e] at hsn
                        rw [show k = i by omega] at d0 d1 p0 p1 hsn hw k0 hkt hk ⊢
                        simp (config := { maxSteps := 600000 }) only [hkt, k0, d0, d1, p0, p1, hA, hsn, pAdd_zero, pAdd_add, pAdd_isSome, pcs_forall, undef, push_cast, ↓Int.toNat_natCast, ↓Int.cast_ofNat_Int, Int.cast_ofNat_Int, ↓reduceIte, reduceCtorEq, Nat.reduceEqDiff, Nat.reduceLT, Nat.reduceLeDiff, Nat.reduceAdd, Nat.reduceSub, Nat.reduceMul, Int.reduceNeg, Int.reduceLE, Int.reduceLT, Int.reduceToNat, Int.reduceAdd, Int.reduceSub, Int.reduceMul, Int.reduceEq]
                        (repeat (refine And.intro (by first | omega | decide) ?_))
                        refine loopK_normal (i + 1) [0, 3] (by omega) (by omega) ?_
                        simp (config := { maxSteps := 600000 }) only [pcs_forall, pcs_ren, push_cast, ↓Int.toNat_natCast, ↓Int.cast_ofNat_Int, Int.cast_ofNat_Int, ↓reduceIte, reduceCtorEq, Nat.reduceEqDiff, Nat.reduceLT, Nat.reduceLeDiff, Nat.reduceAdd, Nat.reduceSub, Nat.reduceMul, Int.reduceNeg, Int.reduceLE, Int.reduceLT, Int.reduceToNat, Int.reduceAdd, Int.reduceSub, Int.reduceMul, Int.reduceEq]
                      · simp (config := { maxSteps := 600000 }) only [hkt, hki, k0, d0, d1, p0, p1, hA, pAdd_zero, pAdd_add, pAdd_isSome, undef, push_cast, ↓Int.toNat_natCast, ↓Int.cast_ofNat_Int, Int.cast_ofNat_Int, ↓reduceIte, reduceCtorEq, Nat.reduceEqDiff, Nat.reduceLT, Nat.reduceLeDiff, Nat.reduceAdd, Nat.reduceSub, Nat.reduceMul, Int.reduceNeg, Int.reduceLE, Int.reduceLT, Int.reduceToNat, Int.reduceAdd, Int.reduceSub, Int.reduceMul, Int.reduceEq]
                        (repeat (refine And.intro (by first | omega | decide) ?_))
                        refine callG_v rfl cb62 rfl (in10OK (l := came) (ix l k).1 hl2 (shows_raw hR2 _ _ (by simp) hc2)) (dOk_lt rfl) ?_
                        cases hin2 : isIn came (ix l k).1
                        · have hno : withB came (ix l i) (ix l k) = false := by rw [hwb, hin2, decide_eq_false (by omega)]; rfl
                          have e := withTo_no (one := ix l i) (came := came) (l := l) (i := k) (by omega) hno
                          simp (config := { maxSteps := 600000 }) only [hkt, undef, push_cast, ↓Int.toNat_natCast, ↓Int.cast_ofNat_Int, Int.cast_ofNat_Int, ↓reduceIte, reduceCtorEq, Nat.reduceEqDiff, Nat.reduceLT, Nat.reduceLeDiff, Nat.reduceAdd, Nat.reduceSub, Nat.reduceMul, Int.reduceNeg, Int.reduceLE, Int.reduceLT, Int.reduceToNat, Int.reduceAdd, Int.reduceSub, Int.reduceMul, Int.reduceEq]
                          (repeat (refine And.intro (by first | omega | decide) ?_))
                          refine loopK_normal (k + 1) [0, 1] (by omega) (by omega) ?_
                          simp (config := { maxSteps := 600000 }) only [e, pcs_forall, pcs_ren, push_cast, ↓Int.toNat_natCast, ↓Int.cast_ofNat_Int, Int.cast_ofNat_Int, ↓reduceIte, reduceCtorEq, Nat.reduceEqDiff, Nat.reduceLT, Nat.reduceLeDiff, Nat.reduceAdd, Nat.reduceSub, Nat.reduceMul, Int.reduceNeg, Int.reduceLE, Int.reduceLT, Int.reduceToNat, Int.reduceAdd, Int.reduceSub, Int.reduceMul, Int.reduceEq]
                        · have hyes : withB came (ix l i) (ix l k) = true := by rw [hwb, hin2, Bool.or_true]
                          have e := withTo_yes (one := ix l i) (came := came) (l := l) (i := k) (by omega) hyes
                          rw [pcs_cons, pcs_nil, ← e] at hsn
                          simp (config := { maxSteps := 600000 }) only [hkt, k0, d0, d1, p0, p1, hA, hsn, pAdd_zero, pAdd_add, pAdd_isSome, pcs_forall, undef, push_cast, ↓Int.toNat_natCast, ↓Int.cast_ofNat_Int, Int.cast_ofNat_Int, ↓reduceIte, reduceCtorEq, Nat.reduceEqDiff, Nat.reduceLT, Nat.reduceLeDiff, Nat.reduceAdd, Nat.reduceSub, Nat.reduceMul, Int.reduceNeg, Int.reduceLE, Int.reduceLT, Int.reduceToNat, Int.reduceAdd, Int.reduceSub, Int.reduceMul, Int.reduceEq]
                          (repeat (refine And.intro (by first | omega | decide) ?_))
                          refine loopK_normal (k + 1) [0, 3] (by omega) (by omega) ?_
                          simp (config := { maxSteps := 600000 }) only [pcs_forall, pcs_ren, push_cast, ↓Int.toNat_natCast, ↓Int.cast_ofNat_Int, Int.cast_ofNat_Int, ↓reduceIte, reduceCtorEq, Nat.reduceEqDiff, Nat.reduceLT, Nat.reduceLeDiff, Nat.reduceAdd, Nat.reduceSub, Nat.reduceMul, Int.reduceNeg, Int.reduceLE, Int.reduceLT, Int.reduceToNat, Int.reduceAdd, Int.reduceSub, Int.reduceMul, Int.reduceEq]
                    · have hkl : k = l.length := by omega
                      subst hkl
                      have e := withTo_all (ix l i) came l
                      have hll := withL_length (ix l i) came l
                      simp (config := { maxSteps := 600000 }) only [hkt, hlt, i0, c0, c1, o0, o1, hA, e, pAdd_zero, pAdd_add, pAdd_isSome, undef, push_cast, ↓Int.toNat_natCast, ↓Int.cast_ofNat_Int, Int.cast_ofNat_Int, ↓reduceIte, reduceCtorEq, Nat.reduceEqDiff, Nat.reduceLT, Nat.reduceLeDiff, Nat.reduceAdd, Nat.reduceSub, Nat.reduceMul, Int.reduceNeg, Int.reduceLE, Int.reduceLT, Int.reduceToNat, Int.reduceAdd, Int.reduceSub, Int.reduceMul, Int.reduceEq]
                      (repeat (refine And.intro (by first | omega | decide) ?_))
                      refine callG_x rfl cb49 rfl (refRow09OK (l := withL (ix l i) came l) (ix l i).1 v d (by omega) (showsR_pcs rfl) (by simp only [pcs_forall, push_cast, ↓Int.toNat_natCast, ↓Int.cast_ofNat_Int, Int.cast_ofNat_Int, ↓reduceIte, reduceCtorEq, Nat.reduceEqDiff, Nat.reduceLT, Nat.reduceLeDiff, Nat.reduceAdd, Nat.reduceSub, Nat.reduceMul, Int.reduceNeg, Int.reduceLE, Int.reduceLT, Int.reduceToNat, Int.reduceAdd, Int.reduceSub, Int.reduceMul, Int.reduceEq])) (dOk_lt rfl) (by simp only [pcs_forall, push_cast, ↓Int.toNat_natCast, ↓Int.cast_ofNat_Int, Int.cast_ofNat_Int, ↓reduceIte, reduceCtorEq, Nat.reduceEqDiff, Nat.reduceLT, Nat.reduceLeDiff, Nat.reduceAdd, Nat.reduceSub, Nat.reduceMul, Int.reduceNeg, Int.reduceLE, Int.reduceLT, Int.reduceToNat, Int.reduceAdd, Int.reduceSub, Int.reduceMul, Int.reduceEq]) ?_
                      simp (config := { maxSteps := 600000 }) only [hpo, hwo, undef, push_cast, ↓Int.toNat_natCast, ↓Int.cast_ofNat_Int, Int.cast_ofNat_Int, ↓reduceIte, reduceCtorEq, Nat.reduceEqDiff, Nat.reduceLT, Nat.reduceLeDiff, Nat.reduceAdd, Nat.reduceSub, Nat.reduceMul, Int.reduceNeg, Int.reduceLE, Int.reduceLT, Int.reduceToNat, Int.reduceAdd, Int.reduceSub, Int.reduceMul, Int.reduceEq]
                      refine callG_x rfl cb50 rfl (refAddOK 4294967295 (shows_own rfl fun _ => rfl) (shows_own rfl fun _ => rfl) (by simp only [pcs_forall, push_cast, ↓Int.toNat_natCast, ↓Int.cast_ofNat_Int, Int.cast_ofNat_Int, ↓reduceIte, reduceCtorEq, Nat.reduceEqDiff, Nat.reduceLT, Nat.reduceLeDiff, Nat.reduceAdd, Nat.reduceSub, Nat.reduceMul, Int.reduceNeg, Int.reduceLE, Int.reduceLT, Int.reduceToNat, Int.reduceAdd, Int.reduceSub, Int.reduceMul, Int.reduceEq])) (dOk_lt rfl) (by simp only [pcs_forall, push_cast, ↓Int.toNat_natCast, ↓Int.cast_ofNat_Int, Int.cast_ofNat_Int, ↓reduceIte, reduceCtorEq, Nat.reduceEqDiff, Nat.reduceLT, Nat.reduceLeDiff, Nat.reduceAdd, Nat.reduceSub, Nat.reduceMul, Int.reduceNeg, Int.reduceLE, Int.reduceLT, Int.reduceToNat, Int.reduceAdd, Int.reduceSub, Int.reduceMul, Int.reduceEq]) ?_
                      simp (config := { maxSteps := 600000 }) only [opOut_congr timesF_neg, hso, undef, push_cast, ↓Int.toNat_natCast, ↓Int.cast_ofNat_Int, Int.cast_ofNat_Int, ↓reduceIte, reduceCtorEq, Nat.reduceEqDiff, Nat.reduceLT, Nat.reduceLeDiff, Nat.reduceAdd, Nat.reduceSub, Nat.reduceMul, Int.reduceNeg, Int.reduceLE, Int.reduceLT, Int.reduceToNat, Int.reduceAdd, Int.reduceSub, Int.reduceMul, Int.reduceEq]
                      (repeat (refine And.intro (by first | omega | decide) ?_))
                      refine loopK_normal (i + 1) [3] ⟨by omega, next hgg⟩ (by omega) ?_
                      simp (config := { maxSteps := 600000 }) only [push_cast, ↓Int.toNat_natCast, ↓Int.cast_ofNat_Int, Int.cast_ofNat_Int, ↓reduceIte, reduceCtorEq, Nat.reduceEqDiff, Nat.reduceLT, Nat.reduceLeDiff, Nat.reduceAdd, Nat.reduceSub, Nat.reduceMul, Int.reduceNeg, Int.reduceLE, Int.reduceLT, Int.reduceToNat, Int.reduceAdd, Int.reduceSub, Int.reduceMul, Int.reduceEq]
              · have hso := soTo_in (d := d) (f := fd kf) (s := ocTo d (fd sf) came came.length) hin
                simp (config := { maxSteps := 600000 }) only [hlt, undef, push_cast, ↓Int.toNat_natCast, ↓Int.cast_ofNat_Int, Int.cast_ofNat_Int, ↓reduceIte, reduceCtorEq, Nat.reduceEqDiff, Nat.reduceLT, Nat.reduceLeDiff, Nat.reduceAdd, Nat.reduceSub, Nat.reduceMul, Int.reduceNeg, Int.reduceLE, Int.reduceLT, Int.reduceToNat, Int.reduceAdd, Int.reduceSub, Int.reduceMul, Int.reduceEq]
                (repeat (refine And.intro (by first | omega | decide) ?_))
                refine loopK_normal (i + 1) [0] ⟨by omega, next (gv_in hin hsj)⟩ (by omega) ?_
                simp (config := { maxSteps := 600000 }) only [hso, push_cast, ↓Int.toNat_natCast, ↓Int.cast_ofNat_Int, Int.cast_ofNat_Int, ↓reduceIte, reduceCtorEq, Nat.reduceEqDiff, Nat.reduceLT, Nat.reduceLeDiff, Nat.reduceAdd, Nat.reduceSub, Nat.reduceMul, Int.reduceNeg, Int.reduceLE, Int.reduceLT, Int.reduceToNat, Int.reduceAdd, Int.reduceSub, Int.reduceMul, Int.reduceEq]
            · have hil : i = l.length := by omega
              subst hil
              have hg : given came l sf kf = true := given_iff.2 hgj
              have hnum := opnNum_yes hz hm ha hg
              have hout := opnOut_yes hnum
              rw [Int.toNat_natCast] at hout
              have e2 : soTo d (fd kf) came l (ocTo d (fd sf) came came.length) l.length = opnOut came l sf kf d := (opnVal_eq came l sf kf d).trans hout.symm
              simp (config := { maxSteps := 600000 }) only [hlt, hnum, e2, undef, ownT2, ownT, push_cast, ↓Int.toNat_natCast, ↓Int.cast_ofNat_Int, Int.cast_ofNat_Int, ↓reduceIte, reduceCtorEq, Nat.reduceEqDiff, Nat.reduceLT, Nat.reduceLeDiff, Nat.reduceAdd, Nat.reduceSub, Nat.reduceMul, Int.reduceNeg, Int.reduceLE, Int.reduceLT, Int.reduceToNat, Int.reduceAdd, Int.reduceSub, Int.reduceMul, Int.reduceEq]
theorem refOpen10OK {w0 : World} {hp : List Res} {s1 s2 s3 s4 : Sv} {came : List Int} {l seeds keys : List Pr} (dim : Int) (hl : l.length ≤ 1000000) (hl2 : came.length ≤ 1000000) (hls : seeds.length ≤ 1000000) (hlk : keys.length ≤ 1000000) (h1 : Shows w0 No hp s1 (came.map vI64)) (h2 : ShowsR w0 No hp s2 l.length (pvs l)) (h3 : ShowsR w0 No hp s3 seeds.length (pvs seeds)) (h4 : ShowsR w0 No hp s4 keys.length (pvs keys)) (hbr : ∀ r ∈ hp, Res.bnd hp.length r) :
    CallOK Tryd.prog w0 No 17 [s1, s2, s3, s4, .x (.a (.v (.int .i64 dim)))] hp (.t [.a (.o hp.length), .a (.v (.int .i64 (opnNum came l (findL seeds) (findL keys) dim)))]) (hp ++ [.own 50 (.u32 (opnOut came l (findL seeds) (findL keys) dim))]) := callOK_own2 hbr trivial fun γ w hS => by
  obtain ⟨A, c, e1, b1, r1⟩ := h1 γ w hS
  obtain ⟨A2, c2, e2, b2, r2⟩ := h2 γ w hS
  obtain ⟨A3, c3, e3, b3, r3⟩ := h3 γ w hS
  obtain ⟨A4, c4, e4, b4, r4⟩ := h4 γ w hS
  rw [List.length_map] at e1 b1
  show Calls _ _ #[s1.val γ, s2.val γ, s3.val γ, s4.val γ, .int .i64 dim] w _
  rw [e1, e2, e3, e4]
  exact refOpen10_any came l seeds keys dim A2 c2 A c A3 c3 A4 c4 w hl hl2 hls hlk b2 b1 b3 b4 r2 r1 r3 r4
end Go.Proofs.YteiifdpikcnbgaaDoor
