/- The walk of law 10's BlindSums. -/
import Derived.Test.YteiifdpikcnbgaaDoorBl8
import Derived.Test.YteiifdpikcnbgaaDoorDrA
namespace Go.Proofs.YteiifdpikcnbgaaDoor
open Go.RowKit
set_option linter.unusedSimpArgs false
/-! ### What each has, as it came in -/
structure Had where
  key : UInt64
  seed : UInt64
  x0 : UInt32
  x1 : UInt32
  x2 : UInt32
  x3 : UInt32
  came : Bool
deriving Inhabited
def Had.X (h : Had) : List UInt32 := [h.x0, h.x1, h.x2, h.x3]
def Had.vals (h : Had) : List Value := [vU64 h.key, vU64 h.seed, vU32 h.x0, vU32 h.x1, vU32 h.x2, vU32 h.x3, .bool h.came]
theorem had_len (h : Had) : h.vals.length = 7 := rfl
structure FHd (w0 : World) (A : Option Addr) (l : List Had) : Prop where
  some_ : 0 < l.length → A.isSome = true
  ck : ∀ i, i < l.length → cellOf w0 (pAdd A (i * 7)) = vU64 (ix l i).key
  cs : ∀ i, i < l.length → cellOf w0 (pAdd A (i * 7 + 1)) = vU64 (ix l i).seed
  cc : ∀ i, i < l.length → cellOf w0 (pAdd A (i * 7 + 6)) = .bool (ix l i).came
  ok : ∀ i j, i < l.length → j < 7 → rawOk w0 No (pAdd A (i * 7 + j))
  rx : ∀ i, i < l.length → RdV w0 w0.heap.size (pAdd A (i * 7 + 2)) ((ix l i).X.map vU32)
theorem FHd.of {w0 : World} {A : Option Addr} {l : List Had} (hR : RdV w0 w0.heap.size A (l.flatMap Had.vals)) : FHd w0 A l := by
  have h := FV.no hR
  have g : ∀ i j, i < l.length → j < 7 → (l.flatMap Had.vals)[i * 7 + j]? = (ix l i).vals[j]? := fun i j hi hj => flat_get had_len l i j hi hj
  have hg : ∀ i j u, i < l.length → j < 7 → (ix l i).vals[j]? = some u → cellOf w0 (pAdd A (i * 7 + j)) = u ∧ rawOk w0 No (pAdd A (i * 7 + j)) := fun i j u hi hj hu => h.cell ((g i j hi hj).trans hu)
  refine ⟨fun hp => h.some_ (by rw [flat_len had_len]; omega), fun i hi => (hg i 0 _ hi (by omega) rfl).1, fun i hi => (hg i 1 _ hi (by omega) rfl).1, fun i hi => (hg i 6 _ hi (by omega) rfl).1, fun i j hi hj => (hg i j _ hi hj (List.getElem?_eq_getElem (by rw [had_len]; exact hj))).2, fun i hi => ?_⟩
  have := rdv_take (rdv_drop hR (i * 7 + 2)) 4
  have e : ((l.flatMap Had.vals).drop (i * 7 + 2)).take 4 = (ix l i).X.map vU32 := by
    apply List.ext_getElem?
    intro j
    by_cases hj : j < 4
    · rw [List.getElem?_take_of_lt hj, List.getElem?_drop, Nat.add_assoc, g i (2 + j) hi (by omega)]
      match j, hj with
      | 0, _ => rfl
      | 1, _ => rfl
      | 2, _ => rfl
      | 3, _ => rfl
    · rw [List.getElem?_eq_none (by rw [List.length_take]; omega), List.getElem?_eq_none (by simp [Had.X]; omega)]
  rw [e] at this
  exact this
def hk (H : List Had) (i : Nat) : UInt64 := (ix H i).key
def hs (H : List Had) (i : Nat) : UInt64 := (ix H i).seed
def hc (H : List Had) (i : Nat) : Bool := (ix H i).came
def hx (H : List Had) (i : Nat) : List UInt32 := (ix H i).X
theorem FHd.rx' {w0 : World} {A : Option Addr} {H : List Had} (F : FHd w0 A H) {i : Nat} (hi : i < H.length) : RdV w0 w0.heap.size (pAdd A (i * 7 + 2)) ((hx H i).map vU32) := F.rx i hi
theorem hc_eq (H : List Had) (i : Nat) : hc H i = (ix H i).came := rfl
theorem hk_eq (H : List Had) (i : Nat) : hk H i = (ix H i).key := rfl
theorem hs_eq (H : List Had) (i : Nat) : hs H i = (ix H i).seed := rfl
theorem bP_fst (key : Nat → UInt64) (i : Nat) : (bP key i).1 = 3 * (i : Int) := rfl
theorem bP_snd (H : List Had) (i : Nat) : (bP (hk H) i).2 = powU 3 (ix H i).key := rfl
theorem hx_len (H : List Had) (i : Nat) : (hx H i).length = 4 := rfl
def fil (c : Nat → Bool) (i : Nat) : List Nat := (List.range i).filter c
theorem fil_zero (c : Nat → Bool) : fil c 0 = [] := rfl
theorem fil_y {c : Nat → Bool} {i : Nat} (h : c i = true) : fil c (i + 1) = fil c i ++ [i] := fil_yes c h
theorem fil_n {c : Nat → Bool} {i : Nat} (h : c i = false) : fil c (i + 1) = fil c i := fil_no c h
theorem fil_len (c : Nat → Bool) (i : Nat) : (fil c i).length ≤ i := by
  unfold fil
  exact Nat.le_trans (List.length_filter_le _ _) (by simp)
theorem bC_len (c : Nat → Bool) (i : Nat) : (bC c i).length ≤ i := by
  unfold bC
  rw [List.length_map]
  exact Nat.le_trans (List.length_filter_le _ _) (by simp)
theorem numL_putS (seed : Nat → UInt64) (c : Nat → Bool) {n : Nat} (h : c n = true) : putI (numL (bS seed c n)) (3 * (n : Int)) (.a (.v (vU64 (seed n)))) = numL (bS seed c (n + 1)) := by rw [bS_yes seed c h, numL_snoc]
theorem numL_putK (key : Nat → UInt64) (c : Nat → Bool) {n : Nat} (h : c n = false) : putI (numL (bK key c n)) (3 * (n : Int)) (.a (.v (vU64 (key n)))) = numL (bK key c (n + 1)) := by rw [bK_no key c h, numL_snoc]
theorem row_out {key seed : Nat → UInt64} {x : Nat → List UInt32} {n i : Nat} (h : n ≤ 20) (hi : i < n) (hx : (x i).length = 4) : brOut (x i) (3 * (i : Int)) (seed i) (key i) (bL key n) = bR key seed x n i ∧ brErr (3 * (i : Int)) (bL key n) (x i).length = .nilIface := by
  have hp := bR_ok key h hi
  have hb : brOk (3 * (i : Int)) (bL key n) (x i).length = true := by
    unfold brOk
    rw [hx]
    show (decide (4 ≤ 32) && prOk (3 * (i : Int)) (bL key n) 4) = true
    rw [hp]; rfl
  refine ⟨?_, brErr_yes hb⟩
  rw [brOut_yes hb]
  unfold bR
  rw [hx]
  rfl
theorem vecSumOK2 {w0 : World} {hp : List Res} {k kf : Nat} {e : TypeId} (R : List Rw) (F : List Fct) (n : Nat) (hn : n ≤ 32) (hRl : R.length ≤ 1000) (hr : hp[k]? = some (.own e (.c (R.map fun r => .v r.val)))) (hF : hp[kf]? = some (.abs (fctRep F))) (hsub : ∀ r ∈ R, Rw.fct r ∈ F) (hl : ∀ i, i < R.length → (ix R i).l.length = n) (hbr : ∀ r ∈ hp, Res.bnd hp.length r) :
    CallOK Tryd.prog w0 No 21 [.x (.a (.o k)), .x (.a (.v (.int .i64 n)))] hp (.t [.a (.o hp.length), .a (.v .nilIface)]) (hp ++ [.own 50 (.u32 (sumR n (R.map (·.l)) R.length))]) := callOK_own2 hbr trivial fun γ w hS => by
  obtain ⟨A, c, h1, h2, h3, h4⟩ := hS.rdOwn hr
  have e1 : (Cont.c (R.map fun r => At.v r.val)).vals γ = R.map Rw.val := by
    simp only [Cont.vals, List.map_map]
    rfl
  have e2 : (Cont.c (R.map fun r => At.v r.val)).len = R.length := by simp [Cont.len]
  rw [e1] at h4
  rw [e2] at h1 h2
  show Calls _ _ #[nmS γ k, .int .i64 n] w _
  rw [h1]
  refine vecSum_any R n hn hRl A c w h4 fun i hi => ⟨hl i hi, ?_⟩
  obtain ⟨A', c', g1, g2, g3, g4⟩ := fct_rd hS hF (hsub _ (ix_mem hi))
  cases g1
  exact g4
theorem pcs_snoc (l : List Pr) (p : Pr) : pcs l ++ [.v (.int .i64 p.1), .v (vU64 p.2)] = pcs (l ++ [p]) := by
  rw [pcs_app, pcs_cons, pcs_nil]
theorem sub_pcs (j : Nat) (v : Value) (l : List Pr) : (pcs l).map (At.sub j v) = pcs l := by
  induction l with
  | nil => rw [pcs_nil]; rfl
  | cons p l ih => rw [pcs_cons, List.map_cons, List.map_cons, ih]; rfl
theorem putI_sub (j : Nat) (v : Value) (m : List (Int × Sc)) (i : Int) (x : Sc) : (putI m i x).map (fun p => (p.1, p.2.sub j v)) = putI (m.map fun p => (p.1, p.2.sub j v)) i (x.sub j v) := by
  induction m with
  | nil => rfl
  | cons q m ih =>
    simp only [putI, List.map_cons]
    split
    · rfl
    · rw [List.map_cons, ih]
theorem numL_sub (j : Nat) (v : Value) (l : List Pr) : mpSub j v (numL l) = numL l := by
  unfold mpSub numL
  have : ∀ i, (numTo l i).map (fun p => (p.1, p.2.sub j v)) = numTo l i := by
    intro i
    induction i with
    | zero => rfl
    | succ i ih => rw [numTo_succ, putI_sub, ih]; rfl
  exact this _
theorem snoc_val (R : List Rw) (y : Rw) : (R.map fun r => At.v r.val) ++ [.v y.val] = (R ++ [y]).map fun r => At.v r.val := by simp
theorem ix_map' {α β : Type} [Inhabited α] [Inhabited β] (f : α → β) {l : List α} {i : Nat} (h : i < l.length) : ix (l.map f) i = f (ix l i) := by simp [ix, List.getD_eq_getElem?_getD, h]
theorem bO_length (key seed : Nat → UInt64) (c : Nat → Bool) (n : Nat) : (bO key seed c n).length = 4 := opnVal_length _ _ _ _ _
attribute [local irreducible] prOut prOk may powU opOut opErr brOut brOk brErr opnOut opnNum findL numL bR bO bL bC bS bK sumR hx hk hs hc bP
attribute [local irreducible] Callable CallOK CallG CallM DrawG LoopG symR symM
set_option maxRecDepth 100000 in
set_option maxHeartbeats 8000000 in
theorem blindSums_any (H : List Had) (A : Option Addr) (c : Nat) (w : World) (hR : RdV w w.heap.size A (H.flatMap Had.vals)) (hka : LaidK 2 w) (hg : Handle w) :
    Calls Tryd.prog 4 #[.slice A H.length c] w fun e w' => e = .returned (.bool true) ∧ Below w.heap.size w w' := by
  have F := FHd.of hR
  refine calls_v (n := 167) Tryd.func4 rfl Tryd.ntmps4 [.x (.a (.v (.slice A H.length c)))] (by simp) (.x (.a (.v (.bool true)))) (fun _ => rfl) ?_
  by_cases h8 : (8 : Int) < H.length
  · simp only [h8, undef, push_cast, ↓Int.toNat_natCast, ↓Int.cast_ofNat_Int, Int.cast_ofNat_Int, ↓reduceIte, reduceCtorEq, Nat.reduceEqDiff, Nat.reduceLT, Nat.reduceLeDiff, Nat.reduceAdd, Nat.reduceSub, Nat.reduceMul, Int.reduceNeg, Int.reduceLE, Int.reduceLT, Int.reduceToNat, Int.reduceAdd, Int.reduceSub, Int.reduceMul, Int.reduceEq]
    refine callG_v rfl cb9 rfl (sure10OK hka hg) (dOk_lt rfl) ?_
    simp only [h8, undef, push_cast, ↓Int.toNat_natCast, ↓Int.cast_ofNat_Int, Int.cast_ofNat_Int, ↓reduceIte, reduceCtorEq, Nat.reduceEqDiff, Nat.reduceLT, Nat.reduceLeDiff, Nat.reduceAdd, Nat.reduceSub, Nat.reduceMul, Int.reduceNeg, Int.reduceLE, Int.reduceLT, Int.reduceToNat, Int.reduceAdd, Int.reduceSub, Int.reduceMul, Int.reduceEq]
  generalize hN : H.length = n at *
  have hn : n ≤ 8 := by omega
  simp only [h8, undef, push_cast, ↓Int.toNat_natCast, ↓Int.cast_ofNat_Int, Int.cast_ofNat_Int, ↓reduceIte, reduceCtorEq, Nat.reduceEqDiff, Nat.reduceLT, Nat.reduceLeDiff, Nat.reduceAdd, Nat.reduceSub, Nat.reduceMul, Int.reduceNeg, Int.reduceLE, Int.reduceLT, Int.reduceToNat, Int.reduceAdd, Int.reduceSub, Int.reduceMul, Int.reduceEq]
  refine loop_ghostN 3 55 2 (.c []) (by omega) rfl rfl (by simp only [push_cast, ↓Int.toNat_natCast, ↓Int.cast_ofNat_Int, Int.cast_ofNat_Int, ↓reduceIte, reduceCtorEq, Nat.reduceEqDiff, Nat.reduceLT, Nat.reduceLeDiff, Nat.reduceAdd, Nat.reduceSub, Nat.reduceMul, Int.reduceNeg, Int.reduceLE, Int.reduceLT, Int.reduceToNat, Int.reduceAdd, Int.reduceSub, Int.reduceMul, Int.reduceEq]) ?_
  refine loop_ghost 4 3 (.i64 []) rfl rfl trivial (by simp only [push_cast, ↓Int.toNat_natCast, ↓Int.cast_ofNat_Int, Int.cast_ofNat_Int, ↓reduceIte, reduceCtorEq, Nat.reduceEqDiff, Nat.reduceLT, Nat.reduceLeDiff, Nat.reduceAdd, Nat.reduceSub, Nat.reduceMul, Int.reduceNeg, Int.reduceLE, Int.reduceLT, Int.reduceToNat, Int.reduceAdd, Int.reduceSub, Int.reduceMul, Int.reduceEq]) ?_
  refine loop_rule (ι := Nat) (fun i => ⟨[(0, .x (.a (.v (.slice A n c)))), (3, .x (.a (.o 0))), (4, .x (.a (.o 1))), (5, .x (.a (.o 2))), (6, .x (.a (.o 3))), (7, .x (.a (.v (.int .i64 i))))],
    [.onn 55 2 (.c (pcs (bL (hk H) i))), .own 3 (.i64 (bC (hc H) i)), .mp .i64 (numL (bS (hs H) (hc H) i)), .mp .i64 (numL (bK (hk H) (hc H) i))]⟩) (fun i => i ≤ n) (fun i => n - i) 0 [2, 3, 0, 1] (by omega) ?_ ?_
  · have e1 : pcs (bL (hk H) 0) = [] := by unfold bL; exact pcs_nil
    have e2 : bC (hc H) 0 = [] := by unfold bC; rfl
    have e3 : numL (bS (hs H) (hc H) 0) = [] := by unfold bS; exact numL_nil
    have e4 : numL (bK (hk H) (hc H) 0) = [] := by unfold bK; exact numL_nil
    simp only [e1, e2, e3, e4, push_cast, ↓Int.toNat_natCast, ↓Int.cast_ofNat_Int, Int.cast_ofNat_Int, ↓reduceIte, reduceCtorEq, Nat.reduceEqDiff, Nat.reduceLT, Nat.reduceLeDiff, Nat.reduceAdd, Nat.reduceSub, Nat.reduceMul, Int.reduceNeg, Int.reduceLE, Int.reduceLT, Int.reduceToNat, Int.reduceAdd, Int.reduceSub, Int.reduceMul, Int.reduceEq]
  · intro i hi
    by_cases hlt : (i : Int) < n
    · have i0 : (0 : Int) ≤ i := by omega
      have ck := F.ck i (by omega)
      have cs := F.cs i (by omega)
      have cc := F.cc i (by omega)
      have o0 := F.ok i 0 (by omega) (by omega)
      have o1 := F.ok i 1 (by omega) (by omega)
      have o6 := F.ok i 6 (by omega) (by omega)
      rw [Nat.add_zero] at o0
      have hA := F.some_ (by omega)
      have hbl := bL_len (hk H) i
      have hcl := bC_len (hc H) i
      have hsn := (pcs_snoc (bL (hk H) i) (bP (hk H) i)).trans (congrArg pcs (bL_succ (hk H) i).symm)
      have hz1 := bP_fst (hk H) i
      have hz2 := bP_snd H i
      rw [hz1, hz2] at hsn
      simp (config := { maxSteps := 600000 }) only [hlt, i0, ck, cs, o0, o1, hA, pAdd_zero, pAdd_add, pAdd_isSome, undef, push_cast, ↓Int.toNat_natCast, ↓Int.cast_ofNat_Int, Int.cast_ofNat_Int, ↓reduceIte, reduceCtorEq, Nat.reduceEqDiff, Nat.reduceLT, Nat.reduceLeDiff, Nat.reduceAdd, Nat.reduceSub, Nat.reduceMul, Int.reduceNeg, Int.reduceLE, Int.reduceLT, Int.reduceToNat, Int.reduceAdd, Int.reduceSub, Int.reduceMul, Int.reduceEq]
      (repeat (refine And.intro (by first | omega | decide) ?_))
      refine callG_v rfl cb20 rfl (publicK _) (dOk_lt rfl) ?_
      have hce := hc_eq H i
      cases hcm : (ix H i).came
      · rw [hcm] at cc hce
        have e1 := bC_no (hc H) (n := i) hce
        have e2 := bS_no (hs H) (hc H) (n := i) hce
        have e3 := numL_putK (hk H) (hc H) (n := i) hce
        have e4 := hk_eq H i
        rw [e4] at e3
        simp (config := { maxSteps := 600000 }) only [hlt, i0, ck, cs, cc, o0, o1, o6, hA, hbl, hsn, e3, numL_bnd, numL_ren, pcs_forall, pAdd_zero, pAdd_add, pAdd_isSome, undef, push_cast, ↓Int.toNat_natCast, ↓Int.cast_ofNat_Int, Int.cast_ofNat_Int, ↓reduceIte, reduceCtorEq, Nat.reduceEqDiff, Nat.reduceLT, Nat.reduceLeDiff, Nat.reduceAdd, Nat.reduceSub, Nat.reduceMul, Int.reduceNeg, Int.reduceLE, Int.reduceLT, Int.reduceToNat, Int.reduceAdd, Int.reduceSub, Int.reduceMul, Int.reduceEq]
        (repeat (refine And.intro (by first | omega | decide) ?_))
        refine loopK_normal (i + 1) [5, 1, 2, 3] (by omega) (by omega) ?_
        simp (config := { maxSteps := 600000 }) only [e1, e2, numL_bnd, numL_ren, pcs_forall, pcs_ren, push_cast, ↓Int.toNat_natCast, ↓Int.cast_ofNat_Int, Int.cast_ofNat_Int, ↓reduceIte, reduceCtorEq, Nat.reduceEqDiff, Nat.reduceLT, Nat.reduceLeDiff, Nat.reduceAdd, Nat.reduceSub, Nat.reduceMul, Int.reduceNeg, Int.reduceLE, Int.reduceLT, Int.reduceToNat, Int.reduceAdd, Int.reduceSub, Int.reduceMul, Int.reduceEq]
      · rw [hcm] at cc hce
        have e1 := (bC_yes (hc H) (n := i) hce).symm
        have e2 := bK_yes (hk H) (hc H) (n := i) hce
        have e3 := numL_putS (hs H) (hc H) (n := i) hce
        have e4 := hs_eq H i
        rw [e4] at e3
        simp (config := { maxSteps := 600000 }) only [hlt, i0, ck, cs, cc, o0, o1, o6, hA, hbl, hsn, e1, e3, numL_bnd, numL_ren, pcs_forall, pAdd_zero, pAdd_add, pAdd_isSome, undef, push_cast, ↓Int.toNat_natCast, ↓Int.cast_ofNat_Int, Int.cast_ofNat_Int, ↓reduceIte, reduceCtorEq, Nat.reduceEqDiff, Nat.reduceLT, Nat.reduceLeDiff, Nat.reduceAdd, Nat.reduceSub, Nat.reduceMul, Int.reduceNeg, Int.reduceLE, Int.reduceLT, Int.reduceToNat, Int.reduceAdd, Int.reduceSub, Int.reduceMul, Int.reduceEq]
        (repeat (refine And.intro (by first | omega | decide) ?_))
        refine loopK_normal (i + 1) [5, 7, 2, 3] (by omega) (by omega) ?_
        simp (config := { maxSteps := 600000 }) only [e2, numL_bnd, numL_ren, pcs_forall, pcs_ren, push_cast, ↓Int.toNat_natCast, ↓Int.cast_ofNat_Int, Int.cast_ofNat_Int, ↓reduceIte, reduceCtorEq, Nat.reduceEqDiff, Nat.reduceLT, Nat.reduceLeDiff, Nat.reduceAdd, Nat.reduceSub, Nat.reduceMul, Int.reduceNeg, Int.reduceLE, Int.reduceLT, Int.reduceToNat, Int.reduceAdd, Int.reduceSub, Int.reduceMul, Int.reduceEq]
    · have e : i = n := by omega
      subst e
      clear hi
      simp (config := { maxSteps := 600000 }) only [hlt, undef, push_cast, ↓Int.toNat_natCast, ↓Int.cast_ofNat_Int, Int.cast_ofNat_Int, ↓reduceIte, reduceCtorEq, Nat.reduceEqDiff, Nat.reduceLT, Nat.reduceLeDiff, Nat.reduceAdd, Nat.reduceSub, Nat.reduceMul, Int.reduceNeg, Int.reduceLE, Int.reduceLT, Int.reduceToNat, Int.reduceAdd, Int.reduceSub, Int.reduceMul, Int.reduceEq]
      refine loop_ghost 8 22 (.c []) rfl rfl (by simp [Cont.bnd]) (by simp only [numL_bnd, pcs_forall, push_cast, ↓Int.toNat_natCast, ↓Int.cast_ofNat_Int, Int.cast_ofNat_Int, ↓reduceIte, reduceCtorEq, Nat.reduceEqDiff, Nat.reduceLT, Nat.reduceLeDiff, Nat.reduceAdd, Nat.reduceSub, Nat.reduceMul, Int.reduceNeg, Int.reduceLE, Int.reduceLT, Int.reduceToNat, Int.reduceAdd, Int.reduceSub, Int.reduceMul, Int.reduceEq]) ?_
      refine loop_ghost 9 22 (.c []) rfl rfl (by simp [Cont.bnd]) (by simp only [numL_bnd, pcs_forall, push_cast, ↓Int.toNat_natCast, ↓Int.cast_ofNat_Int, Int.cast_ofNat_Int, ↓reduceIte, reduceCtorEq, Nat.reduceEqDiff, Nat.reduceLT, Nat.reduceLeDiff, Nat.reduceAdd, Nat.reduceSub, Nat.reduceMul, Int.reduceNeg, Int.reduceLE, Int.reduceLT, Int.reduceToNat, Int.reduceAdd, Int.reduceSub, Int.reduceMul, Int.reduceEq]) ?_
      refine loop_fct (by simp only [numL_bnd, pcs_forall, push_cast, ↓Int.toNat_natCast, ↓Int.cast_ofNat_Int, Int.cast_ofNat_Int, ↓reduceIte, reduceCtorEq, Nat.reduceEqDiff, Nat.reduceLT, Nat.reduceLeDiff, Nat.reduceAdd, Nat.reduceSub, Nat.reduceMul, Int.reduceNeg, Int.reduceLE, Int.reduceLT, Int.reduceToNat, Int.reduceAdd, Int.reduceSub, Int.reduceMul, Int.reduceEq]) ?_
      generalize hn2 : i = n at *
      refine loop_rule (ι := Nat × List Rw × List Rw × List Fct) (fun x => ⟨[(0, .x (.a (.v (.slice A n c)))), (3, .x (.a (.o 0))), (4, .x (.a (.o 1))), (5, .x (.a (.o 2))), (6, .x (.a (.o 3))), (8, .x (.a (.o 4))), (9, .x (.a (.o 5))), (10, .x (.a (.v (.int .i64 x.1))))],
        [.onn 55 2 (.c (pcs (bL (hk H) n))), .own 3 (.i64 (bC (hc H) n)), .mp .i64 (numL (bS (hs H) (hc H) n)), .mp .i64 (numL (bK (hk H) (hc H) n)), .own 22 (.c (x.2.1.map fun r => .v r.val)), .own 22 (.c (x.2.2.1.map fun r => .v r.val)), .abs (fctRep x.2.2.2)]⟩)
        (fun x => x.1 ≤ n ∧ x.2.1.map (·.l) = (fil (hc H) x.1).map (bR (hk H) (hs H) (hx H) n) ∧ x.2.2.1.map (·.l) = (fil (hc H) x.1).map (hx H) ∧ (∀ r ∈ x.2.1, Rw.fct r ∈ x.2.2.2) ∧ ∀ r ∈ x.2.2.1, Rw.fct r ∈ x.2.2.2) (fun x => n - x.1) (0, [], [], []) [0, 1, 2, 3, 4, 5, 6] ⟨by omega, rfl, rfl, (fun r (h : r ∈ ([] : List Rw)) => by cases h), (fun r (h : r ∈ ([] : List Rw)) => by cases h)⟩ ?_ ?_
      · simp (config := { maxSteps := 600000 }) only [numL_bnd, numL_ren, pcs_forall, pcs_ren, push_cast, ↓Int.toNat_natCast, ↓Int.cast_ofNat_Int, Int.cast_ofNat_Int, ↓reduceIte, reduceCtorEq, Nat.reduceEqDiff, Nat.reduceLT, Nat.reduceLeDiff, Nat.reduceAdd, Nat.reduceSub, Nat.reduceMul, Int.reduceNeg, Int.reduceLE, Int.reduceLT, Int.reduceToNat, Int.reduceAdd, Int.reduceSub, Int.reduceMul, Int.reduceEq]
      · rintro ⟨i, R, D, Fs⟩ ⟨hi, hRl, hDl, hRF, hDF⟩
        have hi : i ≤ n := hi
        have hRl : R.map (·.l) = (fil (hc H) i).map (bR (hk H) (hs H) (hx H) n) := hRl
        have hDl : D.map (·.l) = (fil (hc H) i).map (hx H) := hDl
        have hRF : ∀ r ∈ R, Rw.fct r ∈ Fs := hRF
        have hDF : ∀ r ∈ D, Rw.fct r ∈ Fs := hDF
        have hf := fil_len (hc H) i
        have lR : R.length = (fil (hc H) i).length := by have := congrArg List.length hRl; simpa using this
        have lD : D.length = (fil (hc H) i).length := by have := congrArg List.length hDl; simpa using this
        by_cases hlt : (i : Int) < n
        · have i0 : (0 : Int) ≤ i := by omega
          have ck := F.ck i (by omega)
          have cs := F.cs i (by omega)
          have cc := F.cc i (by omega)
          have o0 := F.ok i 0 (by omega) (by omega)
          have o1 := F.ok i 1 (by omega) (by omega)
          have o6 := F.ok i 6 (by omega) (by omega)
          have rx := F.rx' (i := i) (by omega)
          rw [Nat.add_zero] at o0
          have hA := F.some_ (by omega)
          have dv1 : (n : Int) * 2 / 2 = n := by omega
          have hce := hc_eq H i
          cases hcm : (ix H i).came
          · rw [hcm] at cc hce
            have e1 := fil_n (c := hc H) (i := i) hce
            simp (config := { maxSteps := 600000 }) only [hlt, i0, cc, o6, hA, pAdd_zero, pAdd_add, pAdd_isSome, undef, push_cast, ↓Int.toNat_natCast, ↓Int.cast_ofNat_Int, Int.cast_ofNat_Int, ↓reduceIte, reduceCtorEq, Nat.reduceEqDiff, Nat.reduceLT, Nat.reduceLeDiff, Nat.reduceAdd, Nat.reduceSub, Nat.reduceMul, Int.reduceNeg, Int.reduceLE, Int.reduceLT, Int.reduceToNat, Int.reduceAdd, Int.reduceSub, Int.reduceMul, Int.reduceEq]
            (repeat (refine And.intro (by first | omega | decide) ?_))
            refine loopK_normal (i + 1, R, D, Fs) [0, 1, 2, 3, 4, 5, 6] ⟨by omega, by show _ = (fil (hc H) (i + 1)).map _; rw [e1]; exact hRl, by show _ = (fil (hc H) (i + 1)).map _; rw [e1]; exact hDl, hRF, hDF⟩ (by simp only []; omega) ?_
            simp (config := { maxSteps := 600000 }) only [numL_bnd, numL_ren, pcs_forall, pcs_ren, push_cast, ↓Int.toNat_natCast, ↓Int.cast_ofNat_Int, Int.cast_ofNat_Int, ↓reduceIte, reduceCtorEq, Nat.reduceEqDiff, Nat.reduceLT, Nat.reduceLeDiff, Nat.reduceAdd, Nat.reduceSub, Nat.reduceMul, Int.reduceNeg, Int.reduceLE, Int.reduceLT, Int.reduceToNat, Int.reduceAdd, Int.reduceSub, Int.reduceMul, Int.reduceEq]
          · rw [hcm] at cc hce
            have e1 := fil_y (c := hc H) (i := i) hce
            obtain ⟨ro, re⟩ := row_out (key := hk H) (seed := hs H) (x := hx H) (n := n) (i := i) (by omega) (by omega) (hx_len H i)
            have e4 := hk_eq H i
            have e5 := hs_eq H i
            rw [hx_len] at re
            rw [e4, e5] at ro
            have rl := bR_length (hk H) (hs H) (hx H) n i
            have hx4 := hx_len H i
            have rdx := rd32_of (FV.no rx)
            rw [hx4] at rdx
            obtain ⟨rx4, rx5⟩ := rdx
            simp (config := { maxSteps := 600000 }) only [hlt, i0, cc, o6, hA, pAdd_zero, pAdd_add, pAdd_isSome, undef, push_cast, ↓Int.toNat_natCast, ↓Int.cast_ofNat_Int, Int.cast_ofNat_Int, ↓reduceIte, reduceCtorEq, Nat.reduceEqDiff, Nat.reduceLT, Nat.reduceLeDiff, Nat.reduceAdd, Nat.reduceSub, Nat.reduceMul, Int.reduceNeg, Int.reduceLE, Int.reduceLT, Int.reduceToNat, Int.reduceAdd, Int.reduceSub, Int.reduceMul, Int.reduceEq]
            (repeat (refine And.intro (by first | omega | decide) ?_))
            refine draw_rule [(0, true), (1, true), (2, true), (3, true), (4, true), (5, true), (6, true), (7, true), (8, true), (9, true), (10, true), (11, true), (12, true), (13, true), (14, true), (15, true), (16, true), (17, true), (18, false), (19, true), (20, true), (21, true), (22, true), (23, true)] (by kernel_rfl) (by kernel_rfl) rfl (by kernel_rfl) ?_
            simp (config := { maxSteps := 600000 }) only [hlt, i0, ck, cs, o0, o1, hA, pAdd_zero, pAdd_add, pAdd_isSome, undef, push_cast, ↓Int.toNat_natCast, ↓Int.cast_ofNat_Int, Int.cast_ofNat_Int, ↓reduceIte, reduceCtorEq, Nat.reduceEqDiff, Nat.reduceLT, Nat.reduceLeDiff, Nat.reduceAdd, Nat.reduceSub, Nat.reduceMul, Int.reduceNeg, Int.reduceLE, Int.reduceLT, Int.reduceToNat, Int.reduceAdd, Int.reduceSub, Int.reduceMul, Int.reduceEq]
            (repeat (refine And.intro (by first | omega | decide) ?_))
            refine callM_x rfl cb10 rfl (blindRowOK (x := hx H i) (l := bL (hk H) n) (3 * (i : Int)) (ix H i).seed (ix H i).key (shows_raw rx _ _ (by rw [List.length_map, hx4]) (by decide)) (by have := bL_len (hk H) n; exact showsR_pcs rfl) hka (by simp only [numL_bnd, pcs_forall, mapV_forall, push_cast, ↓Int.toNat_natCast, ↓Int.cast_ofNat_Int, Int.cast_ofNat_Int, ↓reduceIte, reduceCtorEq, Nat.reduceEqDiff, Nat.reduceLT, Nat.reduceLeDiff, Nat.reduceAdd, Nat.reduceSub, Nat.reduceMul, Int.reduceNeg, Int.reduceLE, Int.reduceLT, Int.reduceToNat, Int.reduceAdd, Int.reduceSub, Int.reduceMul, Int.reduceEq])) (dOk_lt rfl) (by simp only [numL_bnd, pcs_forall, mapV_forall, push_cast, ↓Int.toNat_natCast, ↓Int.cast_ofNat_Int, Int.cast_ofNat_Int, ↓reduceIte, reduceCtorEq, Nat.reduceEqDiff, Nat.reduceLT, Nat.reduceLeDiff, Nat.reduceAdd, Nat.reduceSub, Nat.reduceMul, Int.reduceNeg, Int.reduceLE, Int.reduceLT, Int.reduceToNat, Int.reduceAdd, Int.reduceSub, Int.reduceMul, Int.reduceEq]) ?_
            simp (config := { maxSteps := 600000 }) only [ro, re, hx4, undef, push_cast, ↓Int.toNat_natCast, ↓Int.cast_ofNat_Int, Int.cast_ofNat_Int, ↓reduceIte, reduceCtorEq, Nat.reduceEqDiff, Nat.reduceLT, Nat.reduceLeDiff, Nat.reduceAdd, Nat.reduceSub, Nat.reduceMul, Int.reduceNeg, Int.reduceLE, Int.reduceLT, Int.reduceToNat, Int.reduceAdd, Int.reduceSub, Int.reduceMul, Int.reduceEq]
            (repeat (refine And.intro (by first | omega | decide) ?_))
            refine drawQ_rule (.rd 0 (.rd 1 (.rd 4 (.rd 6 (.rd 7 (.rd 8 (.rd 9 (.rd 10 (.fk 2 (.fk 3 (.wr 5 (.wr 11 (.wr 12 (.wr 13 (.rd 14 (.rd 15 .nil)))))) 5 (.wr 3 (.wr 11 (.wr 12 (.wr 13 (.rd 14 (.rd 15 .nil))))))) 5 (.wr 2 (.wr 3 (.wr 11 (.wr 12 (.wr 13 (.rd 14 (.rd 15 .nil)))))))))))))))) ⟨[(0, .x (.a (.v (.slice A n c)))), (3, .x (.a (.o 0))), (4, .x (.a (.o 1))), (5, .x (.a (.o 2))), (6, .x (.a (.o 3))), (8, .x (.a (.o 4))), (9, .x (.a (.o 5))), (10, .x (.a (.v (.int .i64 i))))],
              [.onn 55 2 (.c (pcs (bL (hk H) n))), .own 3 (.i64 (bC (hc H) n)), .mp .i64 (numL (bS (hs H) (hc H) n)), .mp .i64 (numL (bK (hk H) (hc H) n)), .own 22 (.c ((R.map fun r => .v r.val) ++ [.o 6])), .own 22 (.c ((D.map fun r => .v r.val) ++ [.o 7])), .own 50 (.u32 (bR (hk H) (hs H) (hx H) n i)), .own 50 (.u32 (hx H i)), .abs (fctRep Fs)]⟩ (by kernel_rfl) (by kernel_rfl) (by kernel_rfl) ?_ ?_
            · simp (config := { maxSteps := 600000 }) only [hlt, i0, o0, o1, hA, rx4, rx5, lR, lD, hx4, pAdd_zero, pAdd_add, pAdd_isSome, numL_bnd, pcs_forall, mapV_forall, undef, push_cast, ↓Int.toNat_natCast, ↓Int.cast_ofNat_Int, Int.cast_ofNat_Int, ↓reduceIte, reduceCtorEq, Nat.reduceEqDiff, Nat.reduceLT, Nat.reduceLeDiff, Nat.reduceAdd, Nat.reduceSub, Nat.reduceMul, Int.reduceNeg, Int.reduceLE, Int.reduceLT, Int.reduceToNat, Int.reduceAdd, Int.reduceSub, Int.reduceMul, Int.reduceEq]
              refine ⟨⟨?_, ?_⟩, ?_⟩
              · (repeat (refine And.intro (by first | omega | decide) ?_))
                refine leads_le [0, 1, 2, 3, 9, 13, 7, 11, 6] ?_
                simp (config := { maxSteps := 600000 }) only [numL_bnd, numL_ren, pcs_forall, pcs_ren, mapV_forall, mapV_ren, push_cast, ↓Int.toNat_natCast, ↓Int.cast_ofNat_Int, Int.cast_ofNat_Int, ↓reduceIte, reduceCtorEq, Nat.reduceEqDiff, Nat.reduceLT, Nat.reduceLeDiff, Nat.reduceAdd, Nat.reduceSub, Nat.reduceMul, Int.reduceNeg, Int.reduceLE, Int.reduceLT, Int.reduceToNat, Int.reduceAdd, Int.reduceSub, Int.reduceMul, Int.reduceEq]
              · (repeat (refine And.intro (by first | omega | decide) ?_))
                refine leads_le [0, 1, 2, 3, 10, 13, 7, 11, 6] ?_
                simp (config := { maxSteps := 600000 }) only [numL_bnd, numL_ren, pcs_forall, pcs_ren, mapV_forall, mapV_ren, push_cast, ↓Int.toNat_natCast, ↓Int.cast_ofNat_Int, Int.cast_ofNat_Int, ↓reduceIte, reduceCtorEq, Nat.reduceEqDiff, Nat.reduceLT, Nat.reduceLeDiff, Nat.reduceAdd, Nat.reduceSub, Nat.reduceMul, Int.reduceNeg, Int.reduceLE, Int.reduceLT, Int.reduceToNat, Int.reduceAdd, Int.reduceSub, Int.reduceMul, Int.reduceEq]
              · (repeat (refine And.intro (by first | omega | decide) ?_))
                refine leads_le [0, 1, 2, 3, 10, 13, 7, 11, 6] ?_
                simp (config := { maxSteps := 600000 }) only [numL_bnd, numL_ren, pcs_forall, pcs_ren, mapV_forall, mapV_ren, push_cast, ↓Int.toNat_natCast, ↓Int.cast_ofNat_Int, Int.cast_ofNat_Int, ↓reduceIte, reduceCtorEq, Nat.reduceEqDiff, Nat.reduceLT, Nat.reduceLeDiff, Nat.reduceAdd, Nat.reduceSub, Nat.reduceMul, Int.reduceNeg, Int.reduceLE, Int.reduceLT, Int.reduceToNat, Int.reduceAdd, Int.reduceSub, Int.reduceMul, Int.reduceEq]
            · simp (config := { maxSteps := 600000 }) only [undef, push_cast, ↓Int.toNat_natCast, ↓Int.cast_ofNat_Int, Int.cast_ofNat_Int, ↓reduceIte, reduceCtorEq, Nat.reduceEqDiff, Nat.reduceLT, Nat.reduceLeDiff, Nat.reduceAdd, Nat.reduceSub, Nat.reduceMul, Int.reduceNeg, Int.reduceLE, Int.reduceLT, Int.reduceToNat, Int.reduceAdd, Int.reduceSub, Int.reduceMul, Int.reduceEq]
              (repeat (refine And.intro (by first | omega | decide) ?_))
              refine loopK_absorb 6 8 rfl (vs := (bR (hk H) (hs H) (hx H) n i).map vU32) (fun _ => rfl) rfl (by decide) ?_
              intro Ar cr hr1 hr2
              obtain ⟨y, hyl, hfc, hvl⟩ : ∃ y : Rw, y.l = bR (hk H) (hs H) (hx H) n i ∧ (⟨.slice Ar 4 cr, 4, (bR (hk H) (hs H) (hx H) n i).map vU32⟩ : Fct) = y.fct ∧ Value.slice Ar 4 cr = y.val := ⟨⟨Ar, cr, bR (hk H) (hs H) (hx H) n i⟩, rfl, by unfold Rw.fct; rw [rl], by unfold Rw.val; rw [rl]⟩
              obtain ⟨R', sn, hR3, hR4⟩ : ∃ R' : List Rw, (R.map fun r => At.v r.val) ++ [.v y.val] = R'.map (fun r => .v r.val) ∧ R'.map (·.l) = R.map (·.l) ++ [y.l] ∧ ∀ r ∈ R', r ∈ R ∨ r = y := ⟨R ++ [y], by simp, by simp, fun r h => by simpa using h⟩
              simp (config := { maxSteps := 600000 }) only [rl, hfc, hvl, sn, mapV_sub, sub_pcs, numL_sub, push_cast, ↓Int.toNat_natCast, ↓Int.cast_ofNat_Int, Int.cast_ofNat_Int, ↓reduceIte, reduceCtorEq, Nat.reduceEqDiff, Nat.reduceLT, Nat.reduceLeDiff, Nat.reduceAdd, Nat.reduceSub, Nat.reduceMul, Int.reduceNeg, Int.reduceLE, Int.reduceLT, Int.reduceToNat, Int.reduceAdd, Int.reduceSub, Int.reduceMul, Int.reduceEq]
              refine loopK_absorb 7 8 rfl (vs := (hx H i).map vU32) (fun _ => rfl) rfl (by decide) ?_
              intro Ax cx hx1 hx2
              obtain ⟨z, hzl, hzf, hzv⟩ : ∃ z : Rw, z.l = hx H i ∧ (⟨.slice Ax 4 cx, 4, (hx H i).map vU32⟩ : Fct) = z.fct ∧ Value.slice Ax 4 cx = z.val := ⟨⟨Ax, cx, hx H i⟩, rfl, by unfold Rw.fct; rw [hx4], by unfold Rw.val; rw [hx4]⟩
              obtain ⟨D', dn, hD3, hD4⟩ : ∃ D' : List Rw, (D.map fun r => At.v r.val) ++ [.v z.val] = D'.map (fun r => .v r.val) ∧ D'.map (·.l) = D.map (·.l) ++ [z.l] ∧ ∀ r ∈ D', r ∈ D ∨ r = z := ⟨D ++ [z], by simp, by simp, fun r h => by simpa using h⟩
              simp (config := { maxSteps := 600000 }) only [hx4, hzf, hzv, dn, mapV_sub, sub_pcs, numL_sub, push_cast, ↓Int.toNat_natCast, ↓Int.cast_ofNat_Int, Int.cast_ofNat_Int, ↓reduceIte, reduceCtorEq, Nat.reduceEqDiff, Nat.reduceLT, Nat.reduceLeDiff, Nat.reduceAdd, Nat.reduceSub, Nat.reduceMul, Int.reduceNeg, Int.reduceLE, Int.reduceLT, Int.reduceToNat, Int.reduceAdd, Int.reduceSub, Int.reduceMul, Int.reduceEq]
              refine loopK_normal (i + 1, R', D', Fs ++ [y.fct] ++ [z.fct]) [0, 1, 2, 3, 4, 5, 8] ⟨by omega, ?_, ?_, ?_, ?_⟩ (by simp only []; omega) ?_
              · show R'.map (·.l) = (fil (hc H) (i + 1)).map _
                rw [hR3, hRl, e1, hyl, List.map_append]; rfl
              · show D'.map (·.l) = (fil (hc H) (i + 1)).map _
                rw [hD3, hDl, e1, hzl, List.map_append]; rfl
              · intro r hr
                show Rw.fct r ∈ Fs ++ [y.fct] ++ [z.fct]
                rcases hR4 r hr with h | rfl
                · simp [hRF r h]
                · simp
              · intro r hr
                show Rw.fct r ∈ Fs ++ [y.fct] ++ [z.fct]
                rcases hD4 r hr with h | rfl
                · simp [hDF r h]
                · simp
              · have hyf : (⟨y.val, 4, (bR (hk H) (hs H) (hx H) n i).map vU32⟩ : Fct) = y.fct := by rw [← hvl]; exact hfc
                have hzf2 : (⟨z.val, 4, (hx H i).map vU32⟩ : Fct) = z.fct := by rw [← hzv]; exact hzf
                simp (config := { maxSteps := 600000 }) only [hyf, hzf2, numL_bnd, numL_ren, pcs_forall, pcs_ren, push_cast, ↓Int.toNat_natCast, ↓Int.cast_ofNat_Int, Int.cast_ofNat_Int, ↓reduceIte, reduceCtorEq, Nat.reduceEqDiff, Nat.reduceLT, Nat.reduceLeDiff, Nat.reduceAdd, Nat.reduceSub, Nat.reduceMul, Int.reduceNeg, Int.reduceLE, Int.reduceLT, Int.reduceToNat, Int.reduceAdd, Int.reduceSub, Int.reduceMul, Int.reduceEq]
        · have e : i = n := by omega
          subst e
          have rs1 := blind_law (hk H) (hs H) (hc H) (hx H) (n := i) (by omega)
          have b1 := b_out (hk H) (hs H) (hc H) (n := i) (by omega)
          have b2 := b_num (hk H) (hs H) (hc H) (n := i) (by omega)
          have lfR : R.length = ((fil (hc H) i).map (bR (hk H) (hs H) (hx H) i)).length := by rw [List.length_map]; exact lR
          have lfD : D.length = ((fil (hc H) i).map (hx H)).length := by rw [List.length_map]; exact lD
          have hR4 : ∀ j, j < R.length → (ix R j).l.length = 4 := fun j hj => by
            have h1 := congrArg (fun L => ix L j) hRl
            simp only [ix_map' _ hj] at h1
            rw [h1, ix_map' _ (by omega), bR_length]
          have hD4 : ∀ j, j < D.length → (ix D j).l.length = 4 := fun j hj => by
            have h1 := congrArg (fun L => ix L j) hDl
            simp only [ix_map' _ hj] at h1
            rw [h1, ix_map' _ (by omega), hx_len]
          have hsR : sumR 4 (R.map (·.l)) R.length = sumR 4 ((fil (hc H) i).map (bR (hk H) (hs H) (hx H) i)) ((fil (hc H) i).map (bR (hk H) (hs H) (hx H) i)).length := by rw [hRl, lfR]
          have hsD : sumR 4 (D.map (·.l)) D.length = sumR 4 ((fil (hc H) i).map (hx H)) ((fil (hc H) i).map (hx H)).length := by rw [hDl, lfD]
          generalize hT1 : sumR 4 ((fil (hc H) i).map (bR (hk H) (hs H) (hx H) i)) ((fil (hc H) i).map (bR (hk H) (hs H) (hx H) i)).length = T1 at *
          generalize hT2 : sumR 4 ((fil (hc H) i).map (hx H)) ((fil (hc H) i).map (hx H)).length = T2 at *
          have lT1 : T1.length = 4 := by rw [← hT1, sumR_length]
          have lT2 : T2.length = 4 := by rw [← hT2, sumR_length]
          have lO : (bO (hk H) (hs H) (hc H) i).length = 4 := bO_length _ _ _ _
          have rs2 : opTo (· - ·) T1 (bO (hk H) (hs H) (hc H) i) 4 = T2 := by rw [← hT1, ← hT2]; exact rs1
          have ok2 : opOk T1 (bO (hk H) (hs H) (hc H) i) = true := opOk_len lT1 lO (by omega)
          have ou2 : opOut (· - ·) T1 (bO (hk H) (hs H) (hc H) i) = T2 := by rw [opOut_yes ok2, lT1, rs2]
          have er2 := opErr_yes ok2
          have hbl := bL_len (hk H) i
          have hcl := bC_len (hc H) i
          clear hRl hDl rs1 hT1 hT2
          simp (config := { maxSteps := 600000 }) only [hlt, undef, push_cast, ↓Int.toNat_natCast, ↓Int.cast_ofNat_Int, Int.cast_ofNat_Int, ↓reduceIte, reduceCtorEq, Nat.reduceEqDiff, Nat.reduceLT, Nat.reduceLeDiff, Nat.reduceAdd, Nat.reduceSub, Nat.reduceMul, Int.reduceNeg, Int.reduceLE, Int.reduceLT, Int.reduceToNat, Int.reduceAdd, Int.reduceSub, Int.reduceMul, Int.reduceEq]
          (repeat (refine And.intro (by first | omega | decide) ?_))
          refine callG_x rfl cb21 rfl (vecSumOK2 (k := 4) (kf := 6) R Fs 4 (by omega) (by omega) rfl rfl hRF hR4 (by simp only [numL_bnd, pcs_forall, mapV_forall, push_cast, ↓Int.toNat_natCast, ↓Int.cast_ofNat_Int, Int.cast_ofNat_Int, ↓reduceIte, reduceCtorEq, Nat.reduceEqDiff, Nat.reduceLT, Nat.reduceLeDiff, Nat.reduceAdd, Nat.reduceSub, Nat.reduceMul, Int.reduceNeg, Int.reduceLE, Int.reduceLT, Int.reduceToNat, Int.reduceAdd, Int.reduceSub, Int.reduceMul, Int.reduceEq])) (dOk_lt rfl) (by simp only [numL_bnd, pcs_forall, mapV_forall, push_cast, ↓Int.toNat_natCast, ↓Int.cast_ofNat_Int, Int.cast_ofNat_Int, ↓reduceIte, reduceCtorEq, Nat.reduceEqDiff, Nat.reduceLT, Nat.reduceLeDiff, Nat.reduceAdd, Nat.reduceSub, Nat.reduceMul, Int.reduceNeg, Int.reduceLE, Int.reduceLT, Int.reduceToNat, Int.reduceAdd, Int.reduceSub, Int.reduceMul, Int.reduceEq]) ?_
          simp (config := { maxSteps := 600000 }) only [hsR, undef, push_cast, ↓Int.toNat_natCast, ↓Int.cast_ofNat_Int, Int.cast_ofNat_Int, ↓reduceIte, reduceCtorEq, Nat.reduceEqDiff, Nat.reduceLT, Nat.reduceLeDiff, Nat.reduceAdd, Nat.reduceSub, Nat.reduceMul, Int.reduceNeg, Int.reduceLE, Int.reduceLT, Int.reduceToNat, Int.reduceAdd, Int.reduceSub, Int.reduceMul, Int.reduceEq]
          (repeat (refine And.intro (by first | omega | decide) ?_))
          refine callG_x rfl cb15 rfl (blindOpenOK (came := bC (hc H) i) (l := bL (hk H) i) (sf := findL (bS (hs H) (hc H) i)) (kf := findL (bK (hk H) (hc H) i)) 4 (by omega) (by omega) (shows_own rfl fun _ => rfl) (showsR_pcs rfl) (showsM_mp rfl (lookI_numL _)) (showsM_mp rfl (lookI_numL _)) hka (by simp only [numL_bnd, pcs_forall, mapV_forall, push_cast, ↓Int.toNat_natCast, ↓Int.cast_ofNat_Int, Int.cast_ofNat_Int, ↓reduceIte, reduceCtorEq, Nat.reduceEqDiff, Nat.reduceLT, Nat.reduceLeDiff, Nat.reduceAdd, Nat.reduceSub, Nat.reduceMul, Int.reduceNeg, Int.reduceLE, Int.reduceLT, Int.reduceToNat, Int.reduceAdd, Int.reduceSub, Int.reduceMul, Int.reduceEq])) (dOk_lt rfl) (by simp only [numL_bnd, pcs_forall, mapV_forall, push_cast, ↓Int.toNat_natCast, ↓Int.cast_ofNat_Int, Int.cast_ofNat_Int, ↓reduceIte, reduceCtorEq, Nat.reduceEqDiff, Nat.reduceLT, Nat.reduceLeDiff, Nat.reduceAdd, Nat.reduceSub, Nat.reduceMul, Int.reduceNeg, Int.reduceLE, Int.reduceLT, Int.reduceToNat, Int.reduceAdd, Int.reduceSub, Int.reduceMul, Int.reduceEq]) ?_
          simp (config := { maxSteps := 600000 }) only [b1, b2, erV_zero, undef, push_cast, ↓Int.toNat_natCast, ↓Int.cast_ofNat_Int, Int.cast_ofNat_Int, ↓reduceIte, reduceCtorEq, Nat.reduceEqDiff, Nat.reduceLT, Nat.reduceLeDiff, Nat.reduceAdd, Nat.reduceSub, Nat.reduceMul, Int.reduceNeg, Int.reduceLE, Int.reduceLT, Int.reduceToNat, Int.reduceAdd, Int.reduceSub, Int.reduceMul, Int.reduceEq]
          (repeat (refine And.intro (by first | omega | decide) ?_))
          refine callG_x rfl cb22 rfl (vecSubOK (shows_own rfl fun _ => rfl) (shows_own rfl fun _ => rfl) (by simp only [numL_bnd, pcs_forall, mapV_forall, push_cast, ↓Int.toNat_natCast, ↓Int.cast_ofNat_Int, Int.cast_ofNat_Int, ↓reduceIte, reduceCtorEq, Nat.reduceEqDiff, Nat.reduceLT, Nat.reduceLeDiff, Nat.reduceAdd, Nat.reduceSub, Nat.reduceMul, Int.reduceNeg, Int.reduceLE, Int.reduceLT, Int.reduceToNat, Int.reduceAdd, Int.reduceSub, Int.reduceMul, Int.reduceEq])) (dOk_lt rfl) (by simp only [numL_bnd, pcs_forall, mapV_forall, push_cast, ↓Int.toNat_natCast, ↓Int.cast_ofNat_Int, Int.cast_ofNat_Int, ↓reduceIte, reduceCtorEq, Nat.reduceEqDiff, Nat.reduceLT, Nat.reduceLeDiff, Nat.reduceAdd, Nat.reduceSub, Nat.reduceMul, Int.reduceNeg, Int.reduceLE, Int.reduceLT, Int.reduceToNat, Int.reduceAdd, Int.reduceSub, Int.reduceMul, Int.reduceEq]) ?_
          simp (config := { maxSteps := 600000 }) only [ou2, er2, undef, push_cast, ↓Int.toNat_natCast, ↓Int.cast_ofNat_Int, Int.cast_ofNat_Int, ↓reduceIte, reduceCtorEq, Nat.reduceEqDiff, Nat.reduceLT, Nat.reduceLeDiff, Nat.reduceAdd, Nat.reduceSub, Nat.reduceMul, Int.reduceNeg, Int.reduceLE, Int.reduceLT, Int.reduceToNat, Int.reduceAdd, Int.reduceSub, Int.reduceMul, Int.reduceEq]
          (repeat (refine And.intro (by first | omega | decide) ?_))
          refine callG_x rfl cb21 rfl (vecSumOK2 (k := 5) (kf := 6) D Fs 4 (by omega) (by omega) rfl rfl hDF hD4 (by simp only [numL_bnd, pcs_forall, mapV_forall, push_cast, ↓Int.toNat_natCast, ↓Int.cast_ofNat_Int, Int.cast_ofNat_Int, ↓reduceIte, reduceCtorEq, Nat.reduceEqDiff, Nat.reduceLT, Nat.reduceLeDiff, Nat.reduceAdd, Nat.reduceSub, Nat.reduceMul, Int.reduceNeg, Int.reduceLE, Int.reduceLT, Int.reduceToNat, Int.reduceAdd, Int.reduceSub, Int.reduceMul, Int.reduceEq])) (dOk_lt rfl) (by simp only [numL_bnd, pcs_forall, mapV_forall, push_cast, ↓Int.toNat_natCast, ↓Int.cast_ofNat_Int, Int.cast_ofNat_Int, ↓reduceIte, reduceCtorEq, Nat.reduceEqDiff, Nat.reduceLT, Nat.reduceLeDiff, Nat.reduceAdd, Nat.reduceSub, Nat.reduceMul, Int.reduceNeg, Int.reduceLE, Int.reduceLT, Int.reduceToNat, Int.reduceAdd, Int.reduceSub, Int.reduceMul, Int.reduceEq]) ?_
          simp (config := { maxSteps := 600000 }) only [hsD, undef, push_cast, ↓Int.toNat_natCast, ↓Int.cast_ofNat_Int, Int.cast_ofNat_Int, ↓reduceIte, reduceCtorEq, Nat.reduceEqDiff, Nat.reduceLT, Nat.reduceLeDiff, Nat.reduceAdd, Nat.reduceSub, Nat.reduceMul, Int.reduceNeg, Int.reduceLE, Int.reduceLT, Int.reduceToNat, Int.reduceAdd, Int.reduceSub, Int.reduceMul, Int.reduceEq]
          (repeat (refine And.intro (by first | omega | decide) ?_))
          refine callG_v rfl cb23 rfl (same32OK (a := T2) (b := T2) (by omega) (shows_own rfl fun _ => rfl) (shows_own rfl fun _ => rfl)) (dOk_lt rfl) ?_
          simp (config := { maxSteps := 600000 }) only [undef, push_cast, ↓Int.toNat_natCast, ↓Int.cast_ofNat_Int, Int.cast_ofNat_Int, ↓reduceIte, reduceCtorEq, Nat.reduceEqDiff, Nat.reduceLT, Nat.reduceLeDiff, Nat.reduceAdd, Nat.reduceSub, Nat.reduceMul, Int.reduceNeg, Int.reduceLE, Int.reduceLT, Int.reduceToNat, Int.reduceAdd, Int.reduceSub, Int.reduceMul, Int.reduceEq]
          (repeat (refine And.intro (by first | omega | decide) ?_))
          refine callG_v rfl cb9 rfl (sure10OK hka hg) (dOk_lt rfl) ?_
          simp (config := { maxSteps := 600000 }) only [undef, push_cast, ↓Int.toNat_natCast, ↓Int.cast_ofNat_Int, Int.cast_ofNat_Int, ↓reduceIte, reduceCtorEq, Nat.reduceEqDiff, Nat.reduceLT, Nat.reduceLeDiff, Nat.reduceAdd, Nat.reduceSub, Nat.reduceMul, Int.reduceNeg, Int.reduceLE, Int.reduceLT, Int.reduceToNat, Int.reduceAdd, Int.reduceSub, Int.reduceMul, Int.reduceEq]
end Go.Proofs.YteiifdpikcnbgaaDoor
