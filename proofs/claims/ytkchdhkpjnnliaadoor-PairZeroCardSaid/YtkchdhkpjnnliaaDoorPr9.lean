/- The walk of law 9's PairZero. -/
import Derived.Test.YtkchdhkpjnnliaaDoorPr7
import Derived.Test.YtkchdhkpjnnliaaDoorPr8
namespace Go.Proofs.YtkchdhkpjnnliaaDoor
open Go.RowKit
set_option linter.unusedSimpArgs false
/-! ### The law: rows that are apart by signs sum up to nought -/
def sumN (f : Nat → UInt32) : Nat → UInt32
  | 0 => 0
  | n + 1 => sumN f n + f n
theorem u32_mid (a b c d : UInt32) : a + b + (c + d) = a + c + (b + d) := by
  rw [UInt32.add_assoc, UInt32.add_assoc, ← UInt32.add_assoc b c, UInt32.add_comm b c, UInt32.add_assoc c b]
theorem sumN_add (f g : Nat → UInt32) (n : Nat) : sumN (fun i => f i + g i) n = sumN f n + sumN g n := by
  induction n with
  | zero => rfl
  | succ n ih =>
    simp only [sumN, ih]
    exact u32_mid _ _ _ _
theorem sumN_congr {f g : Nat → UInt32} {n : Nat} (h : ∀ i, i < n → f i = g i) : sumN f n = sumN g n := by
  induction n with
  | zero => rfl
  | succ n ih => simp only [sumN]; rw [ih fun i hi => h i (by omega), h n (by omega)]
theorem sumN_zero (n : Nat) : sumN (fun _ => 0) n = 0 := by
  induction n with
  | zero => rfl
  | succ n ih => simp only [sumN, ih]; rfl
theorem sumN_anti (a : Nat → Nat → UInt32) (n : Nat) (h : ∀ i m, i < n → m < n → a i m + a m i = 0) (h0 : ∀ i, i < n → a i i = 0) : sumN (fun i => sumN (a i) n) n = 0 := by
  induction n with
  | zero => rfl
  | succ n ih =>
    have ih := ih (fun i m hi hm => h i m (by omega) (by omega)) fun i hi => h0 i (by omega)
    have e1 : sumN (fun i => sumN (a i) (n + 1)) n = sumN (fun i => sumN (a i) n) n + sumN (fun i => a i n) n := by
      rw [← sumN_add]; exact sumN_congr fun i _ => rfl
    show sumN (fun i => sumN (a i) (n + 1)) n + (sumN (a n) n + a n n) = 0
    rw [e1, ih, h0 n (by omega), UInt32.add_zero, UInt32.zero_add, ← sumN_add]
    rw [sumN_congr (g := fun _ => 0) fun i hi => h i n (by omega) (by omega)]
    exact sumN_zero n
/-! ### Peers, one behind the other -/
def gapOf (gaps : List UInt8) (i : Nat) : Int := if i < gaps.length then n8 (ix gaps i % 4) else 0
def idTo (gaps : List UInt8) : Nat → Int
  | 0 => -1
  | i + 1 => idTo gaps i + 1 + gapOf gaps i
theorem idTo_zero (gaps : List UInt8) : idTo gaps 0 = -1 := rfl
theorem idTo_succ (gaps : List UInt8) (i : Nat) : idTo gaps (i + 1) = idTo gaps i + 1 + gapOf gaps i := rfl
theorem gapOf_bnd (gaps : List UInt8) (i : Nat) : 0 ≤ gapOf gaps i ∧ gapOf gaps i ≤ 3 := by
  unfold gapOf
  split
  · obtain ⟨p, h1, h2⟩ := n8_rem (ix gaps i) 4 (by decide)
    have h2 : p < 4 := h2
    rw [h1]; omega
  · omega
theorem idTo_bnd (gaps : List UInt8) (i : Nat) : (i : Int) - 1 ≤ idTo gaps i ∧ idTo gaps i ≤ 4 * i - 1 := by
  induction i with
  | zero => simp [idTo]
  | succ i ih =>
    have := gapOf_bnd gaps i
    simp only [idTo]; omega
theorem idTo_lt (gaps : List UInt8) {i m : Nat} (h : i < m) : idTo gaps i < idTo gaps m := by
  induction m with
  | zero => omega
  | succ m ih =>
    have := gapOf_bnd gaps m
    simp only [idTo]
    by_cases e : i = m
    · subst e; omega
    · have := ih (by omega); omega
section
variable (keys : List UInt64) (gaps : List UInt8)
def zP (i : Nat) : Pr := (idTo gaps (i + 1), powU 3 (ix keys i))
def zL (n : Nat) : List Pr := (List.range n).map (zP keys gaps)
theorem zL_len (n : Nat) : (zL keys gaps n).length = n := by simp [zL]
theorem zL_ix {n i : Nat} (h : i < n) : ix (zL keys gaps n) i = zP keys gaps i := by simp [zL, ix, List.getD_eq_getElem?_getD, h]
theorem zL_succ (n : Nat) : zL keys gaps (n + 1) = zL keys gaps n ++ [zP keys gaps n] := by simp [zL, List.range_succ]
theorem zL_last {n i : Nat} (h : i ≤ n) : lastP (zL keys gaps n) i = idTo gaps i := by
  cases i with
  | zero => rfl
  | succ i => rw [lastP_succ, zL_ix _ _ (by omega)]; rfl
theorem zL_may {n : Nat} (h : n ≤ 10) : may (zL keys gaps n) = true := may_list fun i hi => by
  rw [zL_len] at hi
  rw [zL_last _ _ (by omega), zL_ix _ _ hi]
  refine ⟨idTo_lt gaps (by omega), ?_, _, rfl⟩
  have := (idTo_bnd gaps (i + 1)).2
  show idTo gaps (i + 1) < 64
  omega
theorem found_at {l : List Pr} {me : Int} {i n : Nat} (h : i < n) (hi : (ix l i).1 = me) : foundTo me l n = true := by
  induction n with
  | zero => omega
  | succ n ih =>
    simp only [foundTo, Bool.or_eq_true, decide_eq_true_eq]
    by_cases e : i = n
    · subst e; exact .inr hi
    · exact .inl (ih (by omega))
def zRow (n d i : Nat) : List UInt32 := pairTo (idTo gaps (i + 1)) (ix keys i) (zL keys gaps n) d n
theorem zRow_length (n d i : Nat) : (zRow keys gaps n d i).length = d := pairTo_length _ _ _ _ _
theorem zL_ok {n d i : Nat} (h : n ≤ 10) (hd : d ≤ 32) (hi : i < n) : prOk (idTo gaps (i + 1)) (zL keys gaps n) d = true :=
  prOk_of d (zL_may keys gaps h) hd (found_at (i := i) (by rw [zL_len]; exact hi) (by rw [zL_ix _ _ hi]; rfl))
theorem zRow_eq {n d i : Nat} (h : n ≤ 10) (hd : d ≤ 32) (hi : i < n) : prOut (idTo gaps (i + 1)) (ix keys i) (zL keys gaps n) d = zRow keys gaps n d i := by
  rw [prTo_eq (zL_ok keys gaps h hd hi), zL_len]; rfl
/-- What m adds to i's row, at a place. -/
def zA (d j i m : Nat) : UInt32 := if m = i then 0 else if i < m then ix (pairW (powU 3 (ix keys m)) (ix keys i) d) j else 0 - ix (pairW (powU 3 (ix keys m)) (ix keys i) d) j
theorem zA_anti (d j i m : Nat) : zA keys d j i m + zA keys d j m i = 0 := by
  unfold zA
  rcases Nat.lt_trichotomy i m with h | h | h
  · rw [if_neg (by omega), if_pos h, if_neg (by omega), if_neg (by omega), pairW_comm, UInt32.zero_sub, UInt32.add_right_neg]
  · subst h; simp
  · rw [if_neg (by omega), if_neg (by omega), if_neg (by omega), if_pos h, pairW_comm, UInt32.zero_sub, UInt32.add_left_neg]
theorem zRow_get {n d i j : Nat} (hi : i < n) (hj : j < d) : ix (zRow keys gaps n d i) j = sumN (zA keys d j i) n := by
  have : ∀ m, m ≤ n → ix (pairTo (idTo gaps (i + 1)) (ix keys i) (zL keys gaps n) d m) j = sumN (zA keys d j i) m := by
    intro m
    induction m with
    | zero => intro _; rw [pairTo_zero, zeros_get]; rfl
    | succ m ih =>
      intro hm
      have ih := ih (by omega)
      have e := zL_ix keys gaps (n := n) (i := m) (by omega)
      have e1 : (ix (zL keys gaps n) m).1 = idTo gaps (m + 1) := by rw [e]; rfl
      have e2 : (ix (zL keys gaps n) m).2 = powU 3 (ix keys m) := by rw [e]; rfl
      have hz : zA keys d j i m = if m = i then 0 else if i < m then ix (pairW (powU 3 (ix keys m)) (ix keys i) d) j else 0 - ix (pairW (powU 3 (ix keys m)) (ix keys i) d) j := rfl
      simp only [sumN]
      rw [hz]
      rcases Nat.lt_trichotomy i m with h | h | h
      · have hlt := idTo_lt gaps (i := i + 1) (m := m + 1) (by omega)
        rw [if_neg (by omega), if_pos h, pairTo_lo _ _ _ _ m (by omega) (by omega), opTo_get _ _ _ _ _ hj, ih, e2]
      · subst h
        rw [if_pos rfl, pairTo_me _ _ _ _ i e1, ih, UInt32.add_zero]
      · have hlt := idTo_lt gaps (i := m + 1) (m := i + 1) (by omega)
        rw [if_neg (by omega), if_neg (by omega), pairTo_hi _ _ _ _ m (by omega) (by omega), opTo_get _ _ _ _ _ hj, ih, e2, UInt32.zero_sub, ← UInt32.sub_eq_add_neg]
  exact this n (Nat.le_refl _)
theorem sumR_get (d : Nat) (L : List (List UInt32)) (j i : Nat) (hj : j < d) : ix (sumR d L i) j = sumN (fun m => ix (ix L m) j) i := by
  induction i with
  | zero => rw [sumR_zero, zeros_get]; rfl
  | succ i ih => rw [sumR_succ, opTo_get _ _ _ _ _ hj, ih]; rfl
theorem rows_zero {n d : Nat} (L : List (List UInt32)) (hL : ∀ i, i < n → ix L i = zRow keys gaps n d i) : sumR d L n = List.replicate d 0 := by
  apply ext_ix
  · rw [sumR_length, List.length_replicate]
  · intro j hj
    rw [sumR_length] at hj
    rw [sumR_get _ _ _ _ hj, zeros_get, ← sumN_anti (zA keys d j) n (fun i m _ _ => zA_anti keys d j i m) fun i _ => by unfold zA; rw [if_pos rfl]]
    exact sumN_congr fun i hi => by rw [hL i hi, zRow_get keys gaps hi hj]
end
theorem pcs_get0 (l : List Pr) (i : Nat) (h : i < l.length) (x : At) : (pcs l).getD (i * 2) x = .v (.int .i64 (ix l i).1) := by
  induction l generalizing i with
  | nil => simp at h
  | cons p l ih =>
    cases i with
    | zero => rw [pcs_cons]; rfl
    | succ i =>
      rw [pcs_cons, show (i + 1) * 2 = i * 2 + 1 + 1 from by omega, List.getD_cons_succ, List.getD_cons_succ, ih i (by simpa using h)]
      rfl
theorem pcs_get1 (l : List Pr) (i : Nat) (h : i < l.length) (x : At) : (pcs l).getD (i * 2 + 1) x = .v (vU64 (ix l i).2) := by
  induction l generalizing i with
  | nil => simp at h
  | cons p l ih =>
    cases i with
    | zero => rw [pcs_cons]; rfl
    | succ i =>
      rw [pcs_cons, show (i + 1) * 2 + 1 = i * 2 + 1 + 1 + 1 from by omega, List.getD_cons_succ, List.getD_cons_succ, ih i (by simpa using h)]
      rfl
theorem pcs_snoc (l : List Pr) (p : Pr) : pcs l ++ [.v (.int .i64 p.1), .v (vU64 p.2)] = pcs (l ++ [p]) := by
  rw [pcs_app, pcs_cons, pcs_nil]
theorem sub_pcs (j : Nat) (v : Value) (l : List Pr) : (pcs l).map (At.sub j v) = pcs l := by
  induction l with
  | nil => rw [pcs_nil]; rfl
  | cons p l ih => rw [pcs_cons, List.map_cons, List.map_cons, ih]; rfl
attribute [push_cast] sub_pcs
attribute [local irreducible] prOut prOk may powU opOut opErr pairTo zRow zL idTo sumR gapOf
attribute [local irreducible] Callable CallOK CallG CallM DrawG LoopG symR symM
set_option maxRecDepth 100000 in
set_option maxHeartbeats 16000000 in
theorem pairZero_any (keys : List UInt64) (A : Option Addr) (c : Nat) (gaps : List UInt8) (A2 : Option Addr) (c2 : Nat) (u : UInt8) (w : World) (hR : RdV w w.heap.size A (keys.map vU64)) (hR2 : RdV w w.heap.size A2 (gaps.map vU8)) (hk : LaidK 0 w) (hg : Handle w) :
    Calls Tryd.prog 14 #[.slice A keys.length c, .slice A2 gaps.length c2, vU8 u] w fun e w' => e = .returned (.bool true) ∧ Below w.heap.size w w' := by
  have F := FM.of hR
  have G := FM.of hR2
  refine calls_v (n := 140) Tryd.func14 rfl Tryd.ntmps14 [.x (.a (.v (.slice A keys.length c))), .x (.a (.v (.slice A2 gaps.length c2))), .x (.a (.v (vU8 u)))] (by simp) (.x (.a (.v (.bool true)))) (fun _ => rfl) ?_
  obtain ⟨d, hd, hd33⟩ := n8_rem u 33 (by decide)
  have hd32 : d ≤ 32 := by have : d < 33 := hd33; omega
  have bd : inU8 (d : Int) := ⟨by omega, by omega⟩
  by_cases h10 : (10 : Int) < keys.length
  · simp only [h10, undef, push_cast, ↓Int.toNat_natCast, ↓Int.cast_ofNat_Int, Int.cast_ofNat_Int, ↓reduceIte, reduceCtorEq, Nat.reduceEqDiff, Nat.reduceLT, Nat.reduceLeDiff, Nat.reduceAdd, Nat.reduceSub, Nat.reduceMul, Int.reduceNeg, Int.reduceLE, Int.reduceLT, Int.reduceToNat, Int.reduceAdd, Int.reduceSub, Int.reduceMul, Int.reduceEq]
    refine callG_v rfl cb45 rfl (sure09OK hk hg) (dOk_lt rfl) ?_
    simp only [h10, undef, push_cast, ↓Int.toNat_natCast, ↓Int.cast_ofNat_Int, Int.cast_ofNat_Int, ↓reduceIte, reduceCtorEq, Nat.reduceEqDiff, Nat.reduceLT, Nat.reduceLeDiff, Nat.reduceAdd, Nat.reduceSub, Nat.reduceMul, Int.reduceNeg, Int.reduceLE, Int.reduceLT, Int.reduceToNat, Int.reduceAdd, Int.reduceSub, Int.reduceMul, Int.reduceEq]
  by_cases h0 : (keys.length : Int) = 0
  · simp only [h10, h0, undef, push_cast, ↓Int.toNat_natCast, ↓Int.cast_ofNat_Int, Int.cast_ofNat_Int, ↓reduceIte, reduceCtorEq, Nat.reduceEqDiff, Nat.reduceLT, Nat.reduceLeDiff, Nat.reduceAdd, Nat.reduceSub, Nat.reduceMul, Int.reduceNeg, Int.reduceLE, Int.reduceLT, Int.reduceToNat, Int.reduceAdd, Int.reduceSub, Int.reduceMul, Int.reduceEq]
    refine callG_v rfl cb45 rfl (sure09OK hk hg) (dOk_lt rfl) ?_
    simp only [h10, h0, undef, push_cast, ↓Int.toNat_natCast, ↓Int.cast_ofNat_Int, Int.cast_ofNat_Int, ↓reduceIte, reduceCtorEq, Nat.reduceEqDiff, Nat.reduceLT, Nat.reduceLeDiff, Nat.reduceAdd, Nat.reduceSub, Nat.reduceMul, Int.reduceNeg, Int.reduceLE, Int.reduceLT, Int.reduceToNat, Int.reduceAdd, Int.reduceSub, Int.reduceMul, Int.reduceEq]
  have hn : keys.length ≤ 10 := by omega
  generalize hN : keys.length = N at *
  simp only [h10, h0, undef, push_cast, ↓Int.toNat_natCast, ↓Int.cast_ofNat_Int, Int.cast_ofNat_Int, ↓reduceIte, reduceCtorEq, Nat.reduceEqDiff, Nat.reduceLT, Nat.reduceLeDiff, Nat.reduceAdd, Nat.reduceSub, Nat.reduceMul, Int.reduceNeg, Int.reduceLE, Int.reduceLT, Int.reduceToNat, Int.reduceAdd, Int.reduceSub, Int.reduceMul, Int.reduceEq]
  refine loop_ghostN 7 87 2 (.c []) (by omega) rfl rfl (by simp only [push_cast, ↓Int.toNat_natCast, ↓Int.cast_ofNat_Int, Int.cast_ofNat_Int, ↓reduceIte, reduceCtorEq, Nat.reduceEqDiff, Nat.reduceLT, Nat.reduceLeDiff, Nat.reduceAdd, Nat.reduceSub, Nat.reduceMul, Int.reduceNeg, Int.reduceLE, Int.reduceLT, Int.reduceToNat, Int.reduceAdd, Int.reduceSub, Int.reduceMul, Int.reduceEq]) ?_
  refine loop_rule (ι := Nat) (fun i => ⟨[(0, .x (.a (.v (.slice A N c)))), (1, .x (.a (.v (.slice A2 gaps.length c2)))), (2, .x (.a (.v (vU8 u)))), (7, .x (.a (.o 0))), (8, .x (.a (.v (.int .i64 (idTo gaps i))))), (9, .x (.a (.v (.int .i64 i))))], [.onn 87 2 (.c (pcs (zL keys gaps i)))]⟩) (fun i => i ≤ N) (fun i => N - i) 0 [0] (by omega) ?_ ?_
  · have e0 := idTo_zero gaps
    have e1 : pcs (zL keys gaps 0) = [] := by unfold zL; exact pcs_nil
    simp only [e0, e1, push_cast, ↓Int.toNat_natCast, ↓Int.cast_ofNat_Int, Int.cast_ofNat_Int, ↓reduceIte, reduceCtorEq, Nat.reduceEqDiff, Nat.reduceLT, Nat.reduceLeDiff, Nat.reduceAdd, Nat.reduceSub, Nat.reduceMul, Int.reduceNeg, Int.reduceLE, Int.reduceLT, Int.reduceToNat, Int.reduceAdd, Int.reduceSub, Int.reduceMul, Int.reduceEq]
  · intro i hi
    by_cases hlt : (i : Int) < N
    · have i0 : (0 : Int) ≤ i := by omega
      have c0 := F.cell i (by omega)
      have o0 := F.ok i (by omega)
      have hA := F.some_ (by omega)
      have hb := idTo_bnd gaps i
      have hb2 := idTo_bnd gaps (i + 1)
      have hll := zL_len keys gaps i
      have hstep := idTo_succ gaps i
      have hsn := (pcs_snoc (zL keys gaps i) (zP keys gaps i)).trans (congrArg pcs (zL_succ keys gaps i).symm)
      have hz1 : (zP keys gaps i).1 = idTo gaps (i + 1) := rfl
      have hz2 : (zP keys gaps i).2 = powU 3 (ix keys i) := rfl
      rw [hz1, hz2] at hsn
      by_cases hgl : (i : Int) < gaps.length
      · have d0 := G.cell i (by omega)
        have p0 := G.ok i (by omega)
        have hA2 := G.some_ (by omega)
        obtain ⟨p, hp1, hp2⟩ := n8_rem (ix gaps i) 4 (by decide)
        have hp4 : p < 4 := hp2
        have bp : inU8 (p : Int) := ⟨by omega, by omega⟩
        have hgp : gapOf gaps i = p := by unfold gapOf; rw [if_pos (by omega), hp1]
        have hid : idTo gaps i + 1 + (p : Int) = idTo gaps (i + 1) := by rw [hstep, hgp]
        simp only [hlt, i0, c0, o0, hA, hgl, d0, p0, hA2, hp1, bp, hid, undef, push_cast, ↓Int.toNat_natCast, ↓Int.cast_ofNat_Int, Int.cast_ofNat_Int, ↓reduceIte, reduceCtorEq, Nat.reduceEqDiff, Nat.reduceLT, Nat.reduceLeDiff, Nat.reduceAdd, Nat.reduceSub, Nat.reduceMul, Int.reduceNeg, Int.reduceLE, Int.reduceLT, Int.reduceToNat, Int.reduceAdd, Int.reduceSub, Int.reduceMul, Int.reduceEq]
        (repeat (refine And.intro (by first | omega | decide) ?_))
        refine callG_v rfl cb50 rfl (publicK _) (dOk_lt rfl) ?_
        simp only [hll, hsn, undef, push_cast, ↓Int.toNat_natCast, ↓Int.cast_ofNat_Int, Int.cast_ofNat_Int, ↓reduceIte, reduceCtorEq, Nat.reduceEqDiff, Nat.reduceLT, Nat.reduceLeDiff, Nat.reduceAdd, Nat.reduceSub, Nat.reduceMul, Int.reduceNeg, Int.reduceLE, Int.reduceLT, Int.reduceToNat, Int.reduceAdd, Int.reduceSub, Int.reduceMul, Int.reduceEq]
        (repeat (refine And.intro (by first | omega | decide) ?_))
        refine loopK_normal (i + 1) [2] (by omega) (by omega) ?_
        simp only [push_cast, ↓Int.toNat_natCast, ↓Int.cast_ofNat_Int, Int.cast_ofNat_Int, ↓reduceIte, reduceCtorEq, Nat.reduceEqDiff, Nat.reduceLT, Nat.reduceLeDiff, Nat.reduceAdd, Nat.reduceSub, Nat.reduceMul, Int.reduceNeg, Int.reduceLE, Int.reduceLT, Int.reduceToNat, Int.reduceAdd, Int.reduceSub, Int.reduceMul, Int.reduceEq]
      · have hgp : gapOf gaps i = 0 := by unfold gapOf; rw [if_neg (by omega)]
        have hid : idTo gaps i + 1 = idTo gaps (i + 1) := by rw [hstep, hgp]; omega
        simp only [hlt, i0, c0, o0, hA, hgl, hid, undef, push_cast, ↓Int.toNat_natCast, ↓Int.cast_ofNat_Int, Int.cast_ofNat_Int, ↓reduceIte, reduceCtorEq, Nat.reduceEqDiff, Nat.reduceLT, Nat.reduceLeDiff, Nat.reduceAdd, Nat.reduceSub, Nat.reduceMul, Int.reduceNeg, Int.reduceLE, Int.reduceLT, Int.reduceToNat, Int.reduceAdd, Int.reduceSub, Int.reduceMul, Int.reduceEq]
        (repeat (refine And.intro (by first | omega | decide) ?_))
        refine callG_v rfl cb50 rfl (publicK _) (dOk_lt rfl) ?_
        simp only [hll, hsn, undef, push_cast, ↓Int.toNat_natCast, ↓Int.cast_ofNat_Int, Int.cast_ofNat_Int, ↓reduceIte, reduceCtorEq, Nat.reduceEqDiff, Nat.reduceLT, Nat.reduceLeDiff, Nat.reduceAdd, Nat.reduceSub, Nat.reduceMul, Int.reduceNeg, Int.reduceLE, Int.reduceLT, Int.reduceToNat, Int.reduceAdd, Int.reduceSub, Int.reduceMul, Int.reduceEq]
        (repeat (refine And.intro (by first | omega | decide) ?_))
        refine loopK_normal (i + 1) [2] (by omega) (by omega) ?_
        simp only [push_cast, ↓Int.toNat_natCast, ↓Int.cast_ofNat_Int, Int.cast_ofNat_Int, ↓reduceIte, reduceCtorEq, Nat.reduceEqDiff, Nat.reduceLT, Nat.reduceLeDiff, Nat.reduceAdd, Nat.reduceSub, Nat.reduceMul, Int.reduceNeg, Int.reduceLE, Int.reduceLT, Int.reduceToNat, Int.reduceAdd, Int.reduceSub, Int.reduceMul, Int.reduceEq]
    · have e : i = N := by omega
      clear hi
      subst e
      have hzl := zL_len keys gaps i
      have dv1 : (i : Int) * 2 / 2 = i := by omega
      have dv2 : i * 2 / 2 = i := by omega
      simp only [hlt, hd, bd, undef, push_cast, ↓Int.toNat_natCast, ↓Int.cast_ofNat_Int, Int.cast_ofNat_Int, ↓reduceIte, reduceCtorEq, Nat.reduceEqDiff, Nat.reduceLT, Nat.reduceLeDiff, Nat.reduceAdd, Nat.reduceSub, Nat.reduceMul, Int.reduceNeg, Int.reduceLE, Int.reduceLT, Int.reduceToNat, Int.reduceAdd, Int.reduceSub, Int.reduceMul, Int.reduceEq]
      (repeat (refine And.intro (by first | omega | decide) ?_))
      refine loop_ghost 11 56 (.c []) rfl rfl (by simp [Cont.bnd]) (by simp only [push_cast, ↓Int.toNat_natCast, ↓Int.cast_ofNat_Int, Int.cast_ofNat_Int, ↓reduceIte, reduceCtorEq, Nat.reduceEqDiff, Nat.reduceLT, Nat.reduceLeDiff, Nat.reduceAdd, Nat.reduceSub, Nat.reduceMul, Int.reduceNeg, Int.reduceLE, Int.reduceLT, Int.reduceToNat, Int.reduceAdd, Int.reduceSub, Int.reduceMul, Int.reduceEq]) ?_
      refine loop_fct (by simp only [push_cast, ↓Int.toNat_natCast, ↓Int.cast_ofNat_Int, Int.cast_ofNat_Int, ↓reduceIte, reduceCtorEq, Nat.reduceEqDiff, Nat.reduceLT, Nat.reduceLeDiff, Nat.reduceAdd, Nat.reduceSub, Nat.reduceMul, Int.reduceNeg, Int.reduceLE, Int.reduceLT, Int.reduceToNat, Int.reduceAdd, Int.reduceSub, Int.reduceMul, Int.reduceEq]) ?_
      refine loop_rule (ι := Nat × List Rw) (fun x => ⟨[(0, .x (.a (.v (.slice A i c)))), (7, .x (.a (.o 0))), (10, .x (.a (.v (.int .i64 d)))), (11, .x (.a (.o 1))), (12, .x (.a (.v (.int .i64 x.1))))], [.onn 87 2 (.c (pcs (zL keys gaps i))), .own 56 (.c (x.2.map fun r => .v r.val)), .abs (fctRep (x.2.map Rw.fct))]⟩) (fun x => x.1 ≤ i ∧ x.2.length = x.1 ∧ ∀ m, m < x.1 → (ix x.2 m).l = zRow keys gaps i d m) (fun x => i - x.1) (0, []) [0, 1, 2] ⟨by omega, rfl, fun m h => by omega⟩ ?_ ?_
      · simp only [push_cast, ↓Int.toNat_natCast, ↓Int.cast_ofNat_Int, Int.cast_ofNat_Int, ↓reduceIte, reduceCtorEq, Nat.reduceEqDiff, Nat.reduceLT, Nat.reduceLeDiff, Nat.reduceAdd, Nat.reduceSub, Nat.reduceMul, Int.reduceNeg, Int.reduceLE, Int.reduceLT, Int.reduceToNat, Int.reduceAdd, Int.reduceSub, Int.reduceMul, Int.reduceEq]
      · rintro ⟨m, R⟩ ⟨hm, hRl, hRr⟩
        have hm : m ≤ i := hm
        have hRl : R.length = m := hRl
        by_cases hmt : (m : Int) < i
        · have m0 : (0 : Int) ≤ m := by omega
          have c0 := F.cell m (by omega)
          have o0 := F.ok m (by omega)
          have hA := F.some_ (by omega)
          have q0 : ∀ x, (pcs (zL keys gaps i)).getD (m * 2) x = .v (.int .i64 (idTo gaps (m + 1))) := fun x => by
            rw [pcs_get0 (zL keys gaps i) m (by omega) x, zL_ix _ _ (by omega)]; rfl
          have hro := zRow_eq keys gaps (n := i) (d := d) (i := m) hn hd32 (by omega)
          have hre := prErr_yes (zL_ok keys gaps (n := i) (d := d) (i := m) hn hd32 (by omega))
          have hrl := zRow_length keys gaps i d m
          simp (config := { maxSteps := 600000 }) only [hzl, dv1, dv2, hmt, undef, push_cast, ↓Int.toNat_natCast, ↓Int.cast_ofNat_Int, Int.cast_ofNat_Int, ↓reduceIte, reduceCtorEq, Nat.reduceEqDiff, Nat.reduceLT, Nat.reduceLeDiff, Nat.reduceAdd, Nat.reduceSub, Nat.reduceMul, Int.reduceNeg, Int.reduceLE, Int.reduceLT, Int.reduceToNat, Int.reduceAdd, Int.reduceSub, Int.reduceMul, Int.reduceEq]
          refine draw_rule [(0, true), (1, true), (2, true), (3, true), (4, true), (5, true), (6, true), (7, true), (8, true), (9, true), (10, true), (11, false), (12, true), (13, true), (14, true), (15, true), (16, true)] (by kernel_rfl) (by kernel_rfl) rfl (by kernel_rfl) ?_
          simp (config := { maxSteps := 600000 }) only [hzl, dv1, dv2, hmt, m0, c0, o0, hA, q0, undef, push_cast, ↓Int.toNat_natCast, ↓Int.cast_ofNat_Int, Int.cast_ofNat_Int, ↓reduceIte, reduceCtorEq, Nat.reduceEqDiff, Nat.reduceLT, Nat.reduceLeDiff, Nat.reduceAdd, Nat.reduceSub, Nat.reduceMul, Int.reduceNeg, Int.reduceLE, Int.reduceLT, Int.reduceToNat, Int.reduceAdd, Int.reduceSub, Int.reduceMul, Int.reduceEq]
          (repeat (refine And.intro (by first | omega | decide) ?_))
          refine callM_x rfl cb46 rfl (pairRowOK (l := zL keys gaps i) (idTo gaps (m + 1)) (ix keys m) d (showsR_pcs rfl) hk (by simp only [push_cast, ↓Int.toNat_natCast, ↓Int.cast_ofNat_Int, Int.cast_ofNat_Int, ↓reduceIte, reduceCtorEq, Nat.reduceEqDiff, Nat.reduceLT, Nat.reduceLeDiff, Nat.reduceAdd, Nat.reduceSub, Nat.reduceMul, Int.reduceNeg, Int.reduceLE, Int.reduceLT, Int.reduceToNat, Int.reduceAdd, Int.reduceSub, Int.reduceMul, Int.reduceEq])) (dOk_lt rfl) (by simp only [push_cast, ↓Int.toNat_natCast, ↓Int.cast_ofNat_Int, Int.cast_ofNat_Int, ↓reduceIte, reduceCtorEq, Nat.reduceEqDiff, Nat.reduceLT, Nat.reduceLeDiff, Nat.reduceAdd, Nat.reduceSub, Nat.reduceMul, Int.reduceNeg, Int.reduceLE, Int.reduceLT, Int.reduceToNat, Int.reduceAdd, Int.reduceSub, Int.reduceMul, Int.reduceEq]) ?_
          simp (config := { maxSteps := 600000 }) only [hro, hre, hRl, undef, push_cast, ↓Int.toNat_natCast, ↓Int.cast_ofNat_Int, Int.cast_ofNat_Int, ↓reduceIte, reduceCtorEq, Nat.reduceEqDiff, Nat.reduceLT, Nat.reduceLeDiff, Nat.reduceAdd, Nat.reduceSub, Nat.reduceMul, Int.reduceNeg, Int.reduceLE, Int.reduceLT, Int.reduceToNat, Int.reduceAdd, Int.reduceSub, Int.reduceMul, Int.reduceEq]
          (repeat (refine And.intro (by first | omega | decide) ?_))
          refine loop_absorb 3 2 rfl (fun _ => rfl) rfl (by decide) ?_
          intro Ar cr hr1 hr2
          simp (config := { maxSteps := 600000 }) only [hrl, push_cast, ↓Int.toNat_natCast, ↓Int.cast_ofNat_Int, Int.cast_ofNat_Int, ↓reduceIte, reduceCtorEq, Nat.reduceEqDiff, Nat.reduceLT, Nat.reduceLeDiff, Nat.reduceAdd, Nat.reduceSub, Nat.reduceMul, Int.reduceNeg, Int.reduceLE, Int.reduceLT, Int.reduceToNat, Int.reduceAdd, Int.reduceSub, Int.reduceMul, Int.reduceEq]
          obtain ⟨y, hyl, hfc, hvl⟩ : ∃ y : Rw, y.l = zRow keys gaps i d m ∧ (⟨.slice Ar d cr, d, (zRow keys gaps i d m).map vU32⟩ : Fct) = y.fct ∧ Value.slice Ar d cr = y.val := ⟨⟨Ar, cr, zRow keys gaps i d m⟩, rfl, by unfold Rw.fct; rw [hrl], by unfold Rw.val; rw [hrl]⟩
          rw [hfc, hvl]
          have hap : ∀ j, j < m + 1 → (ix (R ++ [y]) j).l = zRow keys gaps i d j := fun j hj => by
            by_cases e : j = m
            · subst e
              rw [← hyl, ← hRl]
              simp [ix, List.getD_eq_getElem?_getD]
            · have := hRr j (by omega : j < m)
              rw [← this]
              simp [ix, List.getD_eq_getElem?_getD, List.getElem?_append_left (show j < R.length by omega)]
          have hal : (R ++ [y]).length = m + 1 := by rw [List.length_append]; simp [hRl]
          have hm1 : (R ++ [y]).map Rw.fct = R.map Rw.fct ++ [Rw.fct y] := by simp
          have hm2 : ((R ++ [y]).map fun r => At.v r.val) = (R.map fun r => At.v r.val) ++ [.v (Rw.val y)] := by simp
          rw [← hm1, ← hm2]
          generalize R ++ [y] = R' at hap hal ⊢
          refine loop_rule (ι := Nat) (fun k => ⟨[(0, .x (.a (.v (.slice A i c)))), (7, .x (.a (.o 0))), (10, .x (.a (.v (.int .i64 d)))), (11, .x (.a (.o 1))), (12, .x (.a (.v (.int .i64 m)))), (15, .x (.a (.v (.int .i64 k))))], [.onn 87 2 (.c (pcs (zL keys gaps i))), .own 56 (.c (R'.map fun r => .v r.val)), .abs (fctRep (R'.map Rw.fct))]⟩) (fun k => k ≤ m) (fun k => m - k) 0 [0, 5, 2] (by omega) ?_ ?_
          · simp only [push_cast, ↓Int.toNat_natCast, ↓Int.cast_ofNat_Int, Int.cast_ofNat_Int, ↓reduceIte, reduceCtorEq, Nat.reduceEqDiff, Nat.reduceLT, Nat.reduceLeDiff, Nat.reduceAdd, Nat.reduceSub, Nat.reduceMul, Int.reduceNeg, Int.reduceLE, Int.reduceLT, Int.reduceToNat, Int.reduceAdd, Int.reduceSub, Int.reduceMul, Int.reduceEq]
          · intro k hk2
            by_cases hkt : (k : Int) < m
            · have k0 : (0 : Int) ≤ k := by omega
              have hki : (k : Int) < i := by omega
              have d0 := F.cell k (by omega)
              have p0 := F.ok k (by omega)
              have q1 : ∀ x, (pcs (zL keys gaps i)).getD (m * 2 + 1) x = .v (vU64 (powU 3 (ix keys m))) := fun x => by
                rw [pcs_get1 (zL keys gaps i) m (by omega) x, zL_ix _ _ (by omega)]; rfl
              have q2 : ∀ x, (pcs (zL keys gaps i)).getD (k * 2 + 1) x = .v (vU64 (powU 3 (ix keys k))) := fun x => by
                rw [pcs_get1 (zL keys gaps i) k (by omega) x, zL_ix _ _ (by omega)]; rfl
              have hcm := powU_comm (ix keys k) (ix keys m)
              simp (config := { maxSteps := 600000 }) only [hkt, undef, push_cast, ↓Int.toNat_natCast, ↓Int.cast_ofNat_Int, Int.cast_ofNat_Int, ↓reduceIte, reduceCtorEq, Nat.reduceEqDiff, Nat.reduceLT, Nat.reduceLeDiff, Nat.reduceAdd, Nat.reduceSub, Nat.reduceMul, Int.reduceNeg, Int.reduceLE, Int.reduceLT, Int.reduceToNat, Int.reduceAdd, Int.reduceSub, Int.reduceMul, Int.reduceEq]
              refine draw_rule [(0, true), (1, true), (2, true), (3, true), (4, true), (5, true), (6, true), (7, true), (8, true), (10, true), (11, true), (12, true), (13, true), (14, true), (15, true), (16, true), (17, true), (18, true), (9, false), (19, false), (20, true)] (by kernel_rfl) (by kernel_rfl) rfl (by kernel_rfl) ?_
              simp (config := { maxSteps := 600000 }) only [hzl, dv1, dv2, hmt, m0, k0, hki, c0, o0, d0, p0, hA, q1, q2, undef, push_cast, ↓Int.toNat_natCast, ↓Int.cast_ofNat_Int, Int.cast_ofNat_Int, ↓reduceIte, reduceCtorEq, Nat.reduceEqDiff, Nat.reduceLT, Nat.reduceLeDiff, Nat.reduceAdd, Nat.reduceSub, Nat.reduceMul, Int.reduceNeg, Int.reduceLE, Int.reduceLT, Int.reduceToNat, Int.reduceAdd, Int.reduceSub, Int.reduceMul, Int.reduceEq]
              (repeat (refine And.intro (by first | omega | decide) ?_))
              refine callM_v rfl cb52 rfl (sharedK _ _) (dOk_lt rfl) ?_
              simp (config := { maxSteps := 600000 }) only [hzl, dv1, dv2, hmt, m0, k0, hki, c0, o0, d0, p0, hA, q1, q2, undef, push_cast, ↓Int.toNat_natCast, ↓Int.cast_ofNat_Int, Int.cast_ofNat_Int, ↓reduceIte, reduceCtorEq, Nat.reduceEqDiff, Nat.reduceLT, Nat.reduceLeDiff, Nat.reduceAdd, Nat.reduceSub, Nat.reduceMul, Int.reduceNeg, Int.reduceLE, Int.reduceLT, Int.reduceToNat, Int.reduceAdd, Int.reduceSub, Int.reduceMul, Int.reduceEq]
              (repeat (refine And.intro (by first | omega | decide) ?_))
              refine callM_v rfl cb52 rfl (sharedK _ _) (dOk_lt rfl) ?_
              simp (config := { maxSteps := 600000 }) only [hcm, undef, push_cast, ↓Int.toNat_natCast, ↓Int.cast_ofNat_Int, Int.cast_ofNat_Int, ↓reduceIte, reduceCtorEq, Nat.reduceEqDiff, Nat.reduceLT, Nat.reduceLeDiff, Nat.reduceAdd, Nat.reduceSub, Nat.reduceMul, Int.reduceNeg, Int.reduceLE, Int.reduceLT, Int.reduceToNat, Int.reduceAdd, Int.reduceSub, Int.reduceMul, Int.reduceEq]
              (repeat (refine And.intro (by first | omega | decide) ?_))
              refine loopK_normal (k + 1) [0, 1, 2] (by omega) (by omega) ?_
              simp only [push_cast, ↓Int.toNat_natCast, ↓Int.cast_ofNat_Int, Int.cast_ofNat_Int, ↓reduceIte, reduceCtorEq, Nat.reduceEqDiff, Nat.reduceLT, Nat.reduceLeDiff, Nat.reduceAdd, Nat.reduceSub, Nat.reduceMul, Int.reduceNeg, Int.reduceLE, Int.reduceLT, Int.reduceToNat, Int.reduceAdd, Int.reduceSub, Int.reduceMul, Int.reduceEq]
            · simp (config := { maxSteps := 600000 }) only [hkt, undef, push_cast, ↓Int.toNat_natCast, ↓Int.cast_ofNat_Int, Int.cast_ofNat_Int, ↓reduceIte, reduceCtorEq, Nat.reduceEqDiff, Nat.reduceLT, Nat.reduceLeDiff, Nat.reduceAdd, Nat.reduceSub, Nat.reduceMul, Int.reduceNeg, Int.reduceLE, Int.reduceLT, Int.reduceToNat, Int.reduceAdd, Int.reduceSub, Int.reduceMul, Int.reduceEq]
              (repeat (refine And.intro (by first | omega | decide) ?_))
              refine loopK_normal (m + 1, R') [0, 1, 2] ⟨by omega, hal, hap⟩ (by simp only []; omega) ?_
              simp only [push_cast, ↓Int.toNat_natCast, ↓Int.cast_ofNat_Int, Int.cast_ofNat_Int, ↓reduceIte, reduceCtorEq, Nat.reduceEqDiff, Nat.reduceLT, Nat.reduceLeDiff, Nat.reduceAdd, Nat.reduceSub, Nat.reduceMul, Int.reduceNeg, Int.reduceLE, Int.reduceLT, Int.reduceToNat, Int.reduceAdd, Int.reduceSub, Int.reduceMul, Int.reduceEq]
        · have e : m = i := by omega
          subst e
          have hez : zOut d = List.replicate d 0 := by unfold zOut; rw [zOk_yes (by omega) (by omega), Int.toNat_natCast]; rfl
          have heze : zErr d = .nilIface := by unfold zErr; rw [zOk_yes (by omega) (by omega)]; rfl
          have hsum : sumR d (R.map (·.l)) R.length = List.replicate d 0 := by
            rw [hRl]
            exact rows_zero keys gaps (n := m) _ fun j hj => by
              rw [← hRr j hj]
              simp [ix, List.getD_eq_getElem?_getD, show j < R.length by omega]
          simp (config := { maxSteps := 600000 }) only [hzl, dv1, dv2, hmt, undef, push_cast, ↓Int.toNat_natCast, ↓Int.cast_ofNat_Int, Int.cast_ofNat_Int, ↓reduceIte, reduceCtorEq, Nat.reduceEqDiff, Nat.reduceLT, Nat.reduceLeDiff, Nat.reduceAdd, Nat.reduceSub, Nat.reduceMul, Int.reduceNeg, Int.reduceLE, Int.reduceLT, Int.reduceToNat, Int.reduceAdd, Int.reduceSub, Int.reduceMul, Int.reduceEq]
          (repeat (refine And.intro (by first | omega | decide) ?_))
          refine callG_x rfl cb57 rfl (vecSumOK (k := 1) (kf := 2) R d hd32 (by omega) rfl rfl (fun j hj => by rw [hRr j (by omega : j < m), zRow_length]) (by simp only [push_cast, ↓Int.toNat_natCast, ↓Int.cast_ofNat_Int, Int.cast_ofNat_Int, ↓reduceIte, reduceCtorEq, Nat.reduceEqDiff, Nat.reduceLT, Nat.reduceLeDiff, Nat.reduceAdd, Nat.reduceSub, Nat.reduceMul, Int.reduceNeg, Int.reduceLE, Int.reduceLT, Int.reduceToNat, Int.reduceAdd, Int.reduceSub, Int.reduceMul, Int.reduceEq])) (dOk_lt rfl) (by simp only [push_cast, ↓Int.toNat_natCast, ↓Int.cast_ofNat_Int, Int.cast_ofNat_Int, ↓reduceIte, reduceCtorEq, Nat.reduceEqDiff, Nat.reduceLT, Nat.reduceLeDiff, Nat.reduceAdd, Nat.reduceSub, Nat.reduceMul, Int.reduceNeg, Int.reduceLE, Int.reduceLT, Int.reduceToNat, Int.reduceAdd, Int.reduceSub, Int.reduceMul, Int.reduceEq]) ?_
          simp (config := { maxSteps := 600000 }) only [hsum, undef, push_cast, ↓Int.toNat_natCast, ↓Int.cast_ofNat_Int, Int.cast_ofNat_Int, ↓reduceIte, reduceCtorEq, Nat.reduceEqDiff, Nat.reduceLT, Nat.reduceLeDiff, Nat.reduceAdd, Nat.reduceSub, Nat.reduceMul, Int.reduceNeg, Int.reduceLE, Int.reduceLT, Int.reduceToNat, Int.reduceAdd, Int.reduceSub, Int.reduceMul, Int.reduceEq]
          (repeat (refine And.intro (by first | omega | decide) ?_))
          refine callG_x rfl cb56 rfl (zero02OK d (by simp only [push_cast, ↓Int.toNat_natCast, ↓Int.cast_ofNat_Int, Int.cast_ofNat_Int, ↓reduceIte, reduceCtorEq, Nat.reduceEqDiff, Nat.reduceLT, Nat.reduceLeDiff, Nat.reduceAdd, Nat.reduceSub, Nat.reduceMul, Int.reduceNeg, Int.reduceLE, Int.reduceLT, Int.reduceToNat, Int.reduceAdd, Int.reduceSub, Int.reduceMul, Int.reduceEq])) (dOk_lt rfl) (by simp only [push_cast, ↓Int.toNat_natCast, ↓Int.cast_ofNat_Int, Int.cast_ofNat_Int, ↓reduceIte, reduceCtorEq, Nat.reduceEqDiff, Nat.reduceLT, Nat.reduceLeDiff, Nat.reduceAdd, Nat.reduceSub, Nat.reduceMul, Int.reduceNeg, Int.reduceLE, Int.reduceLT, Int.reduceToNat, Int.reduceAdd, Int.reduceSub, Int.reduceMul, Int.reduceEq]) ?_
          simp (config := { maxSteps := 600000 }) only [hez, heze, undef, push_cast, ↓Int.toNat_natCast, ↓Int.cast_ofNat_Int, Int.cast_ofNat_Int, ↓reduceIte, reduceCtorEq, Nat.reduceEqDiff, Nat.reduceLT, Nat.reduceLeDiff, Nat.reduceAdd, Nat.reduceSub, Nat.reduceMul, Int.reduceNeg, Int.reduceLE, Int.reduceLT, Int.reduceToNat, Int.reduceAdd, Int.reduceSub, Int.reduceMul, Int.reduceEq]
          (repeat (refine And.intro (by first | omega | decide) ?_))
          refine callG_v rfl cb44 rfl (same32OK (a := List.replicate d 0) (b := List.replicate d 0) (by rw [List.length_replicate]; omega) (shows_own rfl fun _ => rfl) (shows_own rfl fun _ => rfl)) (dOk_lt rfl) ?_
          simp (config := { maxSteps := 600000 }) only [undef, push_cast, ↓Int.toNat_natCast, ↓Int.cast_ofNat_Int, Int.cast_ofNat_Int, ↓reduceIte, reduceCtorEq, Nat.reduceEqDiff, Nat.reduceLT, Nat.reduceLeDiff, Nat.reduceAdd, Nat.reduceSub, Nat.reduceMul, Int.reduceNeg, Int.reduceLE, Int.reduceLT, Int.reduceToNat, Int.reduceAdd, Int.reduceSub, Int.reduceMul, Int.reduceEq]
          (repeat (refine And.intro (by first | omega | decide) ?_))
          refine callG_v rfl cb45 rfl (sure09OK hk hg) (dOk_lt rfl) ?_
          simp (config := { maxSteps := 600000 }) only [undef, push_cast, ↓Int.toNat_natCast, ↓Int.cast_ofNat_Int, Int.cast_ofNat_Int, ↓reduceIte, reduceCtorEq, Nat.reduceEqDiff, Nat.reduceLT, Nat.reduceLeDiff, Nat.reduceAdd, Nat.reduceSub, Nat.reduceMul, Int.reduceNeg, Int.reduceLE, Int.reduceLT, Int.reduceToNat, Int.reduceAdd, Int.reduceSub, Int.reduceMul, Int.reduceEq]
end Go.Proofs.YtkchdhkpjnnliaaDoor
