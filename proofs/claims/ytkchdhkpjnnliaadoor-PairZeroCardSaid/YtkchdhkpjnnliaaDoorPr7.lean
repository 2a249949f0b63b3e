/- The walk of law 9's PairMore. -/
import Derived.Test.YtkchdhkpjnnliaaDoorPr5
namespace Go.Proofs.YtkchdhkpjnnliaaDoor
open Go.RowKit
set_option linter.unusedSimpArgs false
theorem n8_rem (u n : UInt8) (hn : 0 < n.toNat) : ∃ p : Nat, n8 (u % n) = p ∧ p < n.toNat := ⟨(u % n).toNat, rfl, by
  rw [UInt8.toNat_mod]
  exact Nat.mod_lt _ hn⟩
theorem powU_lt (a n : UInt64) : powU a n < fpP := by
  rw [UInt64.lt_iff_toNat_lt, powU_toNat]
  exact Nat.mod_lt _ (by decide)
theorem pow3_ne (k : Nat) : ¬ 3 ^ k % 2305843009213693951 = 0 := fun h => by
  have h1 : (3 ^ k * 1537228672809129301 ^ k) % 2305843009213693951 = 1 := by
    rw [← Nat.mul_pow, Nat.pow_mod, show 3 * 1537228672809129301 % 2305843009213693951 = 1 from by decide, Nat.one_pow]
  rw [Nat.mul_mod, h, Nat.zero_mul] at h1
  exact absurd h1 (by decide)
theorem powU_ne (n : UInt64) : ¬ powU 3 n = 0 := fun h => pow3_ne n.toNat (by
  have := congrArg UInt64.toNat h
  rwa [powU_toNat] at this)
theorem powU_comm (a b : UInt64) : powU (powU 3 a) b = powU (powU 3 b) a := by
  apply UInt64.toNat_inj.1
  rw [powU_toNat, powU_toNat, powU_toNat, powU_toNat, ← Nat.pow_mod, ← Nat.pow_mod, ← Nat.pow_mul, ← Nat.pow_mul, Nat.mul_comm]
theorem opTo_get (F : UInt32 → UInt32 → UInt32) (a b : List UInt32) (n j : Nat) (h : j < n) : ix (opTo F a b n) j = F (ix a j) (ix b j) := by
  induction n with
  | zero => omega
  | succ n ih =>
    have hl := opTo_length F a b n
    rw [opTo_succ]
    by_cases e : j = n
    · subst e
      unfold ix
      rw [List.getD_eq_getElem?_getD, List.getElem?_append_right (by omega), hl, Nat.sub_self]
      rfl
    · rw [← ih (by omega)]
      unfold ix
      rw [List.getD_eq_getElem?_getD, List.getElem?_append_left (by omega), List.getD_eq_getElem?_getD]
theorem zeros_get (n j : Nat) : ix (List.replicate n (0 : UInt32)) j = 0 := by
  simp [ix, List.getD_eq_getElem?_getD, List.getElem?_replicate]
  split <;> rfl
/-! ### Four peers -/
section
variable (k0 k1 k2 k3 : UInt64) (n : Nat)
abbrev P0 : Pr := (0, powU 3 k0)
abbrev P1 : Pr := (7, powU 3 k1)
abbrev P2 : Pr := (14, powU 3 k2)
abbrev P3 : Pr := (21, powU 3 k3)
theorem may_list {l : List Pr} (h : ∀ i, i < l.length → lastP l i < (ix l i).1 ∧ (ix l i).1 < 64 ∧ ∃ k, (ix l i).2 = powU 3 k) : may l = true := may_iff.2 fun i hi => by
  obtain ⟨h1, h2, k, h3⟩ := h i hi
  exact ⟨h1, h2, by rw [h3]; exact powU_ne k, by rw [h3]; exact powU_lt 3 k⟩
theorem may4 : may [P0 k0, P1 k1, P2 k2, P3 k3] = true := may_list fun i hi => by
  match i, hi with
  | 0, _ => exact ⟨(show (-1 : Int) < 0 by decide), (show (0 : Int) < 64 by decide), k0, rfl⟩
  | 1, _ => exact ⟨by show (0 : Int) < 7; decide, (show (7 : Int) < 64 by decide), k1, rfl⟩
  | 2, _ => exact ⟨by show (7 : Int) < 14; decide, (show (14 : Int) < 64 by decide), k2, rfl⟩
  | 3, _ => exact ⟨by show (14 : Int) < 21; decide, (show (21 : Int) < 64 by decide), k3, rfl⟩
theorem may3 : may [P0 k0, P1 k1, P2 k2] = true := may_list fun i hi => by
  match i, hi with
  | 0, _ => exact ⟨(show (-1 : Int) < 0 by decide), (show (0 : Int) < 64 by decide), k0, rfl⟩
  | 1, _ => exact ⟨by show (0 : Int) < 7; decide, (show (7 : Int) < 64 by decide), k1, rfl⟩
  | 2, _ => exact ⟨by show (7 : Int) < 14; decide, (show (14 : Int) < 64 by decide), k2, rfl⟩
theorem may2 : may [P1 k1, P3 k3] = true := may_list fun i hi => by
  match i, hi with
  | 0, _ => exact ⟨(show (-1 : Int) < 7 by decide), (show (7 : Int) < 64 by decide), k1, rfl⟩
  | 1, _ => exact ⟨by show (7 : Int) < 21; decide, (show (21 : Int) < 64 by decide), k3, rfl⟩
theorem may1 : may [P1 k1] = true := may_list fun i hi => by
  match i, hi with
  | 0, _ => exact ⟨(show (-1 : Int) < 7 by decide), (show (7 : Int) < 64 by decide), k1, rfl⟩
theorem prOk_of {me : Int} {l : List Pr} (h1 : may l = true) (h2 : n ≤ 32) (h3 : foundTo me l l.length = true) : prOk me l n = true := by
  rw [prOk_found h1 (zOk_yes (by omega) (by omega)), h3]
end
theorem prTo_eq {me : Int} {key : UInt64} {l : List Pr} {n : Nat} (h : prOk me l n = true) : prOut me key l n = pairTo me key l n l.length := by
  rw [prOut_yes h, Int.toNat_natCast]
theorem prTo_len {me : Int} {key : UInt64} {l : List Pr} {n : Nat} (h : prOk me l n = true) : (prOut me key l n).length = n := by rw [prTo_eq h, pairTo_length]
section
variable (k0 k1 k2 k3 : UInt64) (n j : Nat)
theorem a_get (h : j < n) : ix (pairTo 7 k1 [P0 k0, P1 k1, P2 k2] n 3) j = 0 - ix (pairW (powU 3 k0) k1 n) j + ix (pairW (powU 3 k2) k1 n) j := by
  rw [pairTo_lo _ _ _ _ 2 (by show ¬ (14 : Int) = 7; decide) (by show (7 : Int) < 14; decide), opTo_get _ _ _ _ _ h, pairTo_me _ _ _ _ 1 (by rfl), pairTo_hi _ _ _ _ 0 (by show ¬ (0 : Int) = 7; decide) (by show ¬ (7 : Int) < 0; decide), opTo_get _ _ _ _ _ h, pairTo_zero, zeros_get]
  rfl
theorem b_get (h : j < n) : ix (pairTo 7 k1 [P0 k0, P1 k1, P2 k2, P3 k3] n 4) j = 0 - ix (pairW (powU 3 k0) k1 n) j + ix (pairW (powU 3 k2) k1 n) j + ix (pairW (powU 3 k3) k1 n) j := by
  rw [pairTo_lo _ _ _ _ 3 (by show ¬ (21 : Int) = 7; decide) (by show (7 : Int) < 21; decide), opTo_get _ _ _ _ _ h, pairTo_lo _ _ _ _ 2 (by show ¬ (14 : Int) = 7; decide) (by show (7 : Int) < 14; decide), opTo_get _ _ _ _ _ h, pairTo_me _ _ _ _ 1 (by rfl), pairTo_hi _ _ _ _ 0 (by show ¬ (0 : Int) = 7; decide) (by show ¬ (7 : Int) < 0; decide), opTo_get _ _ _ _ _ h, pairTo_zero, zeros_get]
  rfl
theorem c_get (h : j < n) : ix (pairTo 7 k1 [P1 k1, P3 k3] n 2) j = 0 + ix (pairW (powU 3 k3) k1 n) j := by
  rw [pairTo_lo _ _ _ _ 1 (by show ¬ (21 : Int) = 7; decide) (by show (7 : Int) < 21; decide), opTo_get _ _ _ _ _ h, pairTo_me _ _ _ _ 0 (by rfl), pairTo_zero, zeros_get]
  rfl
theorem d_get (h : j < n) : ix (pairTo 21 k3 [P1 k1, P3 k3] n 2) j = 0 - ix (pairW (powU 3 k1) k3 n) j := by
  rw [pairTo_me _ _ _ _ 1 (by rfl), pairTo_hi _ _ _ _ 0 (by show ¬ (7 : Int) = 21; decide) (by show ¬ (21 : Int) < 7; decide), opTo_get _ _ _ _ _ h, pairTo_zero, zeros_get]
  rfl
theorem o_all : pairTo 7 k1 [P1 k1] n 1 = List.replicate n 0 := by rw [pairTo_me _ _ _ _ 0 (by rfl), pairTo_zero]
theorem pairW_comm : pairW (powU 3 k3) k1 n = pairW (powU 3 k1) k3 n := by unfold pairW; rw [powU_comm]
theorem ac_b : opTo (· + ·) (pairTo 7 k1 [P0 k0, P1 k1, P2 k2] n 3) (pairTo 7 k1 [P1 k1, P3 k3] n 2) n = pairTo 7 k1 [P0 k0, P1 k1, P2 k2, P3 k3] n 4 := by
  apply ext_ix
  · rw [opTo_length, pairTo_length]
  · intro j hj
    rw [opTo_length] at hj
    rw [opTo_get _ _ _ _ _ hj, a_get _ _ _ _ _ hj, b_get _ _ _ _ _ _ hj, c_get _ _ _ _ hj, UInt32.zero_add]
theorem cd_z : opTo (· + ·) (pairTo 7 k1 [P1 k1, P3 k3] n 2) (pairTo 21 k3 [P1 k1, P3 k3] n 2) n = List.replicate n 0 := by
  apply ext_ix
  · rw [opTo_length, List.length_replicate]
  · intro j hj
    rw [opTo_length] at hj
    rw [opTo_get _ _ _ _ _ hj, c_get _ _ _ _ hj, d_get _ _ _ _ hj, zeros_get, pairW_comm, UInt32.zero_add, UInt32.zero_sub, UInt32.add_right_neg]
end
/-! ### The walk -/
section
variable (k0 k1 k2 k3 : UInt64)
theorem pcs4 : pcs [P0 k0, P1 k1, P2 k2, P3 k3] = [.v (.int .i64 0), .v (vU64 (powU 3 k0)), .v (.int .i64 7), .v (vU64 (powU 3 k1)), .v (.int .i64 14), .v (vU64 (powU 3 k2)), .v (.int .i64 21), .v (vU64 (powU 3 k3))] := by
  simp only [pcs_cons, pcs_nil]
theorem ix4 (i : Nat) (h : i < 4) : ix [P0 k0, P1 k1, P2 k2, P3 k3] i = (7 * (i : Int), powU 3 (ix [k0, k1, k2, k3] i)) := by
  match i, h with
  | 0, _ => rfl
  | 1, _ => rfl
  | 2, _ => rfl
  | 3, _ => rfl
end
section
variable {w0 : World} {ow : Nat → Prop} {hp : List Res} {k : Nat} {e : TypeId} {c : Cont} (k0 k1 k2 k3 : UInt64)
theorem y3 (hr : hp[k]? = some (.onn e 2 c)) (hc : ∀ γ, c.vals γ = pvs [P0 k0, P1 k1, P2 k2, P3 k3]) : ShowsR w0 ow hp (.x (.a (.y k 2 0 3))) [P0 k0, P1 k1, P2 k2].length (pvs [P0 k0, P1 k1, P2 k2]) := showsR_y 0 3 hr hc (by rw [pvs_len]; exact (by decide : (0 + 3) * 2 ≤ 4 * 2))
theorem y1 (hr : hp[k]? = some (.onn e 2 c)) (hc : ∀ γ, c.vals γ = pvs [P0 k0, P1 k1, P2 k2, P3 k3]) : ShowsR w0 ow hp (.x (.a (.y k 2 1 1))) [P1 k1].length (pvs [P1 k1]) := showsR_y 1 1 hr hc (by rw [pvs_len]; exact (by decide : (1 + 1) * 2 ≤ 4 * 2))
end
section
variable (k0 k1 k2 k3 : UInt64) (n : Nat) (hn : n ≤ 32)
include hn
theorem oka : prOk 7 [P0 k0, P1 k1, P2 k2] n = true := prOk_of _ (may3 _ _ _) hn rfl
theorem okb : prOk 7 [P0 k0, P1 k1, P2 k2, P3 k3] n = true := prOk_of _ (may4 _ _ _ _) hn rfl
theorem okc : prOk 7 [P1 k1, P3 k3] n = true := prOk_of _ (may2 _ _) hn rfl
theorem okd : prOk 21 [P1 k1, P3 k3] n = true := prOk_of _ (may2 _ _) hn rfl
theorem oko : prOk 7 [P1 k1] n = true := prOk_of _ (may1 _) hn rfl
end
attribute [local irreducible] prOut prOk may powU opOut opErr pairTo
attribute [local irreducible] Callable CallOK CallG CallM DrawG LoopG symR symM
set_option maxRecDepth 100000 in
set_option maxHeartbeats 8000000 in
theorem pairMore_any (k0 k1 k2 k3 : UInt64) (u : UInt8) (w : World) (hk : LaidK 0 w) (hg : Handle w) :
    Calls Tryd.prog 13 (List.map (Sv.val []) [.x (.a64 [k0, k1, k2, k3]), .x (.a (.v (vU8 u)))]).toArray w fun e w' => e = .returned (.bool true) ∧ Below w.heap.size w w' := by
  refine calls_v (n := 160) Tryd.func13 rfl Tryd.ntmps13 [.x (.a64 [k0, k1, k2, k3]), .x (.a (.v (vU8 u)))] (by simp) (.x (.a (.v (.bool true)))) (fun _ => rfl) ?_
  obtain ⟨n, hd, hn⟩ := n8_rem u 33 (by decide)
  have hn : n ≤ 32 := by have : n < 33 := hn; omega
  have bn : inU8 (n : Int) := ⟨by omega, by omega⟩
  simp only [hd, bn, undef, push_cast, ↓Int.toNat_natCast, ↓Int.cast_ofNat_Int, Int.cast_ofNat_Int, ↓reduceIte, reduceCtorEq, Nat.reduceEqDiff, Nat.reduceLT, Nat.reduceLeDiff, Nat.reduceAdd, Nat.reduceSub, Nat.reduceMul, Int.reduceNeg, Int.reduceLE, Int.reduceLT, Int.reduceToNat, Int.reduceAdd, Int.reduceSub, Int.reduceMul, Int.reduceEq]
  (repeat (refine And.intro (by first | omega | decide) ?_))
  refine loop_ghostN 6 87 2 (.c []) (by omega) rfl rfl (by simp only [push_cast, ↓Int.toNat_natCast, ↓Int.cast_ofNat_Int, Int.cast_ofNat_Int, ↓reduceIte, reduceCtorEq, Nat.reduceEqDiff, Nat.reduceLT, Nat.reduceLeDiff, Nat.reduceAdd, Nat.reduceSub, Nat.reduceMul, Int.reduceNeg, Int.reduceLE, Int.reduceLT, Int.reduceToNat, Int.reduceAdd, Int.reduceSub, Int.reduceMul, Int.reduceEq]) ?_
  refine loop_rule (ι := Nat) (fun i => ⟨[(2, .x (.a (.p 0 0))), (5, .x (.a (.v (.int .i64 n)))), (6, .x (.a (.o 1))), (7, .x (.a (.v (.int .i64 i))))], [.blk 85 (.u64 [k0, k1, k2, k3]), .onn 87 2 (.c (pcs ([P0 k0, P1 k1, P2 k2, P3 k3].take i)))]⟩) (fun i => i ≤ 4) (fun i => 4 - i) 0 [0, 1] (by omega) ?_ ?_
  · simp only [List.take_zero, pcs_nil, push_cast, ↓Int.toNat_natCast, ↓Int.cast_ofNat_Int, Int.cast_ofNat_Int, ↓reduceIte, reduceCtorEq, Nat.reduceEqDiff, Nat.reduceLT, Nat.reduceLeDiff, Nat.reduceAdd, Nat.reduceSub, Nat.reduceMul, Int.reduceNeg, Int.reduceLE, Int.reduceLT, Int.reduceToNat, Int.reduceAdd, Int.reduceSub, Int.reduceMul, Int.reduceEq]
  · intro i hi
    by_cases hlt : (i : Int) < 4
    · have i0 : (0 : Int) ≤ i := by omega
      have ht := pcs_take [P0 k0, P1 k1, P2 k2, P3 k3] i (by simp; omega)
      rw [ix4 _ _ _ _ i (by omega)] at ht
      have hlen : ([P0 k0, P1 k1, P2 k2, P3 k3].take i).length = i := by rw [List.length_take]; simp; omega
      simp only [hlt, i0, undef, push_cast, ↓Int.toNat_natCast, ↓Int.cast_ofNat_Int, Int.cast_ofNat_Int, ↓reduceIte, reduceCtorEq, Nat.reduceEqDiff, Nat.reduceLT, Nat.reduceLeDiff, Nat.reduceAdd, Nat.reduceSub, Nat.reduceMul, Int.reduceNeg, Int.reduceLE, Int.reduceLT, Int.reduceToNat, Int.reduceAdd, Int.reduceSub, Int.reduceMul, Int.reduceEq]
      (repeat (refine And.intro (by first | omega | decide) ?_))
      refine callG_v rfl cb50 rfl (publicK _) (dOk_lt rfl) ?_
      simp only [hlt, i0, hlen, ht, undef, push_cast, ↓Int.toNat_natCast, ↓Int.cast_ofNat_Int, Int.cast_ofNat_Int, ↓reduceIte, reduceCtorEq, Nat.reduceEqDiff, Nat.reduceLT, Nat.reduceLeDiff, Nat.reduceAdd, Nat.reduceSub, Nat.reduceMul, Int.reduceNeg, Int.reduceLE, Int.reduceLT, Int.reduceToNat, Int.reduceAdd, Int.reduceSub, Int.reduceMul, Int.reduceEq]
      (repeat (refine And.intro (by first | omega | decide) ?_))
      refine loopK_normal (i + 1) [0, 3] (by omega) (by omega) ?_
      simp only [push_cast, ↓Int.toNat_natCast, ↓Int.cast_ofNat_Int, Int.cast_ofNat_Int, ↓reduceIte, reduceCtorEq, Nat.reduceEqDiff, Nat.reduceLT, Nat.reduceLeDiff, Nat.reduceAdd, Nat.reduceSub, Nat.reduceMul, Int.reduceNeg, Int.reduceLE, Int.reduceLT, Int.reduceToNat, Int.reduceAdd, Int.reduceSub, Int.reduceMul, Int.reduceEq]
    · have e : i = 4 := by omega
      subst e
      simp only [hlt, List.take_succ_cons, List.take_zero, pcs4, undef, push_cast, ↓Int.toNat_natCast, ↓Int.cast_ofNat_Int, Int.cast_ofNat_Int, ↓reduceIte, reduceCtorEq, Nat.reduceEqDiff, Nat.reduceLT, Nat.reduceLeDiff, Nat.reduceAdd, Nat.reduceSub, Nat.reduceMul, Int.reduceNeg, Int.reduceLE, Int.reduceLT, Int.reduceToNat, Int.reduceAdd, Int.reduceSub, Int.reduceMul, Int.reduceEq]
      have oa : prErr 7 [P0 k0, P1 k1, P2 k2] n = .nilIface := prErr_yes (oka k0 k1 k2 n hn)
      have ob : prErr 7 [P0 k0, P1 k1, P2 k2, P3 k3] n = .nilIface := prErr_yes (okb k0 k1 k2 k3 n hn)
      have oc : prErr 7 [P1 k1, P3 k3] n = .nilIface := prErr_yes (okc k1 k3 n hn)
      have od : prErr 21 [P1 k1, P3 k3] n = .nilIface := prErr_yes (okd k1 k3 n hn)
      have oo : prErr 7 [P1 k1] n = .nilIface := prErr_yes (oko k1 n hn)
      have ea : prOut 7 k1 [P0 k0, P1 k1, P2 k2] n = pairTo 7 k1 [P0 k0, P1 k1, P2 k2] n 3 := prTo_eq (oka k0 k1 k2 n hn)
      have eb : prOut 7 k1 [P0 k0, P1 k1, P2 k2, P3 k3] n = pairTo 7 k1 [P0 k0, P1 k1, P2 k2, P3 k3] n 4 := prTo_eq (okb k0 k1 k2 k3 n hn)
      have ec : prOut 7 k1 [P1 k1, P3 k3] n = pairTo 7 k1 [P1 k1, P3 k3] n 2 := prTo_eq (okc k1 k3 n hn)
      have ed : prOut 21 k3 [P1 k1, P3 k3] n = pairTo 21 k3 [P1 k1, P3 k3] n 2 := prTo_eq (okd k1 k3 n hn)
      have eo : prOut 7 k1 [P1 k1] n = List.replicate n 0 := (prTo_eq (oko k1 n hn)).trans (o_all k1 n)
      have la := pairTo_length 7 k1 [P0 k0, P1 k1, P2 k2] n 3
      have lb := pairTo_length 7 k1 [P0 k0, P1 k1, P2 k2, P3 k3] n 4
      have lc := pairTo_length 7 k1 [P1 k1, P3 k3] n 2
      have ld := pairTo_length 21 k3 [P1 k1, P3 k3] n 2
      have qac := opOk_len la lc hn
      have qcd := opOk_len lc ld hn
      have s1 : opErr (pairTo 7 k1 [P0 k0, P1 k1, P2 k2] n 3) (pairTo 7 k1 [P1 k1, P3 k3] n 2) = .nilIface := opErr_yes qac
      have s2 : opErr (pairTo 7 k1 [P1 k1, P3 k3] n 2) (pairTo 21 k3 [P1 k1, P3 k3] n 2) = .nilIface := opErr_yes qcd
      have okac : opOut (· + ·) (pairTo 7 k1 [P0 k0, P1 k1, P2 k2] n 3) (pairTo 7 k1 [P1 k1, P3 k3] n 2) = pairTo 7 k1 [P0 k0, P1 k1, P2 k2, P3 k3] n 4 := by rw [opOut_yes qac, la]; exact ac_b k0 k1 k2 k3 n
      have okcd : opOut (· + ·) (pairTo 7 k1 [P1 k1, P3 k3] n 2) (pairTo 21 k3 [P1 k1, P3 k3] n 2) = List.replicate n 0 := by rw [opOut_yes qcd, lc]; exact cd_z k1 k3 n
      have ez : zOut n = List.replicate n 0 := by unfold zOut; rw [zOk_yes (by omega) (by omega), Int.toNat_natCast]; rfl
      have eze : zErr n = .nilIface := by unfold zErr; rw [zOk_yes (by omega) (by omega)]; rfl
      (repeat (refine And.intro (by first | omega | decide) ?_))
      refine draw_rule [(0, true), (1, true), (2, true), (3, true), (4, true), (5, false), (6, true), (7, true), (8, true), (9, true), (10, true)] (by kernel_rfl) (by kernel_rfl) rfl (by kernel_rfl) ?_
      simp (config := { maxSteps := 600000 }) only [ea, eb, ec, ed, eo, ez, eze, oa, ob, oc, od, oo, okac, okcd, s1, s2, undef, beq_self_eq_true, push_cast, ↓Int.toNat_natCast, ↓Int.cast_ofNat_Int, Int.cast_ofNat_Int, ↓reduceIte, reduceCtorEq, Nat.reduceEqDiff, Nat.reduceLT, Nat.reduceLeDiff, Nat.reduceAdd, Nat.reduceSub, Nat.reduceMul, Int.reduceNeg, Int.reduceLE, Int.reduceLT, Int.reduceToNat, Int.reduceAdd, Int.reduceSub, Int.reduceMul, Int.reduceEq]
      (repeat (refine And.intro (by first | omega | decide) ?_))
      refine callM_x rfl cb46 rfl (pairRowOK (l := [P0 k0, P1 k1, P2 k2]) 7 k1 n (y3 k0 k1 k2 k3 rfl fun _ => rfl) hk (by simp only [push_cast, ↓Int.toNat_natCast, ↓Int.cast_ofNat_Int, Int.cast_ofNat_Int, ↓reduceIte, reduceCtorEq, Nat.reduceEqDiff, Nat.reduceLT, Nat.reduceLeDiff, Nat.reduceAdd, Nat.reduceSub, Nat.reduceMul, Int.reduceNeg, Int.reduceLE, Int.reduceLT, Int.reduceToNat, Int.reduceAdd, Int.reduceSub, Int.reduceMul, Int.reduceEq])) (dOk_lt rfl) (by simp only [push_cast, ↓Int.toNat_natCast, ↓Int.cast_ofNat_Int, Int.cast_ofNat_Int, ↓reduceIte, reduceCtorEq, Nat.reduceEqDiff, Nat.reduceLT, Nat.reduceLeDiff, Nat.reduceAdd, Nat.reduceSub, Nat.reduceMul, Int.reduceNeg, Int.reduceLE, Int.reduceLT, Int.reduceToNat, Int.reduceAdd, Int.reduceSub, Int.reduceMul, Int.reduceEq]) ?_
      simp (config := { maxSteps := 600000 }) only [ea, eb, ec, ed, eo, ez, eze, oa, ob, oc, od, oo, okac, okcd, s1, s2, undef, beq_self_eq_true, push_cast, ↓Int.toNat_natCast, ↓Int.cast_ofNat_Int, Int.cast_ofNat_Int, ↓reduceIte, reduceCtorEq, Nat.reduceEqDiff, Nat.reduceLT, Nat.reduceLeDiff, Nat.reduceAdd, Nat.reduceSub, Nat.reduceMul, Int.reduceNeg, Int.reduceLE, Int.reduceLT, Int.reduceToNat, Int.reduceAdd, Int.reduceSub, Int.reduceMul, Int.reduceEq]
      (repeat (refine And.intro (by first | omega | decide) ?_))
      refine callG_x rfl cb46 rfl (pairRowOK (l := [P0 k0, P1 k1, P2 k2, P3 k3]) 7 k1 n (showsR_onn rfl (fun _ => rfl) rfl) hk (by simp only [push_cast, ↓Int.toNat_natCast, ↓Int.cast_ofNat_Int, Int.cast_ofNat_Int, ↓reduceIte, reduceCtorEq, Nat.reduceEqDiff, Nat.reduceLT, Nat.reduceLeDiff, Nat.reduceAdd, Nat.reduceSub, Nat.reduceMul, Int.reduceNeg, Int.reduceLE, Int.reduceLT, Int.reduceToNat, Int.reduceAdd, Int.reduceSub, Int.reduceMul, Int.reduceEq])) (dOk_lt rfl) (by simp only [push_cast, ↓Int.toNat_natCast, ↓Int.cast_ofNat_Int, Int.cast_ofNat_Int, ↓reduceIte, reduceCtorEq, Nat.reduceEqDiff, Nat.reduceLT, Nat.reduceLeDiff, Nat.reduceAdd, Nat.reduceSub, Nat.reduceMul, Int.reduceNeg, Int.reduceLE, Int.reduceLT, Int.reduceToNat, Int.reduceAdd, Int.reduceSub, Int.reduceMul, Int.reduceEq]) ?_
      simp (config := { maxSteps := 600000 }) only [ea, eb, ec, ed, eo, ez, eze, oa, ob, oc, od, oo, okac, okcd, s1, s2, undef, beq_self_eq_true, push_cast, ↓Int.toNat_natCast, ↓Int.cast_ofNat_Int, Int.cast_ofNat_Int, ↓reduceIte, reduceCtorEq, Nat.reduceEqDiff, Nat.reduceLT, Nat.reduceLeDiff, Nat.reduceAdd, Nat.reduceSub, Nat.reduceMul, Int.reduceNeg, Int.reduceLE, Int.reduceLT, Int.reduceToNat, Int.reduceAdd, Int.reduceSub, Int.reduceMul, Int.reduceEq]
      (repeat (refine And.intro (by first | omega | decide) ?_))
      refine draw_rule [(0, true), (1, true), (2, true), (3, true), (4, true), (5, true), (6, true), (7, true), (9, true), (8, false), (10, false), (11, true), (12, true), (13, true), (14, true), (15, true)] (by kernel_rfl) (by kernel_rfl) rfl (by kernel_rfl) ?_
      simp (config := { maxSteps := 600000 }) only [ea, eb, ec, ed, eo, ez, eze, oa, ob, oc, od, oo, okac, okcd, s1, s2, undef, beq_self_eq_true, push_cast, ↓Int.toNat_natCast, ↓Int.cast_ofNat_Int, Int.cast_ofNat_Int, ↓reduceIte, reduceCtorEq, Nat.reduceEqDiff, Nat.reduceLT, Nat.reduceLeDiff, Nat.reduceAdd, Nat.reduceSub, Nat.reduceMul, Int.reduceNeg, Int.reduceLE, Int.reduceLT, Int.reduceToNat, Int.reduceAdd, Int.reduceSub, Int.reduceMul, Int.reduceEq]
      (repeat (refine And.intro (by first | omega | decide) ?_))
      refine callM_x rfl cb46 rfl (pairRowOK (l := [P1 k1, P3 k3]) 7 k1 n (showsR_onn rfl (fun _ => rfl) rfl) hk (by simp only [push_cast, ↓Int.toNat_natCast, ↓Int.cast_ofNat_Int, Int.cast_ofNat_Int, ↓reduceIte, reduceCtorEq, Nat.reduceEqDiff, Nat.reduceLT, Nat.reduceLeDiff, Nat.reduceAdd, Nat.reduceSub, Nat.reduceMul, Int.reduceNeg, Int.reduceLE, Int.reduceLT, Int.reduceToNat, Int.reduceAdd, Int.reduceSub, Int.reduceMul, Int.reduceEq])) (dOk_lt rfl) (by simp only [push_cast, ↓Int.toNat_natCast, ↓Int.cast_ofNat_Int, Int.cast_ofNat_Int, ↓reduceIte, reduceCtorEq, Nat.reduceEqDiff, Nat.reduceLT, Nat.reduceLeDiff, Nat.reduceAdd, Nat.reduceSub, Nat.reduceMul, Int.reduceNeg, Int.reduceLE, Int.reduceLT, Int.reduceToNat, Int.reduceAdd, Int.reduceSub, Int.reduceMul, Int.reduceEq]) ?_
      simp (config := { maxSteps := 600000 }) only [ea, eb, ec, ed, eo, ez, eze, oa, ob, oc, od, oo, okac, okcd, s1, s2, undef, beq_self_eq_true, push_cast, ↓Int.toNat_natCast, ↓Int.cast_ofNat_Int, Int.cast_ofNat_Int, ↓reduceIte, reduceCtorEq, Nat.reduceEqDiff, Nat.reduceLT, Nat.reduceLeDiff, Nat.reduceAdd, Nat.reduceSub, Nat.reduceMul, Int.reduceNeg, Int.reduceLE, Int.reduceLT, Int.reduceToNat, Int.reduceAdd, Int.reduceSub, Int.reduceMul, Int.reduceEq]
      (repeat (refine And.intro (by first | omega | decide) ?_))
      refine draw_rule [(0, true), (1, true), (2, true), (3, true), (4, true), (5, true), (6, true), (7, true), (9, true), (8, false), (10, false), (11, true), (12, true), (13, true), (14, true), (15, true)] (by kernel_rfl) (by kernel_rfl) rfl (by kernel_rfl) ?_
      simp (config := { maxSteps := 600000 }) only [ea, eb, ec, ed, eo, ez, eze, oa, ob, oc, od, oo, okac, okcd, s1, s2, undef, beq_self_eq_true, push_cast, ↓Int.toNat_natCast, ↓Int.cast_ofNat_Int, Int.cast_ofNat_Int, ↓reduceIte, reduceCtorEq, Nat.reduceEqDiff, Nat.reduceLT, Nat.reduceLeDiff, Nat.reduceAdd, Nat.reduceSub, Nat.reduceMul, Int.reduceNeg, Int.reduceLE, Int.reduceLT, Int.reduceToNat, Int.reduceAdd, Int.reduceSub, Int.reduceMul, Int.reduceEq]
      (repeat (refine And.intro (by first | omega | decide) ?_))
      refine callM_x rfl cb46 rfl (pairRowOK (l := [P1 k1, P3 k3]) 21 k3 n (showsR_onn rfl (fun _ => rfl) rfl) hk (by simp only [push_cast, ↓Int.toNat_natCast, ↓Int.cast_ofNat_Int, Int.cast_ofNat_Int, ↓reduceIte, reduceCtorEq, Nat.reduceEqDiff, Nat.reduceLT, Nat.reduceLeDiff, Nat.reduceAdd, Nat.reduceSub, Nat.reduceMul, Int.reduceNeg, Int.reduceLE, Int.reduceLT, Int.reduceToNat, Int.reduceAdd, Int.reduceSub, Int.reduceMul, Int.reduceEq])) (dOk_lt rfl) (by simp only [push_cast, ↓Int.toNat_natCast, ↓Int.cast_ofNat_Int, Int.cast_ofNat_Int, ↓reduceIte, reduceCtorEq, Nat.reduceEqDiff, Nat.reduceLT, Nat.reduceLeDiff, Nat.reduceAdd, Nat.reduceSub, Nat.reduceMul, Int.reduceNeg, Int.reduceLE, Int.reduceLT, Int.reduceToNat, Int.reduceAdd, Int.reduceSub, Int.reduceMul, Int.reduceEq]) ?_
      simp (config := { maxSteps := 600000 }) only [ea, eb, ec, ed, eo, ez, eze, oa, ob, oc, od, oo, okac, okcd, s1, s2, undef, beq_self_eq_true, push_cast, ↓Int.toNat_natCast, ↓Int.cast_ofNat_Int, Int.cast_ofNat_Int, ↓reduceIte, reduceCtorEq, Nat.reduceEqDiff, Nat.reduceLT, Nat.reduceLeDiff, Nat.reduceAdd, Nat.reduceSub, Nat.reduceMul, Int.reduceNeg, Int.reduceLE, Int.reduceLT, Int.reduceToNat, Int.reduceAdd, Int.reduceSub, Int.reduceMul, Int.reduceEq]
      (repeat (refine And.intro (by first | omega | decide) ?_))
      refine callG_x rfl cb55 rfl (vecAddOK (a := pairTo 7 k1 [P0 k0, P1 k1, P2 k2] n 3) (b := pairTo 7 k1 [P1 k1, P3 k3] n 2) (shows_own rfl fun _ => rfl) (shows_own rfl fun _ => rfl) (by simp only [push_cast, ↓Int.toNat_natCast, ↓Int.cast_ofNat_Int, Int.cast_ofNat_Int, ↓reduceIte, reduceCtorEq, Nat.reduceEqDiff, Nat.reduceLT, Nat.reduceLeDiff, Nat.reduceAdd, Nat.reduceSub, Nat.reduceMul, Int.reduceNeg, Int.reduceLE, Int.reduceLT, Int.reduceToNat, Int.reduceAdd, Int.reduceSub, Int.reduceMul, Int.reduceEq])) (dOk_lt rfl) (by simp only [push_cast, ↓Int.toNat_natCast, ↓Int.cast_ofNat_Int, Int.cast_ofNat_Int, ↓reduceIte, reduceCtorEq, Nat.reduceEqDiff, Nat.reduceLT, Nat.reduceLeDiff, Nat.reduceAdd, Nat.reduceSub, Nat.reduceMul, Int.reduceNeg, Int.reduceLE, Int.reduceLT, Int.reduceToNat, Int.reduceAdd, Int.reduceSub, Int.reduceMul, Int.reduceEq]) ?_
      simp (config := { maxSteps := 600000 }) only [ea, eb, ec, ed, eo, ez, eze, oa, ob, oc, od, oo, okac, okcd, s1, s2, undef, beq_self_eq_true, push_cast, ↓Int.toNat_natCast, ↓Int.cast_ofNat_Int, Int.cast_ofNat_Int, ↓reduceIte, reduceCtorEq, Nat.reduceEqDiff, Nat.reduceLT, Nat.reduceLeDiff, Nat.reduceAdd, Nat.reduceSub, Nat.reduceMul, Int.reduceNeg, Int.reduceLE, Int.reduceLT, Int.reduceToNat, Int.reduceAdd, Int.reduceSub, Int.reduceMul, Int.reduceEq]
      (repeat (refine And.intro (by first | omega | decide) ?_))
      refine callG_x rfl cb55 rfl (vecAddOK (a := pairTo 7 k1 [P1 k1, P3 k3] n 2) (b := pairTo 21 k3 [P1 k1, P3 k3] n 2) (shows_own rfl fun _ => rfl) (shows_own rfl fun _ => rfl) (by simp only [push_cast, ↓Int.toNat_natCast, ↓Int.cast_ofNat_Int, Int.cast_ofNat_Int, ↓reduceIte, reduceCtorEq, Nat.reduceEqDiff, Nat.reduceLT, Nat.reduceLeDiff, Nat.reduceAdd, Nat.reduceSub, Nat.reduceMul, Int.reduceNeg, Int.reduceLE, Int.reduceLT, Int.reduceToNat, Int.reduceAdd, Int.reduceSub, Int.reduceMul, Int.reduceEq])) (dOk_lt rfl) (by simp only [push_cast, ↓Int.toNat_natCast, ↓Int.cast_ofNat_Int, Int.cast_ofNat_Int, ↓reduceIte, reduceCtorEq, Nat.reduceEqDiff, Nat.reduceLT, Nat.reduceLeDiff, Nat.reduceAdd, Nat.reduceSub, Nat.reduceMul, Int.reduceNeg, Int.reduceLE, Int.reduceLT, Int.reduceToNat, Int.reduceAdd, Int.reduceSub, Int.reduceMul, Int.reduceEq]) ?_
      simp (config := { maxSteps := 600000 }) only [ea, eb, ec, ed, eo, ez, eze, oa, ob, oc, od, oo, okac, okcd, s1, s2, undef, beq_self_eq_true, push_cast, ↓Int.toNat_natCast, ↓Int.cast_ofNat_Int, Int.cast_ofNat_Int, ↓reduceIte, reduceCtorEq, Nat.reduceEqDiff, Nat.reduceLT, Nat.reduceLeDiff, Nat.reduceAdd, Nat.reduceSub, Nat.reduceMul, Int.reduceNeg, Int.reduceLE, Int.reduceLT, Int.reduceToNat, Int.reduceAdd, Int.reduceSub, Int.reduceMul, Int.reduceEq]
      (repeat (refine And.intro (by first | omega | decide) ?_))
      refine callG_x rfl cb56 rfl (zero02OK n (by simp only [push_cast, ↓Int.toNat_natCast, ↓Int.cast_ofNat_Int, Int.cast_ofNat_Int, ↓reduceIte, reduceCtorEq, Nat.reduceEqDiff, Nat.reduceLT, Nat.reduceLeDiff, Nat.reduceAdd, Nat.reduceSub, Nat.reduceMul, Int.reduceNeg, Int.reduceLE, Int.reduceLT, Int.reduceToNat, Int.reduceAdd, Int.reduceSub, Int.reduceMul, Int.reduceEq])) (dOk_lt rfl) (by simp only [push_cast, ↓Int.toNat_natCast, ↓Int.cast_ofNat_Int, Int.cast_ofNat_Int, ↓reduceIte, reduceCtorEq, Nat.reduceEqDiff, Nat.reduceLT, Nat.reduceLeDiff, Nat.reduceAdd, Nat.reduceSub, Nat.reduceMul, Int.reduceNeg, Int.reduceLE, Int.reduceLT, Int.reduceToNat, Int.reduceAdd, Int.reduceSub, Int.reduceMul, Int.reduceEq]) ?_
      simp (config := { maxSteps := 600000 }) only [ea, eb, ec, ed, eo, ez, eze, oa, ob, oc, od, oo, okac, okcd, s1, s2, undef, beq_self_eq_true, push_cast, ↓Int.toNat_natCast, ↓Int.cast_ofNat_Int, Int.cast_ofNat_Int, ↓reduceIte, reduceCtorEq, Nat.reduceEqDiff, Nat.reduceLT, Nat.reduceLeDiff, Nat.reduceAdd, Nat.reduceSub, Nat.reduceMul, Int.reduceNeg, Int.reduceLE, Int.reduceLT, Int.reduceToNat, Int.reduceAdd, Int.reduceSub, Int.reduceMul, Int.reduceEq]
      (repeat (refine And.intro (by first | omega | decide) ?_))
      refine draw_rule [(0, true), (1, true), (2, true), (3, true), (4, true), (5, false), (6, true), (7, true), (8, true), (9, true), (10, true)] (by kernel_rfl) (by kernel_rfl) rfl (by kernel_rfl) ?_
      simp (config := { maxSteps := 600000 }) only [ea, eb, ec, ed, eo, ez, eze, oa, ob, oc, od, oo, okac, okcd, s1, s2, undef, beq_self_eq_true, push_cast, ↓Int.toNat_natCast, ↓Int.cast_ofNat_Int, Int.cast_ofNat_Int, ↓reduceIte, reduceCtorEq, Nat.reduceEqDiff, Nat.reduceLT, Nat.reduceLeDiff, Nat.reduceAdd, Nat.reduceSub, Nat.reduceMul, Int.reduceNeg, Int.reduceLE, Int.reduceLT, Int.reduceToNat, Int.reduceAdd, Int.reduceSub, Int.reduceMul, Int.reduceEq]
      (repeat (refine And.intro (by first | omega | decide) ?_))
      refine callM_x rfl cb46 rfl (pairRowOK (l := [P1 k1]) 7 k1 n (y1 k0 k1 k2 k3 rfl fun _ => rfl) hk (by simp only [push_cast, ↓Int.toNat_natCast, ↓Int.cast_ofNat_Int, Int.cast_ofNat_Int, ↓reduceIte, reduceCtorEq, Nat.reduceEqDiff, Nat.reduceLT, Nat.reduceLeDiff, Nat.reduceAdd, Nat.reduceSub, Nat.reduceMul, Int.reduceNeg, Int.reduceLE, Int.reduceLT, Int.reduceToNat, Int.reduceAdd, Int.reduceSub, Int.reduceMul, Int.reduceEq])) (dOk_lt rfl) (by simp only [push_cast, ↓Int.toNat_natCast, ↓Int.cast_ofNat_Int, Int.cast_ofNat_Int, ↓reduceIte, reduceCtorEq, Nat.reduceEqDiff, Nat.reduceLT, Nat.reduceLeDiff, Nat.reduceAdd, Nat.reduceSub, Nat.reduceMul, Int.reduceNeg, Int.reduceLE, Int.reduceLT, Int.reduceToNat, Int.reduceAdd, Int.reduceSub, Int.reduceMul, Int.reduceEq]) ?_
      simp (config := { maxSteps := 600000 }) only [ea, eb, ec, ed, eo, ez, eze, oa, ob, oc, od, oo, okac, okcd, s1, s2, undef, beq_self_eq_true, push_cast, ↓Int.toNat_natCast, ↓Int.cast_ofNat_Int, Int.cast_ofNat_Int, ↓reduceIte, reduceCtorEq, Nat.reduceEqDiff, Nat.reduceLT, Nat.reduceLeDiff, Nat.reduceAdd, Nat.reduceSub, Nat.reduceMul, Int.reduceNeg, Int.reduceLE, Int.reduceLT, Int.reduceToNat, Int.reduceAdd, Int.reduceSub, Int.reduceMul, Int.reduceEq]
      (repeat (refine And.intro (by first | omega | decide) ?_))
      refine callG_v rfl cb44 rfl (same32OK (a := pairTo 7 k1 [P0 k0, P1 k1, P2 k2, P3 k3] n 4) (b := pairTo 7 k1 [P0 k0, P1 k1, P2 k2, P3 k3] n 4) (by omega) (shows_own rfl fun _ => rfl) (shows_own rfl fun _ => rfl)) (dOk_lt rfl) ?_
      simp (config := { maxSteps := 600000 }) only [ea, eb, ec, ed, eo, ez, eze, oa, ob, oc, od, oo, okac, okcd, s1, s2, undef, beq_self_eq_true, push_cast, ↓Int.toNat_natCast, ↓Int.cast_ofNat_Int, Int.cast_ofNat_Int, ↓reduceIte, reduceCtorEq, Nat.reduceEqDiff, Nat.reduceLT, Nat.reduceLeDiff, Nat.reduceAdd, Nat.reduceSub, Nat.reduceMul, Int.reduceNeg, Int.reduceLE, Int.reduceLT, Int.reduceToNat, Int.reduceAdd, Int.reduceSub, Int.reduceMul, Int.reduceEq]
      (repeat (refine And.intro (by first | omega | decide) ?_))
      refine callG_v rfl cb44 rfl (same32OK (a := List.replicate n 0) (b := List.replicate n 0) (by rw [List.length_replicate]; omega) (shows_own rfl fun _ => rfl) (shows_own rfl fun _ => rfl)) (dOk_lt rfl) ?_
      simp (config := { maxSteps := 600000 }) only [ea, eb, ec, ed, eo, ez, eze, oa, ob, oc, od, oo, okac, okcd, s1, s2, undef, beq_self_eq_true, push_cast, ↓Int.toNat_natCast, ↓Int.cast_ofNat_Int, Int.cast_ofNat_Int, ↓reduceIte, reduceCtorEq, Nat.reduceEqDiff, Nat.reduceLT, Nat.reduceLeDiff, Nat.reduceAdd, Nat.reduceSub, Nat.reduceMul, Int.reduceNeg, Int.reduceLE, Int.reduceLT, Int.reduceToNat, Int.reduceAdd, Int.reduceSub, Int.reduceMul, Int.reduceEq]
      (repeat (refine And.intro (by first | omega | decide) ?_))
      refine callG_v rfl cb44 rfl (same32OK (a := List.replicate n 0) (b := List.replicate n 0) (by rw [List.length_replicate]; omega) (shows_own rfl fun _ => rfl) (shows_own rfl fun _ => rfl)) (dOk_lt rfl) ?_
      simp (config := { maxSteps := 600000 }) only [ea, eb, ec, ed, eo, ez, eze, oa, ob, oc, od, oo, okac, okcd, s1, s2, undef, beq_self_eq_true, push_cast, ↓Int.toNat_natCast, ↓Int.cast_ofNat_Int, Int.cast_ofNat_Int, ↓reduceIte, reduceCtorEq, Nat.reduceEqDiff, Nat.reduceLT, Nat.reduceLeDiff, Nat.reduceAdd, Nat.reduceSub, Nat.reduceMul, Int.reduceNeg, Int.reduceLE, Int.reduceLT, Int.reduceToNat, Int.reduceAdd, Int.reduceSub, Int.reduceMul, Int.reduceEq]
      (repeat (refine And.intro (by first | omega | decide) ?_))
      refine callG_v rfl cb45 rfl (sure09OK hk hg) (dOk_lt rfl) ?_
      simp (config := { maxSteps := 600000 }) only [ea, eb, ec, ed, eo, ez, eze, oa, ob, oc, od, oo, okac, okcd, s1, s2, undef, beq_self_eq_true, push_cast, ↓Int.toNat_natCast, ↓Int.cast_ofNat_Int, Int.cast_ofNat_Int, ↓reduceIte, reduceCtorEq, Nat.reduceEqDiff, Nat.reduceLT, Nat.reduceLeDiff, Nat.reduceAdd, Nat.reduceSub, Nat.reduceMul, Int.reduceNeg, Int.reduceLE, Int.reduceLT, Int.reduceToNat, Int.reduceAdd, Int.reduceSub, Int.reduceMul, Int.reduceEq]
      (repeat (refine And.intro (by first | omega | decide) ?_))
end Go.Proofs.YtkchdhkpjnnliaaDoor
