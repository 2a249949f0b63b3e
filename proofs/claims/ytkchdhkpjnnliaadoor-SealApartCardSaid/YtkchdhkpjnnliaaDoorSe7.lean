/- The walk of law 8's SealApart, by the engine. -/
import Derived.Test.YtkchdhkpjnnliaaDoorSe4
import Derived.Test.YtkchdhkpjnnliaaDoorSe6
import Derived.Laws.Strings
namespace Go.Proofs.YtkchdhkpjnnliaaDoor
open Go.RowKit
set_option linter.unusedSimpArgs false
/-- A slice of slices, as it stands in an array. -/
structure Ls where
  A : Option Addr
  c : Nat
  L : List Sl
deriving Inhabited
structure Good (w : World) (X : Ls) : Prop where
  rd : FV w No X.A (X.L.map Sl.val)
  each : ∀ x ∈ X.L, FV w No x.A (x.l.map vU8)
theorem getD_two (X Y : Ls) (k : Nat) (h : k < 2) : List.getD [At.v (.slice X.A X.L.length X.c), At.v (.slice Y.A Y.L.length Y.c)] k (.v undef) = .v (.slice (ix [X, Y] k).A (ix [X, Y] k).L.length (ix [X, Y] k).c) := by
  match k, h with
  | 0, _ => rfl
  | 1, _ => rfl
theorem good_two {w : World} {X Y : Ls} (hX : Good w X) (hY : Good w Y) (k : Nat) (h : k < 2) : Good w (ix [X, Y] k) := by
  match k, h with
  | 0, _ => exact hX
  | 1, _ => exact hY
/-- The four texts. -/
def txs (X Y : Ls) (a0 a1 b0 b1 : UInt64) : List (List UInt8) := [lsTo X.L X.L.length, lsTo Y.L Y.L.length, sealB a0 a1, sealB b0 b1]
def hitB (T : List (List UInt8)) (i k : Nat) : Bool := decide (ix T i ≠ ix T k) && decide (shaOf (ix T i) = shaOf (ix T k))
def mIn (T : List (List UInt8)) (m : Bool) (i : Nat) : Nat → Bool
  | 0 => m
  | k + 1 => mIn T m i k || hitB T i k
def mTo (T : List (List UInt8)) : Nat → Bool
  | 0 => false
  | i + 1 => mIn T (mTo T i) i i
theorem mTo_zero (T : List (List UInt8)) : mTo T 0 = false := rfl
theorem mTo_succ (T : List (List UInt8)) (i : Nat) : mTo T (i + 1) = mIn T (mTo T i) i i := rfl
theorem mIn_zero (T : List (List UInt8)) (m : Bool) (i : Nat) : mIn T m i 0 = m := rfl
theorem mIn_succ (T : List (List UInt8)) (m : Bool) (i k : Nat) : mIn T m i (k + 1) = (mIn T m i k || hitB T i k) := rfl
theorem mIn_false {T : List (List UInt8)} {m : Bool} {i k : Nat} (h : mIn T m i k = false) : m = false ∧ ∀ j, j < k → hitB T i j = false := by
  induction k with
  | zero => exact ⟨h, fun j hj => by omega⟩
  | succ k ih =>
    rw [mIn_succ, Bool.or_eq_false_iff] at h
    obtain ⟨h1, h2⟩ := ih h.1
    refine ⟨h1, fun j hj => ?_⟩
    by_cases hjk : j = k
    · subst hjk; exact h.2
    · exact h2 j (by omega)
theorem mTo_false {T : List (List UInt8)} {n : Nat} (h : mTo T n = false) : ∀ i, i < n → ∀ k, k < i → hitB T i k = false := by
  induction n with
  | zero => intro i hi; omega
  | succ n ih =>
    rw [mTo_succ] at h
    obtain ⟨h1, h2⟩ := mIn_false h
    intro i hi k hk
    by_cases hin : i = n
    · subst hin; exact h2 k hk
    · exact ih h1 i (by omega) k hk
theorem hit_same {T : List (List UInt8)} {i k : Nat} (h : hitB T i k = false) (hs : shaOf (ix T i) = shaOf (ix T k)) : ix T i = ix T k := by
  by_cases hne : ix T i = ix T k
  · exact hne
  · simp [hitB, hs, hne] at h
/-- What the law says, at its end. -/
theorem apart_law {X Y : Ls} {a0 a1 b0 b1 : UInt64} (hX : Fine X.L) (hY : Fine Y.L) (h : mTo (txs X Y a0 a1 b0 b1) 4 = false) :
    decide (listSum X.L = listSum Y.L) = decide (X.L.map Sl.l = Y.L.map Sl.l) ∧ decide (sealOf a0 a1 = sealOf b0 b1) = decide (([a0, a1] : List UInt64) = [b0, b1]) := by
  constructor
  · rw [decide_eq_decide]
    refine ⟨fun h1 => ?_, fun h1 => ?_⟩
    · have h2 := hit_same (mTo_false h 1 (by omega) 0 (by omega)) h1.symm
      exact (lsTo_inj hY hX h2).symm
    · unfold listSum
      rw [lsTo_same h1]
  · rw [decide_eq_decide]
    refine ⟨fun h1 => ?_, fun h1 => ?_⟩
    · have h2 := hit_same (mTo_false h 3 (by omega) 2 (by omega)) h1.symm
      obtain ⟨rfl, rfl⟩ := sealB_inj h2
      rfl
    · simp only [List.cons.injEq, and_true] at h1
      obtain ⟨rfl, rfl⟩ := h1
      rfl
theorem by_meet {G R : Prop} (p : Prop) (h1 : p → Hid R → G) (h2 : ¬ p → Hid R → G) (hR : R) : G := by
  by_cases h : p
  · exact h1 h (Lib.hid hR)
  · exact h2 h (Lib.hid hR)
theorem loopG_leads {P : Program} {w0 : World} {ow : Nat → Prop} {n : Nat} {c : Code} {s s1 : S} {K : Exit → S → Prop} (hl : Leads w0 ow n s s1) (h : LoopG P w0 ow n c s1 K) : LoopG P w0 ow n c s K := fun a w hf => h a w (hl a w hf)
/-- However a loop is left, all meet in s1. -/
theorem loop_meet {P : Program} {w0 : World} {ow : Nat → Prop} {n : Nat} {c : Code} {s : S} {K : Exit → S → Prop} (e0 : Exit) (s1 : S) (hk : K e0 s1) (h : LoopG P w0 ow n c s (fun e s' => e = e0 ∧ Leads w0 ow n s' s1)) : LoopG P w0 ow n c s K :=
  fun a w hf => wp_mono (h a w hf) fun e a' w' ⟨s', h1, h2, h3⟩ => ⟨s1, h3 _ _ h1, by rw [h2]; exact hk⟩
/-- As far as i, the lists are the same. -/
def smB (X Y : List Sl) (i : Nat) : Bool := decide (X.length = Y.length ∧ ∀ j, j < i → (ix X j).l = (ix Y j).l)
theorem smB_zero (X Y : List Sl) : smB X Y 0 = decide ((X.length : Int) = Y.length) := by
  unfold smB
  rw [decide_eq_decide]
  exact ⟨fun h => by omega, fun h => ⟨by omega, fun j hj => by omega⟩⟩
theorem smB_true {X Y : List Sl} {i : Nat} (h : smB X Y i = true) : X.length = Y.length ∧ ∀ j, j < i → (ix X j).l = (ix Y j).l := of_decide_eq_true h
theorem bstr_cmp (a b : List UInt8) : ((bstr a).toList == (bstr b).toList) = decide (a = b) := by
  rw [ByteArray.toList_eq, ByteArray.toList_eq]
  show (a == b) = decide (a = b)
  by_cases h : a = b
  · subst h; simp
  · rw [decide_eq_false h, beq_eq_false_iff_ne]
    exact h
theorem smB_succ {X Y : List Sl} {i : Nat} (h : smB X Y i = true) : smB X Y (i + 1) = ((bstr (ix X i).l).toList == (bstr (ix Y i).l).toList) := by
  obtain ⟨h1, h2⟩ := smB_true h
  rw [bstr_cmp]
  unfold smB
  rw [decide_eq_decide]
  refine ⟨fun h3 => h3.2 i (by omega), fun h3 => ⟨h1, fun j hj => ?_⟩⟩
  by_cases hji : j = i
  · subst hji; exact h3
  · exact h2 j (by omega)
theorem ix_mapl (L : List Sl) (i : Nat) (h : i < L.length) : (L.map Sl.l)[i]? = some (ix L i).l := by
  rw [List.getElem?_map, List.getElem?_eq_getElem h]
  simp [ix, List.getD_eq_getElem?_getD, List.getElem?_eq_getElem h]
theorem smB_end (X Y : List Sl) (i : Nat) (h : i = X.length ∨ smB X Y i = false) (hi : i ≤ X.length) : smB X Y i = decide (X.map Sl.l = Y.map Sl.l) := by
  have back : X.map Sl.l = Y.map Sl.l → smB X Y i = true := fun he => by
    have hl : X.length = Y.length := by simpa using congrArg List.length he
    refine decide_eq_true ⟨hl, fun j hj => ?_⟩
    have h1 := ix_mapl X j (by omega)
    have h2 := ix_mapl Y j (by omega)
    rw [he, h2] at h1
    exact (Option.some.inj h1).symm
  rw [Bool.eq_iff_iff, decide_eq_true_eq]
  refine ⟨fun h1 => ?_, back⟩
  rcases h with rfl | h
  · obtain ⟨h2, h3⟩ := smB_true h1
    apply List.ext_getElem?
    intro j
    by_cases hj : j < X.length
    · rw [ix_mapl X j hj, ix_mapl Y j (by omega), h3 j hj]
    · rw [List.getElem?_eq_none (by simpa using Nat.le_of_not_lt hj), List.getElem?_eq_none (by simp; omega)]
  · rw [h] at h1; cases h1
attribute [local irreducible] lsTo sealOf listSum
set_option maxRecDepth 100000 in
set_option maxHeartbeats 8000000 in
theorem sealApart_any (a0 a1 b0 b1 : UInt64) (X Y : Ls) (w : World) (hX : Good w X) (hY : Good w Y) (hk : LaidK 0 w) :
    Calls Tryd.prog 4 (List.map (Sv.val []) [.x (.a64 [a0, a1]), .x (.a64 [b0, b1]), .x (.g [.v (.slice X.A X.L.length X.c), .v (.slice Y.A Y.L.length Y.c)])]).toArray w fun e w' => e = .returned (.bool true) ∧ Below w.heap.size w w' := by
  have hlx := listSum_length X.L
  have hly := listSum_length Y.L
  have hsa := sealOf_length a0 a1
  have hsb := sealOf_length b0 b1
  have ixa0 : ix [a0, a1] 0 = a0 := rfl
  have ixa1 : ix [a0, a1] 1 = a1 := rfl
  have ixb0 : ix [b0, b1] 0 = b0 := rfl
  have ixb1 : ix [b0, b1] 1 = b1 := rfl
  have h0 := fun h => calls_v (P := Tryd.prog) (w := w) (n := 199) Tryd.func4 rfl Tryd.ntmps4 [.x (.a64 [a0, a1]), .x (.a64 [b0, b1]), .x (.g [.v (.slice X.A X.L.length X.c), .v (.slice Y.A Y.L.length Y.c)])] (by simp) (.x (.a (.v (.bool true)))) (v := .bool true) (fun _ => rfl) h
  refine h0 ?_
  clear h0
  simp only [ren_f8, hlx, hly, hsa, hsb, undef, beq_self_eq_true, push_cast, ↓Int.toNat_natCast, ↓reduceIte, reduceCtorEq, Nat.reduceEqDiff, Nat.reduceLT, Nat.reduceLeDiff, Nat.reduceAdd, Nat.reduceSub, Nat.reduceMul, Int.reduceNeg, Int.reduceLE, Int.reduceLT, Int.reduceToNat]
  (repeat (refine And.intro (by first | omega | decide) ?_))
  refine loop_rule (ι := Nat) (fun k => ⟨[(3, .x (.a (.p 0 0))), (4, .x (.a (.p 1 0))), (5, .x (.a (.p 2 0))), (6, .x (.a (.v (.bool false)))), (7, .x (.a (.v (.int .i64 k))))], [.blk 39 (.u64 [a0, a1]), .blk 39 (.u64 [b0, b1]), .blk 40 (.c [.v (.slice X.A X.L.length X.c), .v (.slice Y.A Y.L.length Y.c)])]⟩) (fun k => k ≤ 2 ∧ ∀ j, j < k → Fine (ix [X, Y] j).L) (fun k => 2 - k) 0 [0, 1, 2] ⟨by omega, fun j h => by omega⟩ ?_ ?_
  · simp only [ren_f8, hlx, hly, hsa, hsb, undef, beq_self_eq_true, push_cast, ↓Int.toNat_natCast, ↓reduceIte, reduceCtorEq, Nat.reduceEqDiff, Nat.reduceLT, Nat.reduceLeDiff, Nat.reduceAdd, Nat.reduceSub, Nat.reduceMul, Int.reduceNeg, Int.reduceLE, Int.reduceLT, Int.reduceToNat]
  · rintro k ⟨hk2, hfk⟩
    by_cases hlk : (k : Int) < 2
    · have hkl : k < 2 := by omega
      have gk1 := getD_two X Y k hkl
      have gk : List.getD [At.v (.slice X.A X.L.length X.c), At.v (.slice Y.A Y.L.length Y.c)] k (.v (.tuple #[])) = .v (.slice (ix [X, Y] k).A (ix [X, Y] k).L.length (ix [X, Y] k).c) := gk1
      have hG := good_two hX hY k hkl
      have hF := FS.of hG.rd hG.each
      simp only [hlk, gk, undef, push_cast, ↓Int.toNat_natCast, ↓reduceIte, reduceCtorEq, Nat.reduceEqDiff, Nat.reduceLT, Nat.reduceLeDiff, Nat.reduceAdd, Nat.reduceSub, Nat.reduceMul, Int.reduceNeg, Int.reduceLE, Int.reduceLT, Int.reduceToNat]
      (repeat (refine And.intro (by first | omega | decide) ?_))
      refine loop_rule (ι := Nat) (fun i => ⟨[(3, .x (.a (.p 0 0))), (4, .x (.a (.p 1 0))), (5, .x (.a (.p 2 0))), (6, .x (.a (.v (.bool false)))), (7, .x (.a (.v (.int .i64 k)))), (8, .x (.a (.v (.int .i64 i))))], [.blk 39 (.u64 [a0, a1]), .blk 39 (.u64 [b0, b1]), .blk 40 (.c [.v (.slice X.A X.L.length X.c), .v (.slice Y.A Y.L.length Y.c)])]⟩) (fun i => i ≤ (ix [X, Y] k).L.length ∧ i ≤ 31 ∧ ∀ j, j < i → (ix (ix [X, Y] k).L j).l.length ≤ 300) (fun i => (ix [X, Y] k).L.length - i) 0 [0, 1, 2] ⟨by omega, by omega, fun j h => by omega⟩ ?_ ?_
      · simp only [ren_f8, hlx, hly, hsa, hsb, undef, beq_self_eq_true, push_cast, ↓Int.toNat_natCast, ↓reduceIte, reduceCtorEq, Nat.reduceEqDiff, Nat.reduceLT, Nat.reduceLeDiff, Nat.reduceAdd, Nat.reduceSub, Nat.reduceMul, Int.reduceNeg, Int.reduceLE, Int.reduceLT, Int.reduceToNat]
      · generalize hGk : ix [X, Y] k = G at *
        rintro i ⟨hi, hi31, hfine⟩
        by_cases hlt : (i : Int) < G.L.length
        · have h : i < G.L.length := by omega
          by_cases h30 : (30 : Int) < i
          · simp only [hlk, gk, hlt, h30, undef, push_cast, ↓Int.toNat_natCast, ↓reduceIte, reduceCtorEq, Nat.reduceEqDiff, Nat.reduceLT, Nat.reduceLeDiff, Nat.reduceAdd, Nat.reduceSub, Nat.reduceMul, Int.reduceNeg, Int.reduceLE, Int.reduceLT, Int.reduceToNat]
            (repeat (refine And.intro (by first | omega | decide) ?_))
            refine callG_v rfl cb15 rfl (sure08OK hk) (dOk_lt rfl) ?_
            simp only [hlk, gk, hlt, h30, undef, push_cast, ↓Int.toNat_natCast, ↓reduceIte, reduceCtorEq, Nat.reduceEqDiff, Nat.reduceLT, Nat.reduceLeDiff, Nat.reduceAdd, Nat.reduceSub, Nat.reduceMul, Int.reduceNeg, Int.reduceLE, Int.reduceLT, Int.reduceToNat]
            done
          have hA := hF.some_ (by omega)
          have c0 := hF.cell i h
          have o0 := hF.ok i h
          by_cases h300 : (300 : Int) < (ix G.L i).l.length
          · simp only [hlk, gk, hlt, h30, hA, c0, o0, h300, undef, push_cast, ↓Int.toNat_natCast, ↓reduceIte, reduceCtorEq, Nat.reduceEqDiff, Nat.reduceLT, Nat.reduceLeDiff, Nat.reduceAdd, Nat.reduceSub, Nat.reduceMul, Int.reduceNeg, Int.reduceLE, Int.reduceLT, Int.reduceToNat]
            (repeat (refine And.intro (by first | omega | decide) ?_))
            refine callG_v rfl cb15 rfl (sure08OK hk) (dOk_lt rfl) ?_
            simp only [hlk, gk, hlt, h30, hA, c0, o0, h300, undef, push_cast, ↓Int.toNat_natCast, ↓reduceIte, reduceCtorEq, Nat.reduceEqDiff, Nat.reduceLT, Nat.reduceLeDiff, Nat.reduceAdd, Nat.reduceSub, Nat.reduceMul, Int.reduceNeg, Int.reduceLE, Int.reduceLT, Int.reduceToNat]
            done
          simp only [hlk, gk, hlt, h30, hA, c0, o0, h300, undef, push_cast, ↓Int.toNat_natCast, ↓reduceIte, reduceCtorEq, Nat.reduceEqDiff, Nat.reduceLT, Nat.reduceLeDiff, Nat.reduceAdd, Nat.reduceSub, Nat.reduceMul, Int.reduceNeg, Int.reduceLE, Int.reduceLT, Int.reduceToNat]
          (repeat (refine And.intro (by first | omega | decide) ?_))
          refine loopK_normal (i + 1) [0, 1, 2] ⟨by omega, by omega, fun j hj => ?_⟩ (by omega) ?_
          · by_cases hji : j = i
            · subst hji; omega
            · exact hfine j (by omega)
          · simp only [ren_f8, hlx, hly, hsa, hsb, undef, beq_self_eq_true, push_cast, ↓Int.toNat_natCast, ↓reduceIte, reduceCtorEq, Nat.reduceEqDiff, Nat.reduceLT, Nat.reduceLeDiff, Nat.reduceAdd, Nat.reduceSub, Nat.reduceMul, Int.reduceNeg, Int.reduceLE, Int.reduceLT, Int.reduceToNat]
        · have h : i = G.L.length := by omega
          subst h
          have hL : Fine G.L := ⟨hi31, hfine⟩
          simp only [hlk, gk, hlt, undef, push_cast, ↓Int.toNat_natCast, ↓reduceIte, reduceCtorEq, Nat.reduceEqDiff, Nat.reduceLT, Nat.reduceLeDiff, Nat.reduceAdd, Nat.reduceSub, Nat.reduceMul, Int.reduceNeg, Int.reduceLE, Int.reduceLT, Int.reduceToNat]
          (repeat (refine And.intro (by first | omega | decide) ?_))
          refine loopK_normal (k + 1) [0, 1, 2] ⟨by omega, fun j hj => ?_⟩ (by omega) ?_
          · by_cases hji : j = k
            · subst hji; exact hGk ▸ hL
            · exact hfk j (by omega)
          · simp only [ren_f8, hlx, hly, hsa, hsb, undef, beq_self_eq_true, push_cast, ↓Int.toNat_natCast, ↓reduceIte, reduceCtorEq, Nat.reduceEqDiff, Nat.reduceLT, Nat.reduceLeDiff, Nat.reduceAdd, Nat.reduceSub, Nat.reduceMul, Int.reduceNeg, Int.reduceLE, Int.reduceLT, Int.reduceToNat]
    · have h2 : k = 2 := by omega
      subst h2
      have hFX : Fine X.L := hfk 0 (by omega)
      have hFY : Fine Y.L := hfk 1 (by omega)
      simp only [hlk, undef, push_cast, ↓Int.toNat_natCast, ↓reduceIte, reduceCtorEq, Nat.reduceEqDiff, Nat.reduceLT, Nat.reduceLeDiff, Nat.reduceAdd, Nat.reduceSub, Nat.reduceMul, Int.reduceNeg, Int.reduceLE, Int.reduceLT, Int.reduceToNat]
      (repeat (refine And.intro (by first | omega | decide) ?_))
      refine callG_v rfl cb16 rfl (sealListOK X.L X.A X.c hFX hX.rd hX.each hk) (dOk_lt rfl) ?_
      simp only [ren_f8, hlx, hly, hsa, hsb, undef, beq_self_eq_true, push_cast, ↓Int.toNat_natCast, ↓reduceIte, reduceCtorEq, Nat.reduceEqDiff, Nat.reduceLT, Nat.reduceLeDiff, Nat.reduceAdd, Nat.reduceSub, Nat.reduceMul, Int.reduceNeg, Int.reduceLE, Int.reduceLT, Int.reduceToNat]
      (repeat (refine And.intro (by first | omega | decide) ?_))
      refine callG_v rfl cb16 rfl (sealListOK Y.L Y.A Y.c hFY hY.rd hY.each hk) (dOk_lt rfl) ?_
      simp only [ren_f8, hlx, hly, hsa, hsb, undef, beq_self_eq_true, push_cast, ↓Int.toNat_natCast, ↓reduceIte, reduceCtorEq, Nat.reduceEqDiff, Nat.reduceLT, Nat.reduceLeDiff, Nat.reduceAdd, Nat.reduceSub, Nat.reduceMul, Int.reduceNeg, Int.reduceLE, Int.reduceLT, Int.reduceToNat]
      (repeat (refine And.intro (by first | omega | decide) ?_))
      refine drawPT_rule 12 (.rd 0 (.rd 1 (.rd 2 (.rd 3 (.rd 5 (.rd 6 (.rd 7 (.rd 8 (.f3 4 (.f3 9 (.fk 10 (.wr 11 .nil) 11 (.wr 10 .nil)) 10 (.fk 9 (.wr 11 .nil) 11 (.wr 9 .nil)) 11 (.fk 9 (.wr 10 .nil) 10 (.wr 9 .nil))) 10 (.fk 4 (.fk 9 (.wr 11 .nil) 11 (.wr 9 .nil)) 11 (.wr 4 (.wr 9 .nil))) 11 (.fk 4 (.fk 9 (.wr 10 .nil) 10 (.wr 9 .nil)) 10 (.wr 4 (.wr 9 .nil)))))))))))) ⟨[(3, .x (.a (.p 0 0))), (4, .x (.a (.p 1 0))), (5, .x (.a (.p 2 0))), (6, .x (.a (.v (.bool false)))), (9, .x (.a (.p 3 0))), (10, .x (.a (.v .nilIface))), (11, .x (.a (.p 4 0))), (12, .x (.a (.v .nilIface))), (13, .x (.a (.p 5 0))), (14, .x (.a (.p 6 0))), (66, .x (.a8 (sealOf a0 a1))), (71, .x (.a8 (sealOf b0 b1)))],
        [.blk 39 (.u64 [a0, a1]), .blk 39 (.u64 [b0, b1]), .blk 40 (.c [.v (.slice X.A X.L.length X.c), .v (.slice Y.A Y.L.length Y.c)]), .blk 23 (.u8 (listSum X.L)), .blk 23 (.u8 (listSum Y.L)), .blk 23 (.u8 (List.replicate 32 0)), .blk 23 (.u8 (List.replicate 32 0))]⟩ (by kernel_rfl) (by kernel_rfl) ?_ ?_
      · simp only [hlx, hly, hsa, hsb, ixa0, ixa1, ixb0, ixb1, push_cast, ↓Int.toNat_natCast, ↓reduceIte, reduceCtorEq, Nat.reduceEqDiff, Nat.reduceLT, Nat.reduceLeDiff, Nat.reduceAdd, Nat.reduceSub, Nat.reduceMul, Int.reduceNeg, Int.reduceLE, Int.reduceLT, Int.reduceToNat]
        (repeat (refine And.intro (by first | omega | decide) ?_))
        refine ⟨?_, ?_, ?_⟩
        · refine callP_v rfl cb19 rfl (sealOfOK a0 a1 hk) (dOk_lt rfl) ?_
          simp only [hlx, hly, hsa, hsb, ixa0, ixa1, ixb0, ixb1, push_cast, ↓Int.toNat_natCast, ↓reduceIte, reduceCtorEq, Nat.reduceEqDiff, Nat.reduceLT, Nat.reduceLeDiff, Nat.reduceAdd, Nat.reduceSub, Nat.reduceMul, Int.reduceNeg, Int.reduceLE, Int.reduceLT, Int.reduceToNat]
          refine ⟨?_, ?_, ?_⟩
          · refine callP_v rfl cb19 rfl (sealOfOK b0 b1 hk) (dOk_lt rfl) ?_
            simp only [hlx, hly, hsa, hsb, ixa0, ixa1, ixb0, ixb1, push_cast, ↓Int.toNat_natCast, ↓reduceIte, reduceCtorEq, Nat.reduceEqDiff, Nat.reduceLT, Nat.reduceLeDiff, Nat.reduceAdd, Nat.reduceSub, Nat.reduceMul, Int.reduceNeg, Int.reduceLE, Int.reduceLT, Int.reduceToNat]
            refine ⟨?_, ?_⟩
            · refine leads_le [0, 1, 2, 3, 4, 5, 6] ?_
              simp only [push_cast, ↓Int.toNat_natCast, ↓reduceIte, reduceCtorEq, Nat.reduceEqDiff, Nat.reduceLT, Nat.reduceLeDiff, Nat.reduceAdd, Nat.reduceSub, Nat.reduceMul, Int.reduceNeg, Int.reduceLE, Int.reduceLT, Int.reduceToNat]
            · refine leads_le [0, 1, 2, 3, 4, 6, 5] ?_
              simp only [push_cast, ↓Int.toNat_natCast, ↓reduceIte, reduceCtorEq, Nat.reduceEqDiff, Nat.reduceLT, Nat.reduceLeDiff, Nat.reduceAdd, Nat.reduceSub, Nat.reduceMul, Int.reduceNeg, Int.reduceLE, Int.reduceLT, Int.reduceToNat]
          · refine ⟨?_, ?_⟩
            · refine callP_v rfl cb19 rfl (sealOfOK b0 b1 hk) (dOk_lt rfl) ?_
              simp only [hlx, hly, hsa, hsb, ixa0, ixa1, ixb0, ixb1, push_cast, ↓Int.toNat_natCast, ↓reduceIte, reduceCtorEq, Nat.reduceEqDiff, Nat.reduceLT, Nat.reduceLeDiff, Nat.reduceAdd, Nat.reduceSub, Nat.reduceMul, Int.reduceNeg, Int.reduceLE, Int.reduceLT, Int.reduceToNat]
              refine leads_le [0, 1, 2, 3, 4, 5, 6] ?_
              simp only [push_cast, ↓Int.toNat_natCast, ↓reduceIte, reduceCtorEq, Nat.reduceEqDiff, Nat.reduceLT, Nat.reduceLeDiff, Nat.reduceAdd, Nat.reduceSub, Nat.reduceMul, Int.reduceNeg, Int.reduceLE, Int.reduceLT, Int.reduceToNat]
            · refine callP_v rfl cb19 rfl (sealOfOK b0 b1 hk) (dOk_lt rfl) ?_
              simp only [hlx, hly, hsa, hsb, ixa0, ixa1, ixb0, ixb1, push_cast, ↓Int.toNat_natCast, ↓reduceIte, reduceCtorEq, Nat.reduceEqDiff, Nat.reduceLT, Nat.reduceLeDiff, Nat.reduceAdd, Nat.reduceSub, Nat.reduceMul, Int.reduceNeg, Int.reduceLE, Int.reduceLT, Int.reduceToNat]
              refine leads_le [0, 1, 2, 3, 4, 5, 6] ?_
              simp only [push_cast, ↓Int.toNat_natCast, ↓reduceIte, reduceCtorEq, Nat.reduceEqDiff, Nat.reduceLT, Nat.reduceLeDiff, Nat.reduceAdd, Nat.reduceSub, Nat.reduceMul, Int.reduceNeg, Int.reduceLE, Int.reduceLT, Int.reduceToNat]
          · refine ⟨?_, ?_⟩
            · refine callP_v rfl cb19 rfl (sealOfOK b0 b1 hk) (dOk_lt rfl) ?_
              simp only [hlx, hly, hsa, hsb, ixa0, ixa1, ixb0, ixb1, push_cast, ↓Int.toNat_natCast, ↓reduceIte, reduceCtorEq, Nat.reduceEqDiff, Nat.reduceLT, Nat.reduceLeDiff, Nat.reduceAdd, Nat.reduceSub, Nat.reduceMul, Int.reduceNeg, Int.reduceLE, Int.reduceLT, Int.reduceToNat]
              refine leads_le [0, 1, 2, 3, 4, 6, 5] ?_
              simp only [push_cast, ↓Int.toNat_natCast, ↓reduceIte, reduceCtorEq, Nat.reduceEqDiff, Nat.reduceLT, Nat.reduceLeDiff, Nat.reduceAdd, Nat.reduceSub, Nat.reduceMul, Int.reduceNeg, Int.reduceLE, Int.reduceLT, Int.reduceToNat]
            · refine callP_v rfl cb19 rfl (sealOfOK b0 b1 hk) (dOk_lt rfl) ?_
              simp only [hlx, hly, hsa, hsb, ixa0, ixa1, ixb0, ixb1, push_cast, ↓Int.toNat_natCast, ↓reduceIte, reduceCtorEq, Nat.reduceEqDiff, Nat.reduceLT, Nat.reduceLeDiff, Nat.reduceAdd, Nat.reduceSub, Nat.reduceMul, Int.reduceNeg, Int.reduceLE, Int.reduceLT, Int.reduceToNat]
              refine leads_le [0, 1, 2, 3, 4, 6, 5] ?_
              simp only [push_cast, ↓Int.toNat_natCast, ↓reduceIte, reduceCtorEq, Nat.reduceEqDiff, Nat.reduceLT, Nat.reduceLeDiff, Nat.reduceAdd, Nat.reduceSub, Nat.reduceMul, Int.reduceNeg, Int.reduceLE, Int.reduceLT, Int.reduceToNat]
        · refine ⟨?_, ?_⟩
          · refine callP_v rfl cb19 rfl (sealOfOK a0 a1 hk) (dOk_lt rfl) ?_
            simp only [hlx, hly, hsa, hsb, ixa0, ixa1, ixb0, ixb1, push_cast, ↓Int.toNat_natCast, ↓reduceIte, reduceCtorEq, Nat.reduceEqDiff, Nat.reduceLT, Nat.reduceLeDiff, Nat.reduceAdd, Nat.reduceSub, Nat.reduceMul, Int.reduceNeg, Int.reduceLE, Int.reduceLT, Int.reduceToNat]
            refine ⟨?_, ?_⟩
            · refine callP_v rfl cb19 rfl (sealOfOK b0 b1 hk) (dOk_lt rfl) ?_
              simp only [hlx, hly, hsa, hsb, ixa0, ixa1, ixb0, ixb1, push_cast, ↓Int.toNat_natCast, ↓reduceIte, reduceCtorEq, Nat.reduceEqDiff, Nat.reduceLT, Nat.reduceLeDiff, Nat.reduceAdd, Nat.reduceSub, Nat.reduceMul, Int.reduceNeg, Int.reduceLE, Int.reduceLT, Int.reduceToNat]
              refine leads_le [0, 1, 2, 3, 4, 5, 6] ?_
              simp only [push_cast, ↓Int.toNat_natCast, ↓reduceIte, reduceCtorEq, Nat.reduceEqDiff, Nat.reduceLT, Nat.reduceLeDiff, Nat.reduceAdd, Nat.reduceSub, Nat.reduceMul, Int.reduceNeg, Int.reduceLE, Int.reduceLT, Int.reduceToNat]
            · refine callP_v rfl cb19 rfl (sealOfOK b0 b1 hk) (dOk_lt rfl) ?_
              simp only [hlx, hly, hsa, hsb, ixa0, ixa1, ixb0, ixb1, push_cast, ↓Int.toNat_natCast, ↓reduceIte, reduceCtorEq, Nat.reduceEqDiff, Nat.reduceLT, Nat.reduceLeDiff, Nat.reduceAdd, Nat.reduceSub, Nat.reduceMul, Int.reduceNeg, Int.reduceLE, Int.reduceLT, Int.reduceToNat]
              refine leads_le [0, 1, 2, 3, 4, 5, 6] ?_
              simp only [push_cast, ↓Int.toNat_natCast, ↓reduceIte, reduceCtorEq, Nat.reduceEqDiff, Nat.reduceLT, Nat.reduceLeDiff, Nat.reduceAdd, Nat.reduceSub, Nat.reduceMul, Int.reduceNeg, Int.reduceLE, Int.reduceLT, Int.reduceToNat]
          · refine callP_v rfl cb19 rfl (sealOfOK a0 a1 hk) (dOk_lt rfl) ?_
            simp only [hlx, hly, hsa, hsb, ixa0, ixa1, ixb0, ixb1, push_cast, ↓Int.toNat_natCast, ↓reduceIte, reduceCtorEq, Nat.reduceEqDiff, Nat.reduceLT, Nat.reduceLeDiff, Nat.reduceAdd, Nat.reduceSub, Nat.reduceMul, Int.reduceNeg, Int.reduceLE, Int.reduceLT, Int.reduceToNat]
            refine callP_v rfl cb19 rfl (sealOfOK b0 b1 hk) (dOk_lt rfl) ?_
            simp only [hlx, hly, hsa, hsb, ixa0, ixa1, ixb0, ixb1, push_cast, ↓Int.toNat_natCast, ↓reduceIte, reduceCtorEq, Nat.reduceEqDiff, Nat.reduceLT, Nat.reduceLeDiff, Nat.reduceAdd, Nat.reduceSub, Nat.reduceMul, Int.reduceNeg, Int.reduceLE, Int.reduceLT, Int.reduceToNat]
            refine leads_le [0, 1, 2, 3, 4, 5, 6] ?_
            simp only [push_cast, ↓Int.toNat_natCast, ↓reduceIte, reduceCtorEq, Nat.reduceEqDiff, Nat.reduceLT, Nat.reduceLeDiff, Nat.reduceAdd, Nat.reduceSub, Nat.reduceMul, Int.reduceNeg, Int.reduceLE, Int.reduceLT, Int.reduceToNat]
        · refine ⟨?_, ?_⟩
          · refine callP_v rfl cb19 rfl (sealOfOK a0 a1 hk) (dOk_lt rfl) ?_
            simp only [hlx, hly, hsa, hsb, ixa0, ixa1, ixb0, ixb1, push_cast, ↓Int.toNat_natCast, ↓reduceIte, reduceCtorEq, Nat.reduceEqDiff, Nat.reduceLT, Nat.reduceLeDiff, Nat.reduceAdd, Nat.reduceSub, Nat.reduceMul, Int.reduceNeg, Int.reduceLE, Int.reduceLT, Int.reduceToNat]
            refine ⟨?_, ?_⟩
            · refine callP_v rfl cb19 rfl (sealOfOK b0 b1 hk) (dOk_lt rfl) ?_
              simp only [hlx, hly, hsa, hsb, ixa0, ixa1, ixb0, ixb1, push_cast, ↓Int.toNat_natCast, ↓reduceIte, reduceCtorEq, Nat.reduceEqDiff, Nat.reduceLT, Nat.reduceLeDiff, Nat.reduceAdd, Nat.reduceSub, Nat.reduceMul, Int.reduceNeg, Int.reduceLE, Int.reduceLT, Int.reduceToNat]
              refine leads_le [0, 1, 2, 3, 4, 6, 5] ?_
              simp only [push_cast, ↓Int.toNat_natCast, ↓reduceIte, reduceCtorEq, Nat.reduceEqDiff, Nat.reduceLT, Nat.reduceLeDiff, Nat.reduceAdd, Nat.reduceSub, Nat.reduceMul, Int.reduceNeg, Int.reduceLE, Int.reduceLT, Int.reduceToNat]
            · refine callP_v rfl cb19 rfl (sealOfOK b0 b1 hk) (dOk_lt rfl) ?_
              simp only [hlx, hly, hsa, hsb, ixa0, ixa1, ixb0, ixb1, push_cast, ↓Int.toNat_natCast, ↓reduceIte, reduceCtorEq, Nat.reduceEqDiff, Nat.reduceLT, Nat.reduceLeDiff, Nat.reduceAdd, Nat.reduceSub, Nat.reduceMul, Int.reduceNeg, Int.reduceLE, Int.reduceLT, Int.reduceToNat]
              refine leads_le [0, 1, 2, 3, 4, 6, 5] ?_
              simp only [push_cast, ↓Int.toNat_natCast, ↓reduceIte, reduceCtorEq, Nat.reduceEqDiff, Nat.reduceLT, Nat.reduceLeDiff, Nat.reduceAdd, Nat.reduceSub, Nat.reduceMul, Int.reduceNeg, Int.reduceLE, Int.reduceLT, Int.reduceToNat]
          · refine callP_v rfl cb19 rfl (sealOfOK a0 a1 hk) (dOk_lt rfl) ?_
            simp only [hlx, hly, hsa, hsb, ixa0, ixa1, ixb0, ixb1, push_cast, ↓Int.toNat_natCast, ↓reduceIte, reduceCtorEq, Nat.reduceEqDiff, Nat.reduceLT, Nat.reduceLeDiff, Nat.reduceAdd, Nat.reduceSub, Nat.reduceMul, Int.reduceNeg, Int.reduceLE, Int.reduceLT, Int.reduceToNat]
            refine callP_v rfl cb19 rfl (sealOfOK b0 b1 hk) (dOk_lt rfl) ?_
            simp only [hlx, hly, hsa, hsb, ixa0, ixa1, ixb0, ixb1, push_cast, ↓Int.toNat_natCast, ↓reduceIte, reduceCtorEq, Nat.reduceEqDiff, Nat.reduceLT, Nat.reduceLeDiff, Nat.reduceAdd, Nat.reduceSub, Nat.reduceMul, Int.reduceNeg, Int.reduceLE, Int.reduceLT, Int.reduceToNat]
            refine leads_le [0, 1, 2, 3, 4, 6, 5] ?_
            simp only [push_cast, ↓Int.toNat_natCast, ↓reduceIte, reduceCtorEq, Nat.reduceEqDiff, Nat.reduceLT, Nat.reduceLeDiff, Nat.reduceAdd, Nat.reduceSub, Nat.reduceMul, Int.reduceNeg, Int.reduceLE, Int.reduceLT, Int.reduceToNat]
      · apply by_meet (p := ([a0, a1] : List UInt64) = [b0, b1])
        · intro hE hr
          have hE1 : decide (([a0, a1] : List UInt64) = [b0, b1]) = true := decide_eq_true hE
          have hE2 : decide (sealOf a0 a1 = sealOf b0 b1) = true := by cases hE; exact decide_eq_true rfl
          simp only [hE1, hE2, List.drop_succ_cons, List.drop_zero, hlx, hly, hsa, hsb, ixa0, ixa1, ixb0, ixb1, push_cast, ↓Int.toNat_natCast, ↓reduceIte, reduceCtorEq, Nat.reduceEqDiff, Nat.reduceLT, Nat.reduceLeDiff, Nat.reduceAdd, Nat.reduceSub, Nat.reduceMul, Int.reduceNeg, Int.reduceLE, Int.reduceLT, Int.reduceToNat]
          (repeat (refine And.intro (by first | omega | decide) ?_))
          refine loopG_leads (s1 := ⟨[(3, .x (.a (.p 0 0))), (4, .x (.a (.p 1 0))), (5, .x (.a (.p 2 0))), (6, .x (.a (.v (.bool false)))), (9, .x (.a (.p 3 0))), (11, .x (.a (.p 4 0))), (13, .x (.a (.p 5 0))), (14, .x (.a (.p 6 0))), (15, .x (.a (.v (.bool (decide ((X.L.length : Int) = Y.L.length)))))), (16, .x (.a (.v (.int .i64 0))))], [.blk 39 (.u64 [a0, a1]), .blk 39 (.u64 [b0, b1]), .blk 40 (.c [.v (.slice X.A X.L.length X.c), .v (.slice Y.A Y.L.length Y.c)]), .blk 23 (.u8 (listSum X.L)), .blk 23 (.u8 (listSum Y.L)), .blk 23 (.u8 (sealOf a0 a1)), .blk 23 (.u8 (sealOf b0 b1))]⟩) (leads_le [0, 1, 2, 3, 4, 5, 6] ?_) hr.out
          simp only [push_cast, ↓Int.toNat_natCast, ↓reduceIte, reduceCtorEq, Nat.reduceEqDiff, Nat.reduceLT, Nat.reduceLeDiff, Nat.reduceAdd, Nat.reduceSub, Nat.reduceMul, Int.reduceNeg, Int.reduceLE, Int.reduceLT, Int.reduceToNat]
        · intro hE hr
          have hE1 : decide (([a0, a1] : List UInt64) = [b0, b1]) = false := decide_eq_false hE
          simp only [hE1, undef, List.drop_succ_cons, List.drop_zero, hlx, hly, hsa, hsb, ixa0, ixa1, ixb0, ixb1, push_cast, ↓Int.toNat_natCast, ↓reduceIte, reduceCtorEq, Nat.reduceEqDiff, Nat.reduceLT, Nat.reduceLeDiff, Nat.reduceAdd, Nat.reduceSub, Nat.reduceMul, Int.reduceNeg, Int.reduceLE, Int.reduceLT, Int.reduceToNat]
          (repeat (refine And.intro (by first | omega | decide) ?_))
          refine loopG_leads (s1 := ⟨[(3, .x (.a (.p 0 0))), (4, .x (.a (.p 1 0))), (5, .x (.a (.p 2 0))), (6, .x (.a (.v (.bool false)))), (9, .x (.a (.p 3 0))), (11, .x (.a (.p 4 0))), (13, .x (.a (.p 5 0))), (14, .x (.a (.p 6 0))), (15, .x (.a (.v (.bool (decide ((X.L.length : Int) = Y.L.length)))))), (16, .x (.a (.v (.int .i64 0))))], [.blk 39 (.u64 [a0, a1]), .blk 39 (.u64 [b0, b1]), .blk 40 (.c [.v (.slice X.A X.L.length X.c), .v (.slice Y.A Y.L.length Y.c)]), .blk 23 (.u8 (listSum X.L)), .blk 23 (.u8 (listSum Y.L)), .blk 23 (.u8 (sealOf a0 a1)), .blk 23 (.u8 (sealOf b0 b1))]⟩) (leads_le [0, 1, 2, 3, 4, 5, 6] ?_) hr.out
          simp only [push_cast, ↓Int.toNat_natCast, ↓reduceIte, reduceCtorEq, Nat.reduceEqDiff, Nat.reduceLT, Nat.reduceLeDiff, Nat.reduceAdd, Nat.reduceSub, Nat.reduceMul, Int.reduceNeg, Int.reduceLE, Int.reduceLT, Int.reduceToNat]
        refine loop_meet (.exit 4) ⟨[(3, .x (.a (.p 0 0))), (4, .x (.a (.p 1 0))), (5, .x (.a (.p 2 0))), (6, .x (.a (.v (.bool false)))), (9, .x (.a (.p 3 0))), (11, .x (.a (.p 4 0))), (13, .x (.a (.p 5 0))), (14, .x (.a (.p 6 0))), (15, .x (.a (.v (.bool (decide (X.L.map Sl.l = Y.L.map Sl.l))))))], [.blk 39 (.u64 [a0, a1]), .blk 39 (.u64 [b0, b1]), .blk 40 (.c [.v (.slice X.A X.L.length X.c), .v (.slice Y.A Y.L.length Y.c)]), .blk 23 (.u8 (listSum X.L)), .blk 23 (.u8 (listSum Y.L)), .blk 23 (.u8 (sealOf a0 a1)), .blk 23 (.u8 (sealOf b0 b1))]⟩ ?_ ?_
        · simp only [hlx, hly, hsa, hsb, ixa0, ixa1, ixb0, ixb1, push_cast, ↓Int.toNat_natCast, ↓reduceIte, reduceCtorEq, Nat.reduceEqDiff, Nat.reduceLT, Nat.reduceLeDiff, Nat.reduceAdd, Nat.reduceSub, Nat.reduceMul, Int.reduceNeg, Int.reduceLE, Int.reduceLT, Int.reduceToNat]
          (repeat (refine And.intro (by first | omega | decide) ?_))
          refine callG_x rfl cb17 rfl (refListOK X.L X.A X.c hFX hX.rd hX.each (by simp only [push_cast, ↓Int.toNat_natCast, ↓reduceIte, reduceCtorEq, Nat.reduceEqDiff, Nat.reduceLT, Nat.reduceLeDiff, Nat.reduceAdd, Nat.reduceSub, Nat.reduceMul, Int.reduceNeg, Int.reduceLE, Int.reduceLT, Int.reduceToNat])) (dOk_lt rfl) (by simp only [push_cast, ↓Int.toNat_natCast, ↓reduceIte, reduceCtorEq, Nat.reduceEqDiff, Nat.reduceLT, Nat.reduceLeDiff, Nat.reduceAdd, Nat.reduceSub, Nat.reduceMul, Int.reduceNeg, Int.reduceLE, Int.reduceLT, Int.reduceToNat]) ?_
          simp only [hlx, hly, hsa, hsb, ixa0, ixa1, ixb0, ixb1, push_cast, ↓Int.toNat_natCast, ↓reduceIte, reduceCtorEq, Nat.reduceEqDiff, Nat.reduceLT, Nat.reduceLeDiff, Nat.reduceAdd, Nat.reduceSub, Nat.reduceMul, Int.reduceNeg, Int.reduceLE, Int.reduceLT, Int.reduceToNat]
          (repeat (refine And.intro (by first | omega | decide) ?_))
          refine callG_x rfl cb17 rfl (refListOK Y.L Y.A Y.c hFY hY.rd hY.each (by simp only [push_cast, ↓Int.toNat_natCast, ↓reduceIte, reduceCtorEq, Nat.reduceEqDiff, Nat.reduceLT, Nat.reduceLeDiff, Nat.reduceAdd, Nat.reduceSub, Nat.reduceMul, Int.reduceNeg, Int.reduceLE, Int.reduceLT, Int.reduceToNat])) (dOk_lt rfl) (by simp only [push_cast, ↓Int.toNat_natCast, ↓reduceIte, reduceCtorEq, Nat.reduceEqDiff, Nat.reduceLT, Nat.reduceLeDiff, Nat.reduceAdd, Nat.reduceSub, Nat.reduceMul, Int.reduceNeg, Int.reduceLE, Int.reduceLT, Int.reduceToNat]) ?_
          simp only [hlx, hly, hsa, hsb, ixa0, ixa1, ixb0, ixb1, push_cast, ↓Int.toNat_natCast, ↓reduceIte, reduceCtorEq, Nat.reduceEqDiff, Nat.reduceLT, Nat.reduceLeDiff, Nat.reduceAdd, Nat.reduceSub, Nat.reduceMul, Int.reduceNeg, Int.reduceLE, Int.reduceLT, Int.reduceToNat]
          (repeat (refine And.intro (by first | omega | decide) ?_))
          refine draw_rule [(0, true), (1, true), (2, true), (3, true), (4, true), (5, true), (7, true), (8, true), (9, true), (10, true), (6, false), (11, false), (12, false), (13, true)] (by kernel_rfl) (by kernel_rfl) rfl (by kernel_rfl) ?_
          simp only [hlx, hly, hsa, hsb, ixa0, ixa1, ixb0, ixb1, push_cast, ↓Int.toNat_natCast, ↓reduceIte, reduceCtorEq, Nat.reduceEqDiff, Nat.reduceLT, Nat.reduceLeDiff, Nat.reduceAdd, Nat.reduceSub, Nat.reduceMul, Int.reduceNeg, Int.reduceLE, Int.reduceLT, Int.reduceToNat]
          (repeat (refine And.intro (by first | omega | decide) ?_))
          refine callM_x rfl cb22 rfl (refText8OK a0 a1 (by simp only [push_cast, ↓Int.toNat_natCast, ↓reduceIte, reduceCtorEq, Nat.reduceEqDiff, Nat.reduceLT, Nat.reduceLeDiff, Nat.reduceAdd, Nat.reduceSub, Nat.reduceMul, Int.reduceNeg, Int.reduceLE, Int.reduceLT, Int.reduceToNat])) (dOk_lt rfl) (by simp only [push_cast, ↓Int.toNat_natCast, ↓reduceIte, reduceCtorEq, Nat.reduceEqDiff, Nat.reduceLT, Nat.reduceLeDiff, Nat.reduceAdd, Nat.reduceSub, Nat.reduceMul, Int.reduceNeg, Int.reduceLE, Int.reduceLT, Int.reduceToNat]) ?_
          simp only [hlx, hly, hsa, hsb, ixa0, ixa1, ixb0, ixb1, push_cast, ↓Int.toNat_natCast, ↓reduceIte, reduceCtorEq, Nat.reduceEqDiff, Nat.reduceLT, Nat.reduceLeDiff, Nat.reduceAdd, Nat.reduceSub, Nat.reduceMul, Int.reduceNeg, Int.reduceLE, Int.reduceLT, Int.reduceToNat]
          (repeat (refine And.intro (by first | omega | decide) ?_))
          refine callM_x rfl cb22 rfl (refText8OK b0 b1 (by simp only [push_cast, ↓Int.toNat_natCast, ↓reduceIte, reduceCtorEq, Nat.reduceEqDiff, Nat.reduceLT, Nat.reduceLeDiff, Nat.reduceAdd, Nat.reduceSub, Nat.reduceMul, Int.reduceNeg, Int.reduceLE, Int.reduceLT, Int.reduceToNat])) (dOk_lt rfl) (by simp only [push_cast, ↓Int.toNat_natCast, ↓reduceIte, reduceCtorEq, Nat.reduceEqDiff, Nat.reduceLT, Nat.reduceLeDiff, Nat.reduceAdd, Nat.reduceSub, Nat.reduceMul, Int.reduceNeg, Int.reduceLE, Int.reduceLT, Int.reduceToNat]) ?_
          simp only [hlx, hly, hsa, hsb, ixa0, ixa1, ixb0, ixb1, push_cast, ↓Int.toNat_natCast, ↓reduceIte, reduceCtorEq, Nat.reduceEqDiff, Nat.reduceLT, Nat.reduceLeDiff, Nat.reduceAdd, Nat.reduceSub, Nat.reduceMul, Int.reduceNeg, Int.reduceLE, Int.reduceLT, Int.reduceToNat]
          (repeat (refine And.intro (by first | omega | decide) ?_))
          have lX := lsTo_length X.L hFX X.L.length (Nat.le_refl _)
          have lY := lsTo_length Y.L hFY Y.L.length (Nat.le_refl _)
          have n0 : ((0 : Nat) : Int) = 0 := rfl
          have n1 : ((1 : Nat) : Int) = 1 := rfl
          have n2 : ((2 : Nat) : Int) = 2 := rfl
          have n3 : ((3 : Nat) : Int) = 3 := rfl
          have n4 : ((4 : Nat) : Int) = 4 := rfl
          have bX := hFX.1
          have bY := hFY.1
          refine loop_rule (ι := Nat) (fun i => ⟨[(3, .x (.a (.p 0 0))), (4, .x (.a (.p 1 0))), (5, .x (.a (.p 2 0))), (6, .x (.a (.v (.bool false)))), (9, .x (.a (.p 3 0))), (11, .x (.a (.p 4 0))), (13, .x (.a (.p 5 0))), (14, .x (.a (.p 6 0))), (15, .x (.a (.v (.bool (decide (X.L.map Sl.l = Y.L.map Sl.l)))))), (21, .x (.a (.s 11 0 4 4))), (22, .x (.a (.v (.bool (mTo (txs X Y a0 a1 b0 b1) i))))), (23, .x (.a (.v (.int .i64 i))))], [.blk 39 (.u64 [a0, a1]), .blk 39 (.u64 [b0, b1]), .blk 40 (.c [.v (.slice X.A X.L.length X.c), .v (.slice Y.A Y.L.length Y.c)]), .blk 23 (.u8 (listSum X.L)), .blk 23 (.u8 (listSum Y.L)), .blk 23 (.u8 (sealOf a0 a1)), .blk 23 (.u8 (sealOf b0 b1)), .own 5 (.u8 (lsTo X.L X.L.length)), .own 5 (.u8 (lsTo Y.L Y.L.length)), .own 5 (.u8 (sealB a0 a1)), .own 5 (.u8 (sealB b0 b1)), .blk 27 (.c [.o 7, .o 8, .o 9, .o 10])]⟩) (fun i => i ≤ 4) (fun i => 4 - i) 0 [0, 1, 2, 3, 4, 5, 6, 7, 8, 9, 10, 11] (by omega) ?_ ?_
          · simp only [mTo_zero, push_cast, ↓Int.toNat_natCast, ↓reduceIte, reduceCtorEq, Nat.reduceEqDiff, Nat.reduceLT, Nat.reduceLeDiff, Nat.reduceAdd, Nat.reduceSub, Nat.reduceMul, Int.reduceNeg, Int.reduceLE, Int.reduceLT, Int.reduceToNat]
          · intro i hi
            by_cases hlt : (i : Int) < 4
            · simp only [hlt, undef, push_cast, ↓Int.toNat_natCast, ↓reduceIte, reduceCtorEq, Nat.reduceEqDiff, Nat.reduceLT, Nat.reduceLeDiff, Nat.reduceAdd, Nat.reduceSub, Nat.reduceMul, Int.reduceNeg, Int.reduceLE, Int.reduceLT, Int.reduceToNat]
              (repeat (refine And.intro (by first | omega | decide) ?_))
              have hi4 : i = 0 ∨ i = 1 ∨ i = 2 ∨ i = 3 := by omega
              rcases hi4 with rfl | rfl | rfl | rfl
              · refine loop_rule (ι := Nat) (fun k => ⟨[(3, .x (.a (.p 0 0))), (4, .x (.a (.p 1 0))), (5, .x (.a (.p 2 0))), (6, .x (.a (.v (.bool false)))), (9, .x (.a (.p 3 0))), (11, .x (.a (.p 4 0))), (13, .x (.a (.p 5 0))), (14, .x (.a (.p 6 0))), (15, .x (.a (.v (.bool (decide (X.L.map Sl.l = Y.L.map Sl.l)))))), (21, .x (.a (.s 11 0 4 4))), (22, .x (.a (.v (.bool (mIn (txs X Y a0 a1 b0 b1) (mTo (txs X Y a0 a1 b0 b1) 0) 0 k))))), (23, .x (.a (.v (.int .i64 0)))), (24, .x (.a (.v (.int .i64 k))))], [.blk 39 (.u64 [a0, a1]), .blk 39 (.u64 [b0, b1]), .blk 40 (.c [.v (.slice X.A X.L.length X.c), .v (.slice Y.A Y.L.length Y.c)]), .blk 23 (.u8 (listSum X.L)), .blk 23 (.u8 (listSum Y.L)), .blk 23 (.u8 (sealOf a0 a1)), .blk 23 (.u8 (sealOf b0 b1)), .own 5 (.u8 (lsTo X.L X.L.length)), .own 5 (.u8 (lsTo Y.L Y.L.length)), .own 5 (.u8 (sealB a0 a1)), .own 5 (.u8 (sealB b0 b1)), .blk 27 (.c [.o 7, .o 8, .o 9, .o 10])]⟩) (fun k => k ≤ 0) (fun k => 0 - k) 0 [0, 1, 2, 3, 4, 5, 6, 7, 8, 9, 10, 11] (by omega) ?_ ?_
                · simp only [mIn_zero, n0, n1, n2, n3, n4, push_cast, ↓Int.toNat_natCast, ↓reduceIte, reduceCtorEq, Nat.reduceEqDiff, Nat.reduceLT, Nat.reduceLeDiff, Nat.reduceAdd, Nat.reduceSub, Nat.reduceMul, Int.reduceNeg, Int.reduceLE, Int.reduceLT, Int.reduceToNat]
                  try rfl
                · intro k hk
                  have hk4 : k = 0 := by omega
                  rcases hk4 with rfl
                  · simp only [undef, n0, n1, n2, n3, n4, hlx, hly, hsa, hsb, ixa0, ixa1, ixb0, ixb1, push_cast, ↓Int.toNat_natCast, ↓reduceIte, reduceCtorEq, Nat.reduceEqDiff, Nat.reduceLT, Nat.reduceLeDiff, Nat.reduceAdd, Nat.reduceSub, Nat.reduceMul, Int.reduceNeg, Int.reduceLE, Int.reduceLT, Int.reduceToNat]
                    (repeat (refine And.intro (by first | omega | decide) ?_))
                    refine loopK_normal (0 + 1) [0, 1, 2, 3, 4, 5, 6, 7, 8, 9, 10, 11] (by omega) (by omega) ?_
                    simp only [mTo_succ, n0, n1, n2, n3, n4, push_cast, ↓Int.toNat_natCast, ↓reduceIte, reduceCtorEq, Nat.reduceEqDiff, Nat.reduceLT, Nat.reduceLeDiff, Nat.reduceAdd, Nat.reduceSub, Nat.reduceMul, Int.reduceNeg, Int.reduceLE, Int.reduceLT, Int.reduceToNat]
                    try rfl
              · refine loop_rule (ι := Nat) (fun k => ⟨[(3, .x (.a (.p 0 0))), (4, .x (.a (.p 1 0))), (5, .x (.a (.p 2 0))), (6, .x (.a (.v (.bool false)))), (9, .x (.a (.p 3 0))), (11, .x (.a (.p 4 0))), (13, .x (.a (.p 5 0))), (14, .x (.a (.p 6 0))), (15, .x (.a (.v (.bool (decide (X.L.map Sl.l = Y.L.map Sl.l)))))), (21, .x (.a (.s 11 0 4 4))), (22, .x (.a (.v (.bool (mIn (txs X Y a0 a1 b0 b1) (mTo (txs X Y a0 a1 b0 b1) 1) 1 k))))), (23, .x (.a (.v (.int .i64 1)))), (24, .x (.a (.v (.int .i64 k))))], [.blk 39 (.u64 [a0, a1]), .blk 39 (.u64 [b0, b1]), .blk 40 (.c [.v (.slice X.A X.L.length X.c), .v (.slice Y.A Y.L.length Y.c)]), .blk 23 (.u8 (listSum X.L)), .blk 23 (.u8 (listSum Y.L)), .blk 23 (.u8 (sealOf a0 a1)), .blk 23 (.u8 (sealOf b0 b1)), .own 5 (.u8 (lsTo X.L X.L.length)), .own 5 (.u8 (lsTo Y.L Y.L.length)), .own 5 (.u8 (sealB a0 a1)), .own 5 (.u8 (sealB b0 b1)), .blk 27 (.c [.o 7, .o 8, .o 9, .o 10])]⟩) (fun k => k ≤ 1) (fun k => 1 - k) 0 [0, 1, 2, 3, 4, 5, 6, 7, 8, 9, 10, 11] (by omega) ?_ ?_
                · simp only [mIn_zero, n0, n1, n2, n3, n4, push_cast, ↓Int.toNat_natCast, ↓reduceIte, reduceCtorEq, Nat.reduceEqDiff, Nat.reduceLT, Nat.reduceLeDiff, Nat.reduceAdd, Nat.reduceSub, Nat.reduceMul, Int.reduceNeg, Int.reduceLE, Int.reduceLT, Int.reduceToNat]
                  try rfl
                · intro k hk
                  have hk4 : k = 0 ∨ k = 1 := by omega
                  rcases hk4 with rfl | rfl
                  · have hh : mIn (txs X Y a0 a1 b0 b1) (mTo (txs X Y a0 a1 b0 b1) 1) 1 (0 + 1) = (mIn (txs X Y a0 a1 b0 b1) (mTo (txs X Y a0 a1 b0 b1) 1) 1 0 || (decide ((lsTo Y.L Y.L.length) ≠ (lsTo X.L X.L.length)) && decide (shaOf (lsTo Y.L Y.L.length) = shaOf (lsTo X.L X.L.length)))) := rfl
                    cases hm : mIn (txs X Y a0 a1 b0 b1) (mTo (txs X Y a0 a1 b0 b1) 1) 1 0
                    · rw [hm, Bool.false_or] at hh
                      by_cases he : (lsTo Y.L Y.L.length) = (lsTo X.L X.L.length)
                      · have hc : ((bstr (lsTo Y.L Y.L.length)).toList == (bstr (lsTo X.L X.L.length)).toList) = true := by rw [bstr_cmp]; exact decide_eq_true he
                        rw [show decide ((lsTo Y.L Y.L.length) ≠ (lsTo X.L X.L.length)) = false from decide_eq_false (fun h => h he), Bool.false_and] at hh
                        simp only [hc, hm, undef, n0, n1, n2, n3, n4, hlx, hly, hsa, hsb, ixa0, ixa1, ixb0, ixb1, push_cast, ↓Int.toNat_natCast, ↓reduceIte, reduceCtorEq, Nat.reduceEqDiff, Nat.reduceLT, Nat.reduceLeDiff, Nat.reduceAdd, Nat.reduceSub, Nat.reduceMul, Int.reduceNeg, Int.reduceLE, Int.reduceLT, Int.reduceToNat]
                        (repeat (refine And.intro (by first | omega | decide) ?_))
                        refine draw_rule [(0, true), (1, true), (2, true), (3, true), (4, true), (5, true), (6, true), (7, true), (8, true), (9, true), (10, true), (11, true), (12, true), (13, true), (14, true), (15, true), (16, true), (17, true), (19, true), (20, true), (21, true), (22, true), (18, false), (23, false), (24, true), (25, true), (26, true), (27, true)] (by kernel_rfl) (by kernel_rfl) rfl (by kernel_rfl) ?_
                        simp only [hc, hm, undef, n0, n1, n2, n3, n4, hlx, hly, hsa, hsb, ixa0, ixa1, ixb0, ixb1, push_cast, ↓Int.toNat_natCast, ↓reduceIte, reduceCtorEq, Nat.reduceEqDiff, Nat.reduceLT, Nat.reduceLeDiff, Nat.reduceAdd, Nat.reduceSub, Nat.reduceMul, Int.reduceNeg, Int.reduceLE, Int.reduceLT, Int.reduceToNat]
                        (repeat (refine And.intro (by first | omega | decide) ?_))
                        refine loopK_normal (0 + 1) [0, 1, 2, 3, 4, 5, 6, 7, 8, 9, 10, 11] (by omega) (by omega) ?_
                        simp only [hh, n0, n1, n2, n3, n4, push_cast, ↓Int.toNat_natCast, ↓reduceIte, reduceCtorEq, Nat.reduceEqDiff, Nat.reduceLT, Nat.reduceLeDiff, Nat.reduceAdd, Nat.reduceSub, Nat.reduceMul, Int.reduceNeg, Int.reduceLE, Int.reduceLT, Int.reduceToNat]
                        try rfl
                      · have hc : ((bstr (lsTo Y.L Y.L.length)).toList == (bstr (lsTo X.L X.L.length)).toList) = false := by rw [bstr_cmp]; exact decide_eq_false he
                        rw [show decide ((lsTo Y.L Y.L.length) ≠ (lsTo X.L X.L.length)) = true from decide_eq_true he, Bool.true_and] at hh
                        have s1 := shaOf_length (lsTo Y.L Y.L.length)
                        have s2 := shaOf_length (lsTo X.L X.L.length)
                        simp only [hc, hm, s1, s2, undef, n0, n1, n2, n3, n4, hlx, hly, hsa, hsb, ixa0, ixa1, ixb0, ixb1, push_cast, ↓Int.toNat_natCast, ↓reduceIte, reduceCtorEq, Nat.reduceEqDiff, Nat.reduceLT, Nat.reduceLeDiff, Nat.reduceAdd, Nat.reduceSub, Nat.reduceMul, Int.reduceNeg, Int.reduceLE, Int.reduceLT, Int.reduceToNat]
                        (repeat (refine And.intro (by first | omega | decide) ?_))
                        refine draw_rule [(0, true), (1, true), (2, true), (3, true), (4, true), (5, true), (6, true), (7, true), (8, true), (9, true), (10, true), (11, true), (12, true), (13, true), (14, true), (15, true), (16, true), (17, true), (19, true), (20, true), (21, true), (22, true), (18, false), (23, false), (24, true), (25, true), (26, true), (27, true)] (by kernel_rfl) (by kernel_rfl) rfl (by kernel_rfl) ?_
                        simp only [hc, hm, s1, s2, undef, n0, n1, n2, n3, n4, hlx, hly, hsa, hsb, ixa0, ixa1, ixb0, ixb1, push_cast, ↓Int.toNat_natCast, ↓reduceIte, reduceCtorEq, Nat.reduceEqDiff, Nat.reduceLT, Nat.reduceLeDiff, Nat.reduceAdd, Nat.reduceSub, Nat.reduceMul, Int.reduceNeg, Int.reduceLE, Int.reduceLT, Int.reduceToNat]
                        (repeat (refine And.intro (by first | omega | decide) ?_))
                        refine callM_v rfl cb21 rfl (refSumOK_own 8 (lsTo Y.L Y.L.length) rfl (by omega)) (dOk_lt rfl) ?_
                        simp only [hc, hm, s1, s2, undef, n0, n1, n2, n3, n4, hlx, hly, hsa, hsb, ixa0, ixa1, ixb0, ixb1, push_cast, ↓Int.toNat_natCast, ↓reduceIte, reduceCtorEq, Nat.reduceEqDiff, Nat.reduceLT, Nat.reduceLeDiff, Nat.reduceAdd, Nat.reduceSub, Nat.reduceMul, Int.reduceNeg, Int.reduceLE, Int.reduceLT, Int.reduceToNat]
                        (repeat (refine And.intro (by first | omega | decide) ?_))
                        refine callM_v rfl cb21 rfl (refSumOK_own 7 (lsTo X.L X.L.length) rfl (by omega)) (dOk_lt rfl) ?_
                        simp only [hc, hm, s1, s2, undef, n0, n1, n2, n3, n4, hlx, hly, hsa, hsb, ixa0, ixa1, ixb0, ixb1, push_cast, ↓Int.toNat_natCast, ↓reduceIte, reduceCtorEq, Nat.reduceEqDiff, Nat.reduceLT, Nat.reduceLeDiff, Nat.reduceAdd, Nat.reduceSub, Nat.reduceMul, Int.reduceNeg, Int.reduceLE, Int.reduceLT, Int.reduceToNat]
                        (repeat (refine And.intro (by first | omega | decide) ?_))
                        refine loopK_normal (0 + 1) [0, 1, 2, 3, 4, 5, 6, 7, 8, 9, 10, 11] (by omega) (by omega) ?_
                        simp only [hh, n0, n1, n2, n3, n4, push_cast, ↓Int.toNat_natCast, ↓reduceIte, reduceCtorEq, Nat.reduceEqDiff, Nat.reduceLT, Nat.reduceLeDiff, Nat.reduceAdd, Nat.reduceSub, Nat.reduceMul, Int.reduceNeg, Int.reduceLE, Int.reduceLT, Int.reduceToNat]
                        try rfl
                    · rw [hm, Bool.true_or] at hh
                      simp only [hm, undef, n0, n1, n2, n3, n4, hlx, hly, hsa, hsb, ixa0, ixa1, ixb0, ixb1, push_cast, ↓Int.toNat_natCast, ↓reduceIte, reduceCtorEq, Nat.reduceEqDiff, Nat.reduceLT, Nat.reduceLeDiff, Nat.reduceAdd, Nat.reduceSub, Nat.reduceMul, Int.reduceNeg, Int.reduceLE, Int.reduceLT, Int.reduceToNat]
                      (repeat (refine And.intro (by first | omega | decide) ?_))
                      refine draw_rule [(0, true), (1, true), (2, true), (3, true), (4, true), (5, true), (6, true), (7, true), (8, true), (9, true), (10, true), (11, true), (12, true), (13, true), (14, true), (15, true), (16, true), (17, true), (19, true), (20, true), (21, true), (22, true), (18, false), (23, false), (24, true), (25, true), (26, true), (27, true)] (by kernel_rfl) (by kernel_rfl) rfl (by kernel_rfl) ?_
                      simp only [hm, undef, n0, n1, n2, n3, n4, hlx, hly, hsa, hsb, ixa0, ixa1, ixb0, ixb1, push_cast, ↓Int.toNat_natCast, ↓reduceIte, reduceCtorEq, Nat.reduceEqDiff, Nat.reduceLT, Nat.reduceLeDiff, Nat.reduceAdd, Nat.reduceSub, Nat.reduceMul, Int.reduceNeg, Int.reduceLE, Int.reduceLT, Int.reduceToNat]
                      (repeat (refine And.intro (by first | omega | decide) ?_))
                      refine loopK_normal (0 + 1) [0, 1, 2, 3, 4, 5, 6, 7, 8, 9, 10, 11] (by omega) (by omega) ?_
                      simp only [hh, n0, n1, n2, n3, n4, push_cast, ↓Int.toNat_natCast, ↓reduceIte, reduceCtorEq, Nat.reduceEqDiff, Nat.reduceLT, Nat.reduceLeDiff, Nat.reduceAdd, Nat.reduceSub, Nat.reduceMul, Int.reduceNeg, Int.reduceLE, Int.reduceLT, Int.reduceToNat]
                      try rfl
                  · simp only [undef, n0, n1, n2, n3, n4, hlx, hly, hsa, hsb, ixa0, ixa1, ixb0, ixb1, push_cast, ↓Int.toNat_natCast, ↓reduceIte, reduceCtorEq, Nat.reduceEqDiff, Nat.reduceLT, Nat.reduceLeDiff, Nat.reduceAdd, Nat.reduceSub, Nat.reduceMul, Int.reduceNeg, Int.reduceLE, Int.reduceLT, Int.reduceToNat]
                    (repeat (refine And.intro (by first | omega | decide) ?_))
                    refine loopK_normal (1 + 1) [0, 1, 2, 3, 4, 5, 6, 7, 8, 9, 10, 11] (by omega) (by omega) ?_
                    simp only [mTo_succ, n0, n1, n2, n3, n4, push_cast, ↓Int.toNat_natCast, ↓reduceIte, reduceCtorEq, Nat.reduceEqDiff, Nat.reduceLT, Nat.reduceLeDiff, Nat.reduceAdd, Nat.reduceSub, Nat.reduceMul, Int.reduceNeg, Int.reduceLE, Int.reduceLT, Int.reduceToNat]
                    try rfl
              · refine loop_rule (ι := Nat) (fun k => ⟨[(3, .x (.a (.p 0 0))), (4, .x (.a (.p 1 0))), (5, .x (.a (.p 2 0))), (6, .x (.a (.v (.bool false)))), (9, .x (.a (.p 3 0))), (11, .x (.a (.p 4 0))), (13, .x (.a (.p 5 0))), (14, .x (.a (.p 6 0))), (15, .x (.a (.v (.bool (decide (X.L.map Sl.l = Y.L.map Sl.l)))))), (21, .x (.a (.s 11 0 4 4))), (22, .x (.a (.v (.bool (mIn (txs X Y a0 a1 b0 b1) (mTo (txs X Y a0 a1 b0 b1) 2) 2 k))))), (23, .x (.a (.v (.int .i64 2)))), (24, .x (.a (.v (.int .i64 k))))], [.blk 39 (.u64 [a0, a1]), .blk 39 (.u64 [b0, b1]), .blk 40 (.c [.v (.slice X.A X.L.length X.c), .v (.slice Y.A Y.L.length Y.c)]), .blk 23 (.u8 (listSum X.L)), .blk 23 (.u8 (listSum Y.L)), .blk 23 (.u8 (sealOf a0 a1)), .blk 23 (.u8 (sealOf b0 b1)), .own 5 (.u8 (lsTo X.L X.L.length)), .own 5 (.u8 (lsTo Y.L Y.L.length)), .own 5 (.u8 (sealB a0 a1)), .own 5 (.u8 (sealB b0 b1)), .blk 27 (.c [.o 7, .o 8, .o 9, .o 10])]⟩) (fun k => k ≤ 2) (fun k => 2 - k) 0 [0, 1, 2, 3, 4, 5, 6, 7, 8, 9, 10, 11] (by omega) ?_ ?_
                · simp only [mIn_zero, n0, n1, n2, n3, n4, push_cast, ↓Int.toNat_natCast, ↓reduceIte, reduceCtorEq, Nat.reduceEqDiff, Nat.reduceLT, Nat.reduceLeDiff, Nat.reduceAdd, Nat.reduceSub, Nat.reduceMul, Int.reduceNeg, Int.reduceLE, Int.reduceLT, Int.reduceToNat]
                  try rfl
                · intro k hk
                  have hk4 : k = 0 ∨ k = 1 ∨ k = 2 := by omega
                  rcases hk4 with rfl | rfl | rfl
                  · have hh : mIn (txs X Y a0 a1 b0 b1) (mTo (txs X Y a0 a1 b0 b1) 2) 2 (0 + 1) = (mIn (txs X Y a0 a1 b0 b1) (mTo (txs X Y a0 a1 b0 b1) 2) 2 0 || (decide ((sealB a0 a1) ≠ (lsTo X.L X.L.length)) && decide (shaOf (sealB a0 a1) = shaOf (lsTo X.L X.L.length)))) := rfl
                    cases hm : mIn (txs X Y a0 a1 b0 b1) (mTo (txs X Y a0 a1 b0 b1) 2) 2 0
                    · rw [hm, Bool.false_or] at hh
                      by_cases he : (sealB a0 a1) = (lsTo X.L X.L.length)
                      · have hc : ((bstr (sealB a0 a1)).toList == (bstr (lsTo X.L X.L.length)).toList) = true := by rw [bstr_cmp]; exact decide_eq_true he
                        rw [show decide ((sealB a0 a1) ≠ (lsTo X.L X.L.length)) = false from decide_eq_false (fun h => h he), Bool.false_and] at hh
                        simp only [hc, hm, undef, n0, n1, n2, n3, n4, hlx, hly, hsa, hsb, ixa0, ixa1, ixb0, ixb1, push_cast, ↓Int.toNat_natCast, ↓reduceIte, reduceCtorEq, Nat.reduceEqDiff, Nat.reduceLT, Nat.reduceLeDiff, Nat.reduceAdd, Nat.reduceSub, Nat.reduceMul, Int.reduceNeg, Int.reduceLE, Int.reduceLT, Int.reduceToNat]
                        (repeat (refine And.intro (by first | omega | decide) ?_))
                        refine draw_rule [(0, true), (1, true), (2, true), (3, true), (4, true), (5, true), (6, true), (7, true), (8, true), (9, true), (10, true), (11, true), (12, true), (13, true), (14, true), (15, true), (16, true), (17, true), (19, true), (20, true), (21, true), (22, true), (18, false), (23, false), (24, true), (25, true), (26, true), (27, true)] (by kernel_rfl) (by kernel_rfl) rfl (by kernel_rfl) ?_
                        simp only [hc, hm, undef, n0, n1, n2, n3, n4, hlx, hly, hsa, hsb, ixa0, ixa1, ixb0, ixb1, push_cast, ↓Int.toNat_natCast, ↓reduceIte, reduceCtorEq, Nat.reduceEqDiff, Nat.reduceLT, Nat.reduceLeDiff, Nat.reduceAdd, Nat.reduceSub, Nat.reduceMul, Int.reduceNeg, Int.reduceLE, Int.reduceLT, Int.reduceToNat]
                        (repeat (refine And.intro (by first | omega | decide) ?_))
                        refine loopK_normal (0 + 1) [0, 1, 2, 3, 4, 5, 6, 7, 8, 9, 10, 11] (by omega) (by omega) ?_
                        simp only [hh, n0, n1, n2, n3, n4, push_cast, ↓Int.toNat_natCast, ↓reduceIte, reduceCtorEq, Nat.reduceEqDiff, Nat.reduceLT, Nat.reduceLeDiff, Nat.reduceAdd, Nat.reduceSub, Nat.reduceMul, Int.reduceNeg, Int.reduceLE, Int.reduceLT, Int.reduceToNat]
                        try rfl
                      · have hc : ((bstr (sealB a0 a1)).toList == (bstr (lsTo X.L X.L.length)).toList) = false := by rw [bstr_cmp]; exact decide_eq_false he
                        rw [show decide ((sealB a0 a1) ≠ (lsTo X.L X.L.length)) = true from decide_eq_true he, Bool.true_and] at hh
                        have s1 := shaOf_length (sealB a0 a1)
                        have s2 := shaOf_length (lsTo X.L X.L.length)
                        simp only [hc, hm, s1, s2, undef, n0, n1, n2, n3, n4, hlx, hly, hsa, hsb, ixa0, ixa1, ixb0, ixb1, push_cast, ↓Int.toNat_natCast, ↓reduceIte, reduceCtorEq, Nat.reduceEqDiff, Nat.reduceLT, Nat.reduceLeDiff, Nat.reduceAdd, Nat.reduceSub, Nat.reduceMul, Int.reduceNeg, Int.reduceLE, Int.reduceLT, Int.reduceToNat]
                        (repeat (refine And.intro (by first | omega | decide) ?_))
                        refine draw_rule [(0, true), (1, true), (2, true), (3, true), (4, true), (5, true), (6, true), (7, true), (8, true), (9, true), (10, true), (11, true), (12, true), (13, true), (14, true), (15, true), (16, true), (17, true), (19, true), (20, true), (21, true), (22, true), (18, false), (23, false), (24, true), (25, true), (26, true), (27, true)] (by kernel_rfl) (by kernel_rfl) rfl (by kernel_rfl) ?_
                        simp only [hc, hm, s1, s2, undef, n0, n1, n2, n3, n4, hlx, hly, hsa, hsb, ixa0, ixa1, ixb0, ixb1, push_cast, ↓Int.toNat_natCast, ↓reduceIte, reduceCtorEq, Nat.reduceEqDiff, Nat.reduceLT, Nat.reduceLeDiff, Nat.reduceAdd, Nat.reduceSub, Nat.reduceMul, Int.reduceNeg, Int.reduceLE, Int.reduceLT, Int.reduceToNat]
                        (repeat (refine And.intro (by first | omega | decide) ?_))
                        refine callM_v rfl cb21 rfl (refSumOK_own 9 (sealB a0 a1) rfl (by rw [sealB_length]; omega)) (dOk_lt rfl) ?_
                        simp only [hc, hm, s1, s2, undef, n0, n1, n2, n3, n4, hlx, hly, hsa, hsb, ixa0, ixa1, ixb0, ixb1, push_cast, ↓Int.toNat_natCast, ↓reduceIte, reduceCtorEq, Nat.reduceEqDiff, Nat.reduceLT, Nat.reduceLeDiff, Nat.reduceAdd, Nat.reduceSub, Nat.reduceMul, Int.reduceNeg, Int.reduceLE, Int.reduceLT, Int.reduceToNat]
                        (repeat (refine And.intro (by first | omega | decide) ?_))
                        refine callM_v rfl cb21 rfl (refSumOK_own 7 (lsTo X.L X.L.length) rfl (by omega)) (dOk_lt rfl) ?_
                        simp only [hc, hm, s1, s2, undef, n0, n1, n2, n3, n4, hlx, hly, hsa, hsb, ixa0, ixa1, ixb0, ixb1, push_cast, ↓Int.toNat_natCast, ↓reduceIte, reduceCtorEq, Nat.reduceEqDiff, Nat.reduceLT, Nat.reduceLeDiff, Nat.reduceAdd, Nat.reduceSub, Nat.reduceMul, Int.reduceNeg, Int.reduceLE, Int.reduceLT, Int.reduceToNat]
                        (repeat (refine And.intro (by first | omega | decide) ?_))
                        refine loopK_normal (0 + 1) [0, 1, 2, 3, 4, 5, 6, 7, 8, 9, 10, 11] (by omega) (by omega) ?_
                        simp only [hh, n0, n1, n2, n3, n4, push_cast, ↓Int.toNat_natCast, ↓reduceIte, reduceCtorEq, Nat.reduceEqDiff, Nat.reduceLT, Nat.reduceLeDiff, Nat.reduceAdd, Nat.reduceSub, Nat.reduceMul, Int.reduceNeg, Int.reduceLE, Int.reduceLT, Int.reduceToNat]
                        try rfl
                    · rw [hm, Bool.true_or] at hh
                      simp only [hm, undef, n0, n1, n2, n3, n4, hlx, hly, hsa, hsb, ixa0, ixa1, ixb0, ixb1, push_cast, ↓Int.toNat_natCast, ↓reduceIte, reduceCtorEq, Nat.reduceEqDiff, Nat.reduceLT, Nat.reduceLeDiff, Nat.reduceAdd, Nat.reduceSub, Nat.reduceMul, Int.reduceNeg, Int.reduceLE, Int.reduceLT, Int.reduceToNat]
                      (repeat (refine And.intro (by first | omega | decide) ?_))
                      refine draw_rule [(0, true), (1, true), (2, true), (3, true), (4, true), (5, true), (6, true), (7, true), (8, true), (9, true), (10, true), (11, true), (12, true), (13, true), (14, true), (15, true), (16, true), (17, true), (19, true), (20, true), (21, true), (22, true), (18, false), (23, false), (24, true), (25, true), (26, true), (27, true)] (by kernel_rfl) (by kernel_rfl) rfl (by kernel_rfl) ?_
                      simp only [hm, undef, n0, n1, n2, n3, n4, hlx, hly, hsa, hsb, ixa0, ixa1, ixb0, ixb1, push_cast, ↓Int.toNat_natCast, ↓reduceIte, reduceCtorEq, Nat.reduceEqDiff, Nat.reduceLT, Nat.reduceLeDiff, Nat.reduceAdd, Nat.reduceSub, Nat.reduceMul, Int.reduceNeg, Int.reduceLE, Int.reduceLT, Int.reduceToNat]
                      (repeat (refine And.intro (by first | omega | decide) ?_))
                      refine loopK_normal (0 + 1) [0, 1, 2, 3, 4, 5, 6, 7, 8, 9, 10, 11] (by omega) (by omega) ?_
                      simp only [hh, n0, n1, n2, n3, n4, push_cast, ↓Int.toNat_natCast, ↓reduceIte, reduceCtorEq, Nat.reduceEqDiff, Nat.reduceLT, Nat.reduceLeDiff, Nat.reduceAdd, Nat.reduceSub, Nat.reduceMul, Int.reduceNeg, Int.reduceLE, Int.reduceLT, Int.reduceToNat]
                      try rfl
                  · have hh : mIn (txs X Y a0 a1 b0 b1) (mTo (txs X Y a0 a1 b0 b1) 2) 2 (1 + 1) = (mIn (txs X Y a0 a1 b0 b1) (mTo (txs X Y a0 a1 b0 b1) 2) 2 1 || (decide ((sealB a0 a1) ≠ (lsTo Y.L Y.L.length)) && decide (shaOf (sealB a0 a1) = shaOf (lsTo Y.L Y.L.length)))) := rfl
                    cases hm : mIn (txs X Y a0 a1 b0 b1) (mTo (txs X Y a0 a1 b0 b1) 2) 2 1
                    · rw [hm, Bool.false_or] at hh
                      by_cases he : (sealB a0 a1) = (lsTo Y.L Y.L.length)
                      · have hc : ((bstr (sealB a0 a1)).toList == (bstr (lsTo Y.L Y.L.length)).toList) = true := by rw [bstr_cmp]; exact decide_eq_true he
                        rw [show decide ((sealB a0 a1) ≠ (lsTo Y.L Y.L.length)) = false from decide_eq_false (fun h => h he), Bool.false_and] at hh
                        simp only [hc, hm, undef, n0, n1, n2, n3, n4, hlx, hly, hsa, hsb, ixa0, ixa1, ixb0, ixb1, push_cast, ↓Int.toNat_natCast, ↓reduceIte, reduceCtorEq, Nat.reduceEqDiff, Nat.reduceLT, Nat.reduceLeDiff, Nat.reduceAdd, Nat.reduceSub, Nat.reduceMul, Int.reduceNeg, Int.reduceLE, Int.reduceLT, Int.reduceToNat]
                        (repeat (refine And.intro (by first | omega | decide) ?_))
                        refine draw_rule [(0, true), (1, true), (2, true), (3, true), (4, true), (5, true), (6, true), (7, true), (8, true), (9, true), (10, true), (11, true), (12, true), (13, true), (14, true), (15, true), (16, true), (17, true), (19, true), (20, true), (21, true), (22, true), (18, false), (23, false), (24, true), (25, true), (26, true), (27, true)] (by kernel_rfl) (by kernel_rfl) rfl (by kernel_rfl) ?_
                        simp only [hc, hm, undef, n0, n1, n2, n3, n4, hlx, hly, hsa, hsb, ixa0, ixa1, ixb0, ixb1, push_cast, ↓Int.toNat_natCast, ↓reduceIte, reduceCtorEq, Nat.reduceEqDiff, Nat.reduceLT, Nat.reduceLeDiff, Nat.reduceAdd, Nat.reduceSub, Nat.reduceMul, Int.reduceNeg, Int.reduceLE, Int.reduceLT, Int.reduceToNat]
                        (repeat (refine And.intro (by first | omega | decide) ?_))
                        refine loopK_normal (1 + 1) [0, 1, 2, 3, 4, 5, 6, 7, 8, 9, 10, 11] (by omega) (by omega) ?_
                        simp only [hh, n0, n1, n2, n3, n4, push_cast, ↓Int.toNat_natCast, ↓reduceIte, reduceCtorEq, Nat.reduceEqDiff, Nat.reduceLT, Nat.reduceLeDiff, Nat.reduceAdd, Nat.reduceSub, Nat.reduceMul, Int.reduceNeg, Int.reduceLE, Int.reduceLT, Int.reduceToNat]
                        try rfl
                      · have hc : ((bstr (sealB a0 a1)).toList == (bstr (lsTo Y.L Y.L.length)).toList) = false := by rw [bstr_cmp]; exact decide_eq_false he
                        rw [show decide ((sealB a0 a1) ≠ (lsTo Y.L Y.L.length)) = true from decide_eq_true he, Bool.true_and] at hh
                        have s1 := shaOf_length (sealB a0 a1)
                        have s2 := shaOf_length (lsTo Y.L Y.L.length)
                        simp only [hc, hm, s1, s2, undef, n0, n1, n2, n3, n4, hlx, hly, hsa, hsb, ixa0, ixa1, ixb0, ixb1, push_cast, ↓Int.toNat_natCast, ↓reduceIte, reduceCtorEq, Nat.reduceEqDiff, Nat.reduceLT, Nat.reduceLeDiff, Nat.reduceAdd, Nat.reduceSub, Nat.reduceMul, Int.reduceNeg, Int.reduceLE, Int.reduceLT, Int.reduceToNat]
                        (repeat (refine And.intro (by first | omega | decide) ?_))
                        refine draw_rule [(0, true), (1, true), (2, true), (3, true), (4, true), (5, true), (6, true), (7, true), (8, true), (9, true), (10, true), (11, true), (12, true), (13, true), (14, true), (15, true), (16, true), (17, true), (19, true), (20, true), (21, true), (22, true), (18, false), (23, false), (24, true), (25, true), (26, true), (27, true)] (by kernel_rfl) (by kernel_rfl) rfl (by kernel_rfl) ?_
                        simp only [hc, hm, s1, s2, undef, n0, n1, n2, n3, n4, hlx, hly, hsa, hsb, ixa0, ixa1, ixb0, ixb1, push_cast, ↓Int.toNat_natCast, ↓reduceIte, reduceCtorEq, Nat.reduceEqDiff, Nat.reduceLT, Nat.reduceLeDiff, Nat.reduceAdd, Nat.reduceSub, Nat.reduceMul, Int.reduceNeg, Int.reduceLE, Int.reduceLT, Int.reduceToNat]
                        (repeat (refine And.intro (by first | omega | decide) ?_))
                        refine callM_v rfl cb21 rfl (refSumOK_own 9 (sealB a0 a1) rfl (by rw [sealB_length]; omega)) (dOk_lt rfl) ?_
                        simp only [hc, hm, s1, s2, undef, n0, n1, n2, n3, n4, hlx, hly, hsa, hsb, ixa0, ixa1, ixb0, ixb1, push_cast, ↓Int.toNat_natCast, ↓reduceIte, reduceCtorEq, Nat.reduceEqDiff, Nat.reduceLT, Nat.reduceLeDiff, Nat.reduceAdd, Nat.reduceSub, Nat.reduceMul, Int.reduceNeg, Int.reduceLE, Int.reduceLT, Int.reduceToNat]
                        (repeat (refine And.intro (by first | omega | decide) ?_))
                        refine callM_v rfl cb21 rfl (refSumOK_own 8 (lsTo Y.L Y.L.length) rfl (by omega)) (dOk_lt rfl) ?_
                        simp only [hc, hm, s1, s2, undef, n0, n1, n2, n3, n4, hlx, hly, hsa, hsb, ixa0, ixa1, ixb0, ixb1, push_cast, ↓Int.toNat_natCast, ↓reduceIte, reduceCtorEq, Nat.reduceEqDiff, Nat.reduceLT, Nat.reduceLeDiff, Nat.reduceAdd, Nat.reduceSub, Nat.reduceMul, Int.reduceNeg, Int.reduceLE, Int.reduceLT, Int.reduceToNat]
                        (repeat (refine And.intro (by first | omega | decide) ?_))
                        refine loopK_normal (1 + 1) [0, 1, 2, 3, 4, 5, 6, 7, 8, 9, 10, 11] (by omega) (by omega) ?_
                        simp only [hh, n0, n1, n2, n3, n4, push_cast, ↓Int.toNat_natCast, ↓reduceIte, reduceCtorEq, Nat.reduceEqDiff, Nat.reduceLT, Nat.reduceLeDiff, Nat.reduceAdd, Nat.reduceSub, Nat.reduceMul, Int.reduceNeg, Int.reduceLE, Int.reduceLT, Int.reduceToNat]
                        try rfl
                    · rw [hm, Bool.true_or] at hh
                      simp only [hm, undef, n0, n1, n2, n3, n4, hlx, hly, hsa, hsb, ixa0, ixa1, ixb0, ixb1, push_cast, ↓Int.toNat_natCast, ↓reduceIte, reduceCtorEq, Nat.reduceEqDiff, Nat.reduceLT, Nat.reduceLeDiff, Nat.reduceAdd, Nat.reduceSub, Nat.reduceMul, Int.reduceNeg, Int.reduceLE, Int.reduceLT, Int.reduceToNat]
                      (repeat (refine And.intro (by first | omega | decide) ?_))
                      refine draw_rule [(0, true), (1, true), (2, true), (3, true), (4, true), (5, true), (6, true), (7, true), (8, true), (9, true), (10, true), (11, true), (12, true), (13, true), (14, true), (15, true), (16, true), (17, true), (19, true), (20, true), (21, true), (22, true), (18, false), (23, false), (24, true), (25, true), (26, true), (27, true)] (by kernel_rfl) (by kernel_rfl) rfl (by kernel_rfl) ?_
                      simp only [hm, undef, n0, n1, n2, n3, n4, hlx, hly, hsa, hsb, ixa0, ixa1, ixb0, ixb1, push_cast, ↓Int.toNat_natCast, ↓reduceIte, reduceCtorEq, Nat.reduceEqDiff, Nat.reduceLT, Nat.reduceLeDiff, Nat.reduceAdd, Nat.reduceSub, Nat.reduceMul, Int.reduceNeg, Int.reduceLE, Int.reduceLT, Int.reduceToNat]
                      (repeat (refine And.intro (by first | omega | decide) ?_))
                      refine loopK_normal (1 + 1) [0, 1, 2, 3, 4, 5, 6, 7, 8, 9, 10, 11] (by omega) (by omega) ?_
                      simp only [hh, n0, n1, n2, n3, n4, push_cast, ↓Int.toNat_natCast, ↓reduceIte, reduceCtorEq, Nat.reduceEqDiff, Nat.reduceLT, Nat.reduceLeDiff, Nat.reduceAdd, Nat.reduceSub, Nat.reduceMul, Int.reduceNeg, Int.reduceLE, Int.reduceLT, Int.reduceToNat]
                      try rfl
                  · simp only [undef, n0, n1, n2, n3, n4, hlx, hly, hsa, hsb, ixa0, ixa1, ixb0, ixb1, push_cast, ↓Int.toNat_natCast, ↓reduceIte, reduceCtorEq, Nat.reduceEqDiff, Nat.reduceLT, Nat.reduceLeDiff, Nat.reduceAdd, Nat.reduceSub, Nat.reduceMul, Int.reduceNeg, Int.reduceLE, Int.reduceLT, Int.reduceToNat]
                    (repeat (refine And.intro (by first | omega | decide) ?_))
                    refine loopK_normal (2 + 1) [0, 1, 2, 3, 4, 5, 6, 7, 8, 9, 10, 11] (by omega) (by omega) ?_
                    simp only [mTo_succ, n0, n1, n2, n3, n4, push_cast, ↓Int.toNat_natCast, ↓reduceIte, reduceCtorEq, Nat.reduceEqDiff, Nat.reduceLT, Nat.reduceLeDiff, Nat.reduceAdd, Nat.reduceSub, Nat.reduceMul, Int.reduceNeg, Int.reduceLE, Int.reduceLT, Int.reduceToNat]
                    try rfl
              · refine loop_rule (ι := Nat) (fun k => ⟨[(3, .x (.a (.p 0 0))), (4, .x (.a (.p 1 0))), (5, .x (.a (.p 2 0))), (6, .x (.a (.v (.bool false)))), (9, .x (.a (.p 3 0))), (11, .x (.a (.p 4 0))), (13, .x (.a (.p 5 0))), (14, .x (.a (.p 6 0))), (15, .x (.a (.v (.bool (decide (X.L.map Sl.l = Y.L.map Sl.l)))))), (21, .x (.a (.s 11 0 4 4))), (22, .x (.a (.v (.bool (mIn (txs X Y a0 a1 b0 b1) (mTo (txs X Y a0 a1 b0 b1) 3) 3 k))))), (23, .x (.a (.v (.int .i64 3)))), (24, .x (.a (.v (.int .i64 k))))], [.blk 39 (.u64 [a0, a1]), .blk 39 (.u64 [b0, b1]), .blk 40 (.c [.v (.slice X.A X.L.length X.c), .v (.slice Y.A Y.L.length Y.c)]), .blk 23 (.u8 (listSum X.L)), .blk 23 (.u8 (listSum Y.L)), .blk 23 (.u8 (sealOf a0 a1)), .blk 23 (.u8 (sealOf b0 b1)), .own 5 (.u8 (lsTo X.L X.L.length)), .own 5 (.u8 (lsTo Y.L Y.L.length)), .own 5 (.u8 (sealB a0 a1)), .own 5 (.u8 (sealB b0 b1)), .blk 27 (.c [.o 7, .o 8, .o 9, .o 10])]⟩) (fun k => k ≤ 3) (fun k => 3 - k) 0 [0, 1, 2, 3, 4, 5, 6, 7, 8, 9, 10, 11] (by omega) ?_ ?_
                · simp only [mIn_zero, n0, n1, n2, n3, n4, push_cast, ↓Int.toNat_natCast, ↓reduceIte, reduceCtorEq, Nat.reduceEqDiff, Nat.reduceLT, Nat.reduceLeDiff, Nat.reduceAdd, Nat.reduceSub, Nat.reduceMul, Int.reduceNeg, Int.reduceLE, Int.reduceLT, Int.reduceToNat]
                  try rfl
                · intro k hk
                  have hk4 : k = 0 ∨ k = 1 ∨ k = 2 ∨ k = 3 := by omega
                  rcases hk4 with rfl | rfl | rfl | rfl
                  · have hh : mIn (txs X Y a0 a1 b0 b1) (mTo (txs X Y a0 a1 b0 b1) 3) 3 (0 + 1) = (mIn (txs X Y a0 a1 b0 b1) (mTo (txs X Y a0 a1 b0 b1) 3) 3 0 || (decide ((sealB b0 b1) ≠ (lsTo X.L X.L.length)) && decide (shaOf (sealB b0 b1) = shaOf (lsTo X.L X.L.length)))) := rfl
                    cases hm : mIn (txs X Y a0 a1 b0 b1) (mTo (txs X Y a0 a1 b0 b1) 3) 3 0
                    · rw [hm, Bool.false_or] at hh
                      by_cases he : (sealB b0 b1) = (lsTo X.L X.L.length)
                      · have hc : ((bstr (sealB b0 b1)).toList == (bstr (lsTo X.L X.L.length)).toList) = true := by rw [bstr_cmp]; exact decide_eq_true he
                        rw [show decide ((sealB b0 b1) ≠ (lsTo X.L X.L.length)) = false from decide_eq_false (fun h => h he), Bool.false_and] at hh
                        simp only [hc, hm, undef, n0, n1, n2, n3, n4, hlx, hly, hsa, hsb, ixa0, ixa1, ixb0, ixb1, push_cast, ↓Int.toNat_natCast, ↓reduceIte, reduceCtorEq, Nat.reduceEqDiff, Nat.reduceLT, Nat.reduceLeDiff, Nat.reduceAdd, Nat.reduceSub, Nat.reduceMul, Int.reduceNeg, Int.reduceLE, Int.reduceLT, Int.reduceToNat]
                        (repeat (refine And.intro (by first | omega | decide) ?_))
                        refine draw_rule [(0, true), (1, true), (2, true), (3, true), (4, true), (5, true), (6, true), (7, true), (8, true), (9, true), (10, true), (11, true), (12, true), (13, true), (14, true), (15, true), (16, true), (17, true), (19, true), (20, true), (21, true), (22, true), (18, false), (23, false), (24, true), (25, true), (26, true), (27, true)] (by kernel_rfl) (by kernel_rfl) rfl (by kernel_rfl) ?_
                        simp only [hc, hm, undef, n0, n1, n2, n3, n4, hlx, hly, hsa, hsb, ixa0, ixa1, ixb0, ixb1, push_cast, ↓Int.toNat_natCast, ↓reduceIte, reduceCtorEq, Nat.reduceEqDiff, Nat.reduceLT, Nat.reduceLeDiff, Nat.reduceAdd, Nat.reduceSub, Nat.reduceMul, Int.reduceNeg, Int.reduceLE, Int.reduceLT, Int.reduceToNat]
                        (repeat (refine And.intro (by first | omega | decide) ?_))
                        refine loopK_normal (0 + 1) [0, 1, 2, 3, 4, 5, 6, 7, 8, 9, 10, 11] (by omega) (by omega) ?_
                        simp only [hh, n0, n1, n2, n3, n4, push_cast, ↓Int.toNat_natCast, ↓reduceIte, reduceCtorEq, Nat.reduceEqDiff, Nat.reduceLT, Nat.reduceLeDiff, Nat.reduceAdd, Nat.reduceSub, Nat.reduceMul, Int.reduceNeg, Int.reduceLE, Int.reduceLT, Int.reduceToNat]
                        try rfl
                      · have hc : ((bstr (sealB b0 b1)).toList == (bstr (lsTo X.L X.L.length)).toList) = false := by rw [bstr_cmp]; exact decide_eq_false he
                        rw [show decide ((sealB b0 b1) ≠ (lsTo X.L X.L.length)) = true from decide_eq_true he, Bool.true_and] at hh
                        have s1 := shaOf_length (sealB b0 b1)
                        have s2 := shaOf_length (lsTo X.L X.L.length)
                        simp only [hc, hm, s1, s2, undef, n0, n1, n2, n3, n4, hlx, hly, hsa, hsb, ixa0, ixa1, ixb0, ixb1, push_cast, ↓Int.toNat_natCast, ↓reduceIte, reduceCtorEq, Nat.reduceEqDiff, Nat.reduceLT, Nat.reduceLeDiff, Nat.reduceAdd, Nat.reduceSub, Nat.reduceMul, Int.reduceNeg, Int.reduceLE, Int.reduceLT, Int.reduceToNat]
                        (repeat (refine And.intro (by first | omega | decide) ?_))
                        refine draw_rule [(0, true), (1, true), (2, true), (3, true), (4, true), (5, true), (6, true), (7, true), (8, true), (9, true), (10, true), (11, true), (12, true), (13, true), (14, true), (15, true), (16, true), (17, true), (19, true), (20, true), (21, true), (22, true), (18, false), (23, false), (24, true), (25, true), (26, true), (27, true)] (by kernel_rfl) (by kernel_rfl) rfl (by kernel_rfl) ?_
                        simp only [hc, hm, s1, s2, undef, n0, n1, n2, n3, n4, hlx, hly, hsa, hsb, ixa0, ixa1, ixb0, ixb1, push_cast, ↓Int.toNat_natCast, ↓reduceIte, reduceCtorEq, Nat.reduceEqDiff, Nat.reduceLT, Nat.reduceLeDiff, Nat.reduceAdd, Nat.reduceSub, Nat.reduceMul, Int.reduceNeg, Int.reduceLE, Int.reduceLT, Int.reduceToNat]
                        (repeat (refine And.intro (by first | omega | decide) ?_))
                        refine callM_v rfl cb21 rfl (refSumOK_own 10 (sealB b0 b1) rfl (by rw [sealB_length]; omega)) (dOk_lt rfl) ?_
                        simp only [hc, hm, s1, s2, undef, n0, n1, n2, n3, n4, hlx, hly, hsa, hsb, ixa0, ixa1, ixb0, ixb1, push_cast, ↓Int.toNat_natCast, ↓reduceIte, reduceCtorEq, Nat.reduceEqDiff, Nat.reduceLT, Nat.reduceLeDiff, Nat.reduceAdd, Nat.reduceSub, Nat.reduceMul, Int.reduceNeg, Int.reduceLE, Int.reduceLT, Int.reduceToNat]
                        (repeat (refine And.intro (by first | omega | decide) ?_))
                        refine callM_v rfl cb21 rfl (refSumOK_own 7 (lsTo X.L X.L.length) rfl (by omega)) (dOk_lt rfl) ?_
                        simp only [hc, hm, s1, s2, undef, n0, n1, n2, n3, n4, hlx, hly, hsa, hsb, ixa0, ixa1, ixb0, ixb1, push_cast, ↓Int.toNat_natCast, ↓reduceIte, reduceCtorEq, Nat.reduceEqDiff, Nat.reduceLT, Nat.reduceLeDiff, Nat.reduceAdd, Nat.reduceSub, Nat.reduceMul, Int.reduceNeg, Int.reduceLE, Int.reduceLT, Int.reduceToNat]
                        (repeat (refine And.intro (by first | omega | decide) ?_))
                        refine loopK_normal (0 + 1) [0, 1, 2, 3, 4, 5, 6, 7, 8, 9, 10, 11] (by omega) (by omega) ?_
                        simp only [hh, n0, n1, n2, n3, n4, push_cast, ↓Int.toNat_natCast, ↓reduceIte, reduceCtorEq, Nat.reduceEqDiff, Nat.reduceLT, Nat.reduceLeDiff, Nat.reduceAdd, Nat.reduceSub, Nat.reduceMul, Int.reduceNeg, Int.reduceLE, Int.reduceLT, Int.reduceToNat]
                        try rfl
                    · rw [hm, Bool.true_or] at hh
                      simp only [hm, undef, n0, n1, n2, n3, n4, hlx, hly, hsa, hsb, ixa0, ixa1, ixb0, ixb1, push_cast, ↓Int.toNat_natCast, ↓reduceIte, reduceCtorEq, Nat.reduceEqDiff, Nat.reduceLT, Nat.reduceLeDiff, Nat.reduceAdd, Nat.reduceSub, Nat.reduceMul, Int.reduceNeg, Int.reduceLE, Int.reduceLT, Int.reduceToNat]
                      (repeat (refine And.intro (by first | omega | decide) ?_))
                      refine draw_rule [(0, true), (1, true), (2, true), (3, true), (4, true), (5, true), (6, true), (7, true), (8, true), (9, true), (10, true), (11, true), (12, true), (13, true), (14, true), (15, true), (16, true), (17, true), (19, true), (20, true), (21, true), (22, true), (18, false), (23, false), (24, true), (25, true), (26, true), (27, true)] (by kernel_rfl) (by kernel_rfl) rfl (by kernel_rfl) ?_
                      simp only [hm, undef, n0, n1, n2, n3, n4, hlx, hly, hsa, hsb, ixa0, ixa1, ixb0, ixb1, push_cast, ↓Int.toNat_natCast, ↓reduceIte, reduceCtorEq, Nat.reduceEqDiff, Nat.reduceLT, Nat.reduceLeDiff, Nat.reduceAdd, Nat.reduceSub, Nat.reduceMul, Int.reduceNeg, Int.reduceLE, Int.reduceLT, Int.reduceToNat]
                      (repeat (refine And.intro (by first | omega | decide) ?_))
                      refine loopK_normal (0 + 1) [0, 1, 2, 3, 4, 5, 6, 7, 8, 9, 10, 11] (by omega) (by omega) ?_
                      simp only [hh, n0, n1, n2, n3, n4, push_cast, ↓Int.toNat_natCast, ↓reduceIte, reduceCtorEq, Nat.reduceEqDiff, Nat.reduceLT, Nat.reduceLeDiff, Nat.reduceAdd, Nat.reduceSub, Nat.reduceMul, Int.reduceNeg, Int.reduceLE, Int.reduceLT, Int.reduceToNat]
                      try rfl
                  · have hh : mIn (txs X Y a0 a1 b0 b1) (mTo (txs X Y a0 a1 b0 b1) 3) 3 (1 + 1) = (mIn (txs X Y a0 a1 b0 b1) (mTo (txs X Y a0 a1 b0 b1) 3) 3 1 || (decide ((sealB b0 b1) ≠ (lsTo Y.L Y.L.length)) && decide (shaOf (sealB b0 b1) = shaOf (lsTo Y.L Y.L.length)))) := rfl
                    cases hm : mIn (txs X Y a0 a1 b0 b1) (mTo (txs X Y a0 a1 b0 b1) 3) 3 1
                    · rw [hm, Bool.false_or] at hh
                      by_cases he : (sealB b0 b1) = (lsTo Y.L Y.L.length)
                      · have hc : ((bstr (sealB b0 b1)).toList == (bstr (lsTo Y.L Y.L.length)).toList) = true := by rw [bstr_cmp]; exact decide_eq_true he
                        rw [show decide ((sealB b0 b1) ≠ (lsTo Y.L Y.L.length)) = false from decide_eq_false (fun h => h he), Bool.false_and] at hh
                        simp only [hc, hm, undef, n0, n1, n2, n3, n4, hlx, hly, hsa, hsb, ixa0, ixa1, ixb0, ixb1, push_cast, ↓Int.toNat_natCast, ↓reduceIte, reduceCtorEq, Nat.reduceEqDiff, Nat.reduceLT, Nat.reduceLeDiff, Nat.reduceAdd, Nat.reduceSub, Nat.reduceMul, Int.reduceNeg, Int.reduceLE, Int.reduceLT, Int.reduceToNat]
                        (repeat (refine And.intro (by first | omega | decide) ?_))
                        refine draw_rule [(0, true), (1, true), (2, true), (3, true), (4, true), (5, true), (6, true), (7, true), (8, true), (9, true), (10, true), (11, true), (12, true), (13, true), (14, true), (15, true), (16, true), (17, true), (19, true), (20, true), (21, true), (22, true), (18, false), (23, false), (24, true), (25, true), (26, true), (27, true)] (by kernel_rfl) (by kernel_rfl) rfl (by kernel_rfl) ?_
                        simp only [hc, hm, undef, n0, n1, n2, n3, n4, hlx, hly, hsa, hsb, ixa0, ixa1, ixb0, ixb1, push_cast, ↓Int.toNat_natCast, ↓reduceIte, reduceCtorEq, Nat.reduceEqDiff, Nat.reduceLT, Nat.reduceLeDiff, Nat.reduceAdd, Nat.reduceSub, Nat.reduceMul, Int.reduceNeg, Int.reduceLE, Int.reduceLT, Int.reduceToNat]
                        (repeat (refine And.intro (by first | omega | decide) ?_))
                        refine loopK_normal (1 + 1) [0, 1, 2, 3, 4, 5, 6, 7, 8, 9, 10, 11] (by omega) (by omega) ?_
                        simp only [hh, n0, n1, n2, n3, n4, push_cast, ↓Int.toNat_natCast, ↓reduceIte, reduceCtorEq, Nat.reduceEqDiff, Nat.reduceLT, Nat.reduceLeDiff, Nat.reduceAdd, Nat.reduceSub, Nat.reduceMul, Int.reduceNeg, Int.reduceLE, Int.reduceLT, Int.reduceToNat]
                        try rfl
                      · have hc : ((bstr (sealB b0 b1)).toList == (bstr (lsTo Y.L Y.L.length)).toList) = false := by rw [bstr_cmp]; exact decide_eq_false he
                        rw [show decide ((sealB b0 b1) ≠ (lsTo Y.L Y.L.length)) = true from decide_eq_true he, Bool.true_and] at hh
                        have s1 := shaOf_length (sealB b0 b1)
                        have s2 := shaOf_length (lsTo Y.L Y.L.length)
                        simp only [hc, hm, s1, s2, undef, n0, n1, n2, n3, n4, hlx, hly, hsa, hsb, ixa0, ixa1, ixb0, ixb1, push_cast, ↓Int.toNat_natCast, ↓reduceIte, reduceCtorEq, Nat.reduceEqDiff, Nat.reduceLT, Nat.reduceLeDiff, Nat.reduceAdd, Nat.reduceSub, Nat.reduceMul, Int.reduceNeg, Int.reduceLE, Int.reduceLT, Int.reduceToNat]
                        (repeat (refine And.intro (by first | omega | decide) ?_))
                        refine draw_rule [(0, true), (1, true), (2, true), (3, true), (4, true), (5, true), (6, true), (7, true), (8, true), (9, true), (10, true), (11, true), (12, true), (13, true), (14, true), (15, true), (16, true), (17, true), (19, true), (20, true), (21, true), (22, true), (18, false), (23, false), (24, true), (25, true), (26, true), (27, true)] (by kernel_rfl) (by kernel_rfl) rfl (by kernel_rfl) ?_
                        simp only [hc, hm, s1, s2, undef, n0, n1, n2, n3, n4, hlx, hly, hsa, hsb, ixa0, ixa1, ixb0, ixb1, push_cast, ↓Int.toNat_natCast, ↓reduceIte, reduceCtorEq, Nat.reduceEqDiff, Nat.reduceLT, Nat.reduceLeDiff, Nat.reduceAdd, Nat.reduceSub, Nat.reduceMul, Int.reduceNeg, Int.reduceLE, Int.reduceLT, Int.reduceToNat]
                        (repeat (refine And.intro (by first | omega | decide) ?_))
                        refine callM_v rfl cb21 rfl (refSumOK_own 10 (sealB b0 b1) rfl (by rw [sealB_length]; omega)) (dOk_lt rfl) ?_
                        simp only [hc, hm, s1, s2, undef, n0, n1, n2, n3, n4, hlx, hly, hsa, hsb, ixa0, ixa1, ixb0, ixb1, push_cast, ↓Int.toNat_natCast, ↓reduceIte, reduceCtorEq, Nat.reduceEqDiff, Nat.reduceLT, Nat.reduceLeDiff, Nat.reduceAdd, Nat.reduceSub, Nat.reduceMul, Int.reduceNeg, Int.reduceLE, Int.reduceLT, Int.reduceToNat]
                        (repeat (refine And.intro (by first | omega | decide) ?_))
                        refine callM_v rfl cb21 rfl (refSumOK_own 8 (lsTo Y.L Y.L.length) rfl (by omega)) (dOk_lt rfl) ?_
                        simp only [hc, hm, s1, s2, undef, n0, n1, n2, n3, n4, hlx, hly, hsa, hsb, ixa0, ixa1, ixb0, ixb1, push_cast, ↓Int.toNat_natCast, ↓reduceIte, reduceCtorEq, Nat.reduceEqDiff, Nat.reduceLT, Nat.reduceLeDiff, Nat.reduceAdd, Nat.reduceSub, Nat.reduceMul, Int.reduceNeg, Int.reduceLE, Int.reduceLT, Int.reduceToNat]
                        (repeat (refine And.intro (by first | omega | decide) ?_))
                        refine loopK_normal (1 + 1) [0, 1, 2, 3, 4, 5, 6, 7, 8, 9, 10, 11] (by omega) (by omega) ?_
                        simp only [hh, n0, n1, n2, n3, n4, push_cast, ↓Int.toNat_natCast, ↓reduceIte, reduceCtorEq, Nat.reduceEqDiff, Nat.reduceLT, Nat.reduceLeDiff, Nat.reduceAdd, Nat.reduceSub, Nat.reduceMul, Int.reduceNeg, Int.reduceLE, Int.reduceLT, Int.reduceToNat]
                        try rfl
                    · rw [hm, Bool.true_or] at hh
                      simp only [hm, undef, n0, n1, n2, n3, n4, hlx, hly, hsa, hsb, ixa0, ixa1, ixb0, ixb1, push_cast, ↓Int.toNat_natCast, ↓reduceIte, reduceCtorEq, Nat.reduceEqDiff, Nat.reduceLT, Nat.reduceLeDiff, Nat.reduceAdd, Nat.reduceSub, Nat.reduceMul, Int.reduceNeg, Int.reduceLE, Int.reduceLT, Int.reduceToNat]
                      (repeat (refine And.intro (by first | omega | decide) ?_))
                      refine draw_rule [(0, true), (1, true), (2, true), (3, true), (4, true), (5, true), (6, true), (7, true), (8, true), (9, true), (10, true), (11, true), (12, true), (13, true), (14, true), (15, true), (16, true), (17, true), (19, true), (20, true), (21, true), (22, true), (18, false), (23, false), (24, true), (25, true), (26, true), (27, true)] (by kernel_rfl) (by kernel_rfl) rfl (by kernel_rfl) ?_
                      simp only [hm, undef, n0, n1, n2, n3, n4, hlx, hly, hsa, hsb, ixa0, ixa1, ixb0, ixb1, push_cast, ↓Int.toNat_natCast, ↓reduceIte, reduceCtorEq, Nat.reduceEqDiff, Nat.reduceLT, Nat.reduceLeDiff, Nat.reduceAdd, Nat.reduceSub, Nat.reduceMul, Int.reduceNeg, Int.reduceLE, Int.reduceLT, Int.reduceToNat]
                      (repeat (refine And.intro (by first | omega | decide) ?_))
                      refine loopK_normal (1 + 1) [0, 1, 2, 3, 4, 5, 6, 7, 8, 9, 10, 11] (by omega) (by omega) ?_
                      simp only [hh, n0, n1, n2, n3, n4, push_cast, ↓Int.toNat_natCast, ↓reduceIte, reduceCtorEq, Nat.reduceEqDiff, Nat.reduceLT, Nat.reduceLeDiff, Nat.reduceAdd, Nat.reduceSub, Nat.reduceMul, Int.reduceNeg, Int.reduceLE, Int.reduceLT, Int.reduceToNat]
                      try rfl
                  · have hh : mIn (txs X Y a0 a1 b0 b1) (mTo (txs X Y a0 a1 b0 b1) 3) 3 (2 + 1) = (mIn (txs X Y a0 a1 b0 b1) (mTo (txs X Y a0 a1 b0 b1) 3) 3 2 || (decide ((sealB b0 b1) ≠ (sealB a0 a1)) && decide (shaOf (sealB b0 b1) = shaOf (sealB a0 a1)))) := rfl
                    cases hm : mIn (txs X Y a0 a1 b0 b1) (mTo (txs X Y a0 a1 b0 b1) 3) 3 2
                    · rw [hm, Bool.false_or] at hh
                      by_cases he : (sealB b0 b1) = (sealB a0 a1)
                      · have hc : ((bstr (sealB b0 b1)).toList == (bstr (sealB a0 a1)).toList) = true := by rw [bstr_cmp]; exact decide_eq_true he
                        rw [show decide ((sealB b0 b1) ≠ (sealB a0 a1)) = false from decide_eq_false (fun h => h he), Bool.false_and] at hh
                        simp only [hc, hm, undef, n0, n1, n2, n3, n4, hlx, hly, hsa, hsb, ixa0, ixa1, ixb0, ixb1, push_cast, ↓Int.toNat_natCast, ↓reduceIte, reduceCtorEq, Nat.reduceEqDiff, Nat.reduceLT, Nat.reduceLeDiff, Nat.reduceAdd, Nat.reduceSub, Nat.reduceMul, Int.reduceNeg, Int.reduceLE, Int.reduceLT, Int.reduceToNat]
                        (repeat (refine And.intro (by first | omega | decide) ?_))
                        refine draw_rule [(0, true), (1, true), (2, true), (3, true), (4, true), (5, true), (6, true), (7, true), (8, true), (9, true), (10, true), (11, true), (12, true), (13, true), (14, true), (15, true), (16, true), (17, true), (19, true), (20, true), (21, true), (22, true), (18, false), (23, false), (24, true), (25, true), (26, true), (27, true)] (by kernel_rfl) (by kernel_rfl) rfl (by kernel_rfl) ?_
                        simp only [hc, hm, undef, n0, n1, n2, n3, n4, hlx, hly, hsa, hsb, ixa0, ixa1, ixb0, ixb1, push_cast, ↓Int.toNat_natCast, ↓reduceIte, reduceCtorEq, Nat.reduceEqDiff, Nat.reduceLT, Nat.reduceLeDiff, Nat.reduceAdd, Nat.reduceSub, Nat.reduceMul, Int.reduceNeg, Int.reduceLE, Int.reduceLT, Int.reduceToNat]
                        (repeat (refine And.intro (by first | omega | decide) ?_))
                        refine loopK_normal (2 + 1) [0, 1, 2, 3, 4, 5, 6, 7, 8, 9, 10, 11] (by omega) (by omega) ?_
                        simp only [hh, n0, n1, n2, n3, n4, push_cast, ↓Int.toNat_natCast, ↓reduceIte, reduceCtorEq, Nat.reduceEqDiff, Nat.reduceLT, Nat.reduceLeDiff, Nat.reduceAdd, Nat.reduceSub, Nat.reduceMul, Int.reduceNeg, Int.reduceLE, Int.reduceLT, Int.reduceToNat]
                        try rfl
                      · have hc : ((bstr (sealB b0 b1)).toList == (bstr (sealB a0 a1)).toList) = false := by rw [bstr_cmp]; exact decide_eq_false he
                        rw [show decide ((sealB b0 b1) ≠ (sealB a0 a1)) = true from decide_eq_true he, Bool.true_and] at hh
                        have s1 := shaOf_length (sealB b0 b1)
                        have s2 := shaOf_length (sealB a0 a1)
                        simp only [hc, hm, s1, s2, undef, n0, n1, n2, n3, n4, hlx, hly, hsa, hsb, ixa0, ixa1, ixb0, ixb1, push_cast, ↓Int.toNat_natCast, ↓reduceIte, reduceCtorEq, Nat.reduceEqDiff, Nat.reduceLT, Nat.reduceLeDiff, Nat.reduceAdd, Nat.reduceSub, Nat.reduceMul, Int.reduceNeg, Int.reduceLE, Int.reduceLT, Int.reduceToNat]
                        (repeat (refine And.intro (by first | omega | decide) ?_))
                        refine draw_rule [(0, true), (1, true), (2, true), (3, true), (4, true), (5, true), (6, true), (7, true), (8, true), (9, true), (10, true), (11, true), (12, true), (13, true), (14, true), (15, true), (16, true), (17, true), (19, true), (20, true), (21, true), (22, true), (18, false), (23, false), (24, true), (25, true), (26, true), (27, true)] (by kernel_rfl) (by kernel_rfl) rfl (by kernel_rfl) ?_
                        simp only [hc, hm, s1, s2, undef, n0, n1, n2, n3, n4, hlx, hly, hsa, hsb, ixa0, ixa1, ixb0, ixb1, push_cast, ↓Int.toNat_natCast, ↓reduceIte, reduceCtorEq, Nat.reduceEqDiff, Nat.reduceLT, Nat.reduceLeDiff, Nat.reduceAdd, Nat.reduceSub, Nat.reduceMul, Int.reduceNeg, Int.reduceLE, Int.reduceLT, Int.reduceToNat]
                        (repeat (refine And.intro (by first | omega | decide) ?_))
                        refine callM_v rfl cb21 rfl (refSumOK_own 10 (sealB b0 b1) rfl (by rw [sealB_length]; omega)) (dOk_lt rfl) ?_
                        simp only [hc, hm, s1, s2, undef, n0, n1, n2, n3, n4, hlx, hly, hsa, hsb, ixa0, ixa1, ixb0, ixb1, push_cast, ↓Int.toNat_natCast, ↓reduceIte, reduceCtorEq, Nat.reduceEqDiff, Nat.reduceLT, Nat.reduceLeDiff, Nat.reduceAdd, Nat.reduceSub, Nat.reduceMul, Int.reduceNeg, Int.reduceLE, Int.reduceLT, Int.reduceToNat]
                        (repeat (refine And.intro (by first | omega | decide) ?_))
                        refine callM_v rfl cb21 rfl (refSumOK_own 9 (sealB a0 a1) rfl (by rw [sealB_length]; omega)) (dOk_lt rfl) ?_
                        simp only [hc, hm, s1, s2, undef, n0, n1, n2, n3, n4, hlx, hly, hsa, hsb, ixa0, ixa1, ixb0, ixb1, push_cast, ↓Int.toNat_natCast, ↓reduceIte, reduceCtorEq, Nat.reduceEqDiff, Nat.reduceLT, Nat.reduceLeDiff, Nat.reduceAdd, Nat.reduceSub, Nat.reduceMul, Int.reduceNeg, Int.reduceLE, Int.reduceLT, Int.reduceToNat]
                        (repeat (refine And.intro (by first | omega | decide) ?_))
                        refine loopK_normal (2 + 1) [0, 1, 2, 3, 4, 5, 6, 7, 8, 9, 10, 11] (by omega) (by omega) ?_
                        simp only [hh, n0, n1, n2, n3, n4, push_cast, ↓Int.toNat_natCast, ↓reduceIte, reduceCtorEq, Nat.reduceEqDiff, Nat.reduceLT, Nat.reduceLeDiff, Nat.reduceAdd, Nat.reduceSub, Nat.reduceMul, Int.reduceNeg, Int.reduceLE, Int.reduceLT, Int.reduceToNat]
                        try rfl
                    · rw [hm, Bool.true_or] at hh
                      simp only [hm, undef, n0, n1, n2, n3, n4, hlx, hly, hsa, hsb, ixa0, ixa1, ixb0, ixb1, push_cast, ↓Int.toNat_natCast, ↓reduceIte, reduceCtorEq, Nat.reduceEqDiff, Nat.reduceLT, Nat.reduceLeDiff, Nat.reduceAdd, Nat.reduceSub, Nat.reduceMul, Int.reduceNeg, Int.reduceLE, Int.reduceLT, Int.reduceToNat]
                      (repeat (refine And.intro (by first | omega | decide) ?_))
                      refine draw_rule [(0, true), (1, true), (2, true), (3, true), (4, true), (5, true), (6, true), (7, true), (8, true), (9, true), (10, true), (11, true), (12, true), (13, true), (14, true), (15, true), (16, true), (17, true), (19, true), (20, true), (21, true), (22, true), (18, false), (23, false), (24, true), (25, true), (26, true), (27, true)] (by kernel_rfl) (by kernel_rfl) rfl (by kernel_rfl) ?_
                      simp only [hm, undef, n0, n1, n2, n3, n4, hlx, hly, hsa, hsb, ixa0, ixa1, ixb0, ixb1, push_cast, ↓Int.toNat_natCast, ↓reduceIte, reduceCtorEq, Nat.reduceEqDiff, Nat.reduceLT, Nat.reduceLeDiff, Nat.reduceAdd, Nat.reduceSub, Nat.reduceMul, Int.reduceNeg, Int.reduceLE, Int.reduceLT, Int.reduceToNat]
                      (repeat (refine And.intro (by first | omega | decide) ?_))
                      refine loopK_normal (2 + 1) [0, 1, 2, 3, 4, 5, 6, 7, 8, 9, 10, 11] (by omega) (by omega) ?_
                      simp only [hh, n0, n1, n2, n3, n4, push_cast, ↓Int.toNat_natCast, ↓reduceIte, reduceCtorEq, Nat.reduceEqDiff, Nat.reduceLT, Nat.reduceLeDiff, Nat.reduceAdd, Nat.reduceSub, Nat.reduceMul, Int.reduceNeg, Int.reduceLE, Int.reduceLT, Int.reduceToNat]
                      try rfl
                  · simp only [undef, n0, n1, n2, n3, n4, hlx, hly, hsa, hsb, ixa0, ixa1, ixb0, ixb1, push_cast, ↓Int.toNat_natCast, ↓reduceIte, reduceCtorEq, Nat.reduceEqDiff, Nat.reduceLT, Nat.reduceLeDiff, Nat.reduceAdd, Nat.reduceSub, Nat.reduceMul, Int.reduceNeg, Int.reduceLE, Int.reduceLT, Int.reduceToNat]
                    (repeat (refine And.intro (by first | omega | decide) ?_))
                    refine loopK_normal (3 + 1) [0, 1, 2, 3, 4, 5, 6, 7, 8, 9, 10, 11] (by omega) (by omega) ?_
                    simp only [mTo_succ, n0, n1, n2, n3, n4, push_cast, ↓Int.toNat_natCast, ↓reduceIte, reduceCtorEq, Nat.reduceEqDiff, Nat.reduceLT, Nat.reduceLeDiff, Nat.reduceAdd, Nat.reduceSub, Nat.reduceMul, Int.reduceNeg, Int.reduceLE, Int.reduceLT, Int.reduceToNat]
                    try rfl
            · have h4 : i = 4 := by omega
              subst h4
              simp only [hlt, undef, push_cast, ↓Int.toNat_natCast, ↓reduceIte, reduceCtorEq, Nat.reduceEqDiff, Nat.reduceLT, Nat.reduceLeDiff, Nat.reduceAdd, Nat.reduceSub, Nat.reduceMul, Int.reduceNeg, Int.reduceLE, Int.reduceLT, Int.reduceToNat]
              (repeat (refine And.intro (by first | omega | decide) ?_))
              cases hm : mTo (txs X Y a0 a1 b0 b1) 4
              · obtain ⟨l1, l2⟩ := apart_law hFX hFY hm
                refine draw_rule [(0, true), (1, true), (2, true), (3, true), (4, true), (5, true), (6, true), (7, true), (8, true), (9, true), (10, true), (11, true), (12, true), (13, true), (14, true), (15, true), (16, true), (17, true), (18, false), (19, true), (20, true)] (by kernel_rfl) (by kernel_rfl) rfl (by kernel_rfl) ?_
                simp only [l1, l2, undef, beq_self_eq_true, n0, n1, n2, n3, n4, hlx, hly, hsa, hsb, ixa0, ixa1, ixb0, ixb1, push_cast, ↓Int.toNat_natCast, ↓reduceIte, reduceCtorEq, Nat.reduceEqDiff, Nat.reduceLT, Nat.reduceLeDiff, Nat.reduceAdd, Nat.reduceSub, Nat.reduceMul, Int.reduceNeg, Int.reduceLE, Int.reduceLT, Int.reduceToNat]
                (repeat (refine And.intro (by first | omega | decide) ?_))
                refine callM_v rfl cb15 rfl (sure08OK hk) (dOk_lt rfl) ?_
                simp only [l1, l2, undef, beq_self_eq_true, n0, n1, n2, n3, n4, hlx, hly, hsa, hsb, ixa0, ixa1, ixb0, ixb1, push_cast, ↓Int.toNat_natCast, ↓reduceIte, reduceCtorEq, Nat.reduceEqDiff, Nat.reduceLT, Nat.reduceLeDiff, Nat.reduceAdd, Nat.reduceSub, Nat.reduceMul, Int.reduceNeg, Int.reduceLE, Int.reduceLT, Int.reduceToNat]
                done
              · refine draw_rule [(0, true), (1, true), (2, true), (3, true), (4, true), (5, true), (6, true), (7, true), (8, true), (9, true), (10, true), (11, true), (12, true), (13, true), (14, true), (15, true), (16, true), (17, true), (18, false), (19, true), (20, true)] (by kernel_rfl) (by kernel_rfl) rfl (by kernel_rfl) ?_
                simp only [undef, beq_self_eq_true, n0, n1, n2, n3, n4, hlx, hly, hsa, hsb, ixa0, ixa1, ixb0, ixb1, push_cast, ↓Int.toNat_natCast, ↓reduceIte, reduceCtorEq, Nat.reduceEqDiff, Nat.reduceLT, Nat.reduceLeDiff, Nat.reduceAdd, Nat.reduceSub, Nat.reduceMul, Int.reduceNeg, Int.reduceLE, Int.reduceLT, Int.reduceToNat]
                (repeat (refine And.intro (by first | omega | decide) ?_))
                refine callM_v rfl cb15 rfl (sure08OK hk) (dOk_lt rfl) ?_
                simp only [undef, beq_self_eq_true, n0, n1, n2, n3, n4, hlx, hly, hsa, hsb, ixa0, ixa1, ixb0, ixb1, push_cast, ↓Int.toNat_natCast, ↓reduceIte, reduceCtorEq, Nat.reduceEqDiff, Nat.reduceLT, Nat.reduceLeDiff, Nat.reduceAdd, Nat.reduceSub, Nat.reduceMul, Int.reduceNeg, Int.reduceLE, Int.reduceLT, Int.reduceToNat]
                done
        · have hb31 := hFX.1
          have FX := FS.of hX.rd hX.each
          have FY := FS.of hY.rd hY.each
          refine loop_rule (ι := Nat) (fun i => ⟨[(3, .x (.a (.p 0 0))), (4, .x (.a (.p 1 0))), (5, .x (.a (.p 2 0))), (6, .x (.a (.v (.bool false)))), (9, .x (.a (.p 3 0))), (11, .x (.a (.p 4 0))), (13, .x (.a (.p 5 0))), (14, .x (.a (.p 6 0))), (15, .x (.a (.v (.bool (smB X.L Y.L i))))), (16, .x (.a (.v (.int .i64 i))))], [.blk 39 (.u64 [a0, a1]), .blk 39 (.u64 [b0, b1]), .blk 40 (.c [.v (.slice X.A X.L.length X.c), .v (.slice Y.A Y.L.length Y.c)]), .blk 23 (.u8 (listSum X.L)), .blk 23 (.u8 (listSum Y.L)), .blk 23 (.u8 (sealOf a0 a1)), .blk 23 (.u8 (sealOf b0 b1))]⟩) (fun i => i ≤ X.L.length) (fun i => X.L.length - i) 0 [0, 1, 2, 3, 4, 5, 6] (by omega) ?_ ?_
          · simp only [smB_zero, push_cast, ↓Int.toNat_natCast, ↓reduceIte, reduceCtorEq, Nat.reduceEqDiff, Nat.reduceLT, Nat.reduceLeDiff, Nat.reduceAdd, Nat.reduceSub, Nat.reduceMul, Int.reduceNeg, Int.reduceLE, Int.reduceLT, Int.reduceToNat]
          · intro i hi
            cases hsm : smB X.L Y.L i
            · have hend := smB_end X.L Y.L i (.inr hsm) hi
              rw [hsm] at hend
              by_cases hlt : (i : Int) < X.L.length
              · simp only [hlt, undef, push_cast, ↓Int.toNat_natCast, ↓reduceIte, reduceCtorEq, Nat.reduceEqDiff, Nat.reduceLT, Nat.reduceLeDiff, Nat.reduceAdd, Nat.reduceSub, Nat.reduceMul, Int.reduceNeg, Int.reduceLE, Int.reduceLT, Int.reduceToNat]
                (repeat (refine And.intro (by first | omega | decide) ?_))
                refine leads_le [0, 1, 2, 3, 4, 5, 6] ?_
                simp only [← hend, push_cast, ↓Int.toNat_natCast, ↓reduceIte, reduceCtorEq, Nat.reduceEqDiff, Nat.reduceLT, Nat.reduceLeDiff, Nat.reduceAdd, Nat.reduceSub, Nat.reduceMul, Int.reduceNeg, Int.reduceLE, Int.reduceLT, Int.reduceToNat]
              · simp only [hlt, undef, push_cast, ↓Int.toNat_natCast, ↓reduceIte, reduceCtorEq, Nat.reduceEqDiff, Nat.reduceLT, Nat.reduceLeDiff, Nat.reduceAdd, Nat.reduceSub, Nat.reduceMul, Int.reduceNeg, Int.reduceLE, Int.reduceLT, Int.reduceToNat]
                (repeat (refine And.intro (by first | omega | decide) ?_))
                refine leads_le [0, 1, 2, 3, 4, 5, 6] ?_
                simp only [← hend, push_cast, ↓Int.toNat_natCast, ↓reduceIte, reduceCtorEq, Nat.reduceEqDiff, Nat.reduceLT, Nat.reduceLeDiff, Nat.reduceAdd, Nat.reduceSub, Nat.reduceMul, Int.reduceNeg, Int.reduceLE, Int.reduceLT, Int.reduceToNat]
            · by_cases hlt : (i : Int) < X.L.length
              · have hx : i < X.L.length := by omega
                have hy : i < Y.L.length := by rw [← (smB_true hsm).1]; exact hx
                have xA := FX.some_ (by omega)
                have yA := FY.some_ (by omega)
                have xc := FX.cell i hx
                have yc := FY.cell i hy
                have xo := FX.ok i hx
                have yo := FY.ok i hy
                have xr := FX.rd i hx
                have yr := FY.rd i hy
                have xs := FX.rdOk i hx
                have ys := FY.rdOk i hy
                have hy2 : (i : Int) < Y.L.length := by omega
                simp only [hlt, hy2, xA, yA, xc, yc, xo, yo, xr, yr, xs, ys, undef, push_cast, ↓Int.toNat_natCast, ↓reduceIte, reduceCtorEq, Nat.reduceEqDiff, Nat.reduceLT, Nat.reduceLeDiff, Nat.reduceAdd, Nat.reduceSub, Nat.reduceMul, Int.reduceNeg, Int.reduceLE, Int.reduceLT, Int.reduceToNat]
                (repeat (refine And.intro (by first | omega | decide) ?_))
                refine draw_rule [(0, true), (1, true), (2, true), (3, true), (4, true), (5, true), (6, true), (7, true), (8, true), (9, true), (10, true), (11, true), (12, true), (13, true)] (by kernel_rfl) (by kernel_rfl) rfl (by kernel_rfl) ?_
                simp only [hlt, hy2, xA, yA, xc, yc, xo, yo, xr, yr, xs, ys, undef, push_cast, ↓Int.toNat_natCast, ↓reduceIte, reduceCtorEq, Nat.reduceEqDiff, Nat.reduceLT, Nat.reduceLeDiff, Nat.reduceAdd, Nat.reduceSub, Nat.reduceMul, Int.reduceNeg, Int.reduceLE, Int.reduceLT, Int.reduceToNat]
                (repeat (refine And.intro (by first | omega | decide) ?_))
                refine loopK_normal (i + 1) [0, 1, 2, 3, 4, 5, 6] (by omega) (by omega) ?_
                simp only [smB_succ hsm, push_cast, ↓Int.toNat_natCast, ↓reduceIte, reduceCtorEq, Nat.reduceEqDiff, Nat.reduceLT, Nat.reduceLeDiff, Nat.reduceAdd, Nat.reduceSub, Nat.reduceMul, Int.reduceNeg, Int.reduceLE, Int.reduceLT, Int.reduceToNat]
              · have hend := smB_end X.L Y.L i (.inl (by omega)) hi
                rw [hsm] at hend
                simp only [hlt, undef, push_cast, ↓Int.toNat_natCast, ↓reduceIte, reduceCtorEq, Nat.reduceEqDiff, Nat.reduceLT, Nat.reduceLeDiff, Nat.reduceAdd, Nat.reduceSub, Nat.reduceMul, Int.reduceNeg, Int.reduceLE, Int.reduceLT, Int.reduceToNat]
                (repeat (refine And.intro (by first | omega | decide) ?_))
                refine leads_le [0, 1, 2, 3, 4, 5, 6] ?_
                simp only [← hend, push_cast, ↓Int.toNat_natCast, ↓reduceIte, reduceCtorEq, Nat.reduceEqDiff, Nat.reduceLT, Nat.reduceLeDiff, Nat.reduceAdd, Nat.reduceSub, Nat.reduceMul, Int.reduceNeg, Int.reduceLE, Int.reduceLT, Int.reduceToNat]
end Go.Proofs.YtkchdhkpjnnliaaDoor
