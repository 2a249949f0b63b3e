/- caucusref05.Of, by the engine. -/
import Derived.Test.YteiifdpikcnbgaaDoorTy
import Derived.Test.YteiifdpikcnbgaaDoorRef6
import Derived.Test.YteiifdpikcnbgaaDoorEn3
namespace Go.Proofs.YteiifdpikcnbgaaDoor
open Go.RowKit
set_option linter.unusedSimpArgs false
theorem add_lit (l : List UInt32) (s : UInt32) (hs : sumW l l.length = s) (n c : Nat) (hn : l.length = n) (hl : n ≤ 1000) (A : Option Addr) (B : Nat) (w : World) (hR : RdV w B A (l.map vU32)) :
    Calls Tryd.prog 138 #[.slice A n c] w fun e w' => e = .returned (vU32 s) ∧ w = w' := by
  subst hn; subst hs
  exact add_any l A c B w hl hR
theorem rotrOK {w0 : World} {ow : Nat → Prop} {hp : List Res} (x : UInt32) (n : Int) (m : Nat) (h1 : 1 ≤ n) (h2 : n ≤ 31) (hm : n.toNat = m) : CallOK Tryd.prog w0 ow 139 [.x (.a (.v (vU32 x))), .x (.a (.v (.int .i64 n)))] hp (.x (.a (.v (vU32 (rr x m))))) hp := by
  subst hm
  exact callOK_v fun _ w _ => (refRotr_any x n h1 h2 w).mono fun e w' ⟨he, hd⟩ => ⟨he, hd.below_self⟩
theorem addOK {w0 : World} {ow : Nat → Prop} {hp : List Res} {t : TypeId} (k n : Nat) (l : List UInt32) (s : UInt32) (hr : hp[k]? = some (.blk t (.u32 l))) (hs : sumW l l.length = s) (hn : l.length = n) (hl : n ≤ 1000) : CallOK Tryd.prog w0 ow 138 [.x (.a (.s k 0 n n))] hp (.x (.a (.v (vU32 s)))) hp :=
  callOK_eq fun _ w hS => add_lit l s hs n n hn hl _ _ w (hS.rdBlk hr 0)
theorem wordsOK {w0 : World} {ow : Nat → Prop} {hp : List Res} {e : TypeId} (k l : Nat) (p : List UInt8) (hr : hp[k]? = some (.own e (.u8 p))) (hb : ∀ r ∈ hp, Res.bnd hp.length r) (hp' : ((p.drop l).take 64).length = 64) : CallOK Tryd.prog w0 ow 137 [.x (.a (.z k l 64))] hp (.x (.a (.o hp.length))) (hp ++ [.own 50 (.u32 (wordsTo ((p.drop l).take 64) 16))]) :=
  callOK_own hb trivial fun γ w hS => by
    obtain ⟨A, cap, h1, h2, h3, h4⟩ := hS.zRd hr l 64
    have h5 : RdV w w.heap.size A (((p.drop l).take 64).map vU8) := by rw [List.map_take, List.map_drop]; exact h4
    have := refWords_any ((p.drop l).take 64) 16 (by rw [hp']) (by rw [hp']; omega) A cap w h5
    rw [hp'] at this
    show Calls _ _ #[(At.z k l 64).val γ] w _
    rw [h1]
    exact this
theorem sum2 (a b : UInt32) : sumW [a, b] 2 = a + b := by simp [sumW, ix]
theorem sum4 (a b c d : UInt32) : sumW [a, b, c, d] 4 = a + b + c + d := by simp [sumW, ix]
theorem sum5 (a b c d e : UInt32) : sumW [a, b, c, d, e] 5 = a + b + c + d + e := by simp [sumW, ix]
theorem shr10 (x : UInt32) : x / 1024 = x >>> (10 : UInt32) := by
  rw [← UInt32.toNat_inj, UInt32.toNat_div, UInt32.toNat_shiftRight, Nat.shiftRight_eq_div_pow]
  rfl
theorem shr3 (x : UInt32) : x / 8 = x >>> (3 : UInt32) := by
  rw [← UInt32.toNat_inj, UInt32.toNat_div, UInt32.toNat_shiftRight, Nat.shiftRight_eq_div_pow]
  rfl
theorem ones_sub (x : UInt32) : 4294967295 - x = ~~~x := by
  rw [← UInt32.toNat_inj, UInt32.toNat_sub, UInt32.toNat_not]
  have := w32_lt x
  show (4294967296 - x.toNat + 4294967295) % 4294967296 = 4294967296 - 1 - x.toNat
  omega
theorem to2_step (B : List UInt8) (k : Nat) (hk : k < 48) : (to2 B k).take (16 + k) ++ [(rr (ix ((to2 B k).take (16 + k)) (k + 14)) 17 ^^^ rr (ix ((to2 B k).take (16 + k)) (k + 14)) 19 ^^^ ix ((to2 B k).take (16 + k)) (k + 14) / 1024) + ix ((to2 B k).take (16 + k)) (k + 9) +
    (rr (ix ((to2 B k).take (16 + k)) (k + 1)) 7 ^^^ rr (ix ((to2 B k).take (16 + k)) (k + 1)) 18 ^^^ ix ((to2 B k).take (16 + k)) (k + 1) / 8) + ix ((to2 B k).take (16 + k)) k] = (to2 B (k + 1)).take (16 + (k + 1)) := by
  have hl := to2_length B k
  rw [ix_take _ _ _ (by omega), ix_take _ _ _ (by omega), ix_take _ _ _ (by omega), ix_take _ _ _ (by omega), shr10, shr3]
  show _ = ((to2 B k).set (k + 16) (sg1 (ix (to2 B k) (k + 16 - 2)) + ix (to2 B k) (k + 16 - 7) + sg0 (ix (to2 B k) (k + 16 - 15)) + ix (to2 B k) (k + 16 - 16))).take (16 + (k + 1))
  rw [show 16 + (k + 1) = (16 + k) + 1 from by omega, List.take_add_one, List.take_set_of_le (by omega), show k + 16 = 16 + k from by omega, List.getElem?_set_self (by omega),
    show 16 + k - 2 = k + 14 from by omega, show 16 + k - 7 = k + 9 from by omega, show 16 + k - 15 = k + 1 from by omega, show 16 + k - 16 = k from by omega]
  rfl
theorem ix_s0 (s : St) : ix s.list 0 = s.a := rfl
theorem ix_s1 (s : St) : ix s.list 1 = s.b := rfl
theorem ix_s2 (s : St) : ix s.list 2 = s.c := rfl
theorem ix_s3 (s : St) : ix s.list 3 = s.d := rfl
theorem ix_s4 (s : St) : ix s.list 4 = s.e := rfl
theorem ix_s5 (s : St) : ix s.list 5 = s.f := rfl
theorem ix_s6 (s : St) : ix s.list 6 = s.g := rfl
theorem ix_s7 (s : St) : ix s.list 7 = s.h := rfl
theorem rnds_succ (s : St) (w : List UInt32) (t : Nat) : rnds s w (t + 1) = rnd (rnds s w t) (ix kt t) (ix w t) := rfl
theorem rnds_zero (s : St) (w : List UInt32) : rnds s w 0 = s := rfl
theorem moreOf_eq (s : St) (b : List UInt8) : moreOf s b = s.add (rnds s (wordsOf b) 64) := rfl
theorem addTo_succ (l x : List UInt32) (i : Nat) : addTo l x (i + 1) = (addTo l x i).set i (ix (addTo l x i) i + ix x i) := rfl
theorem addTo_zero (l x : List UInt32) : addTo l x 0 = l := rfl
theorem rnd_list (r : St) (k w : UInt32) : [r.h + (rr r.e 6 ^^^ rr r.e 11 ^^^ rr r.e 25) + (r.e &&& r.f ||| (4294967295 - r.e) &&& r.g) + k + w + ((rr r.a 2 ^^^ rr r.a 13 ^^^ rr r.a 22) + (r.a &&& r.b ||| r.a &&& r.c ||| r.b &&& r.c)), r.a, r.b, r.c,
    r.d + (r.h + (rr r.e 6 ^^^ rr r.e 11 ^^^ rr r.e 25) + (r.e &&& r.f ||| (4294967295 - r.e) &&& r.g) + k + w), r.e, r.f, r.g] = (rnd r k w).list := by
  rw [ones_sub, UInt32.and_comm (~~~r.e) r.g]
  rfl
/-- The first i of c, noughts behind. -/
def cpTo (c : List UInt8) (i : Nat) : List UInt8 := c.take i ++ List.replicate (32 - i) 0
theorem cpTo_set (c : List UInt8) (i : Nat) (hc : c.length = 32) (hi : i < 32) : (cpTo c i).set i (ix c i) = cpTo c (i + 1) := by
  unfold cpTo
  have e : List.replicate (32 - i) (0 : UInt8) = 0 :: List.replicate (32 - (i + 1)) 0 := by rw [← List.replicate_succ]; congr 1; omega
  rw [List.set_append_right _ _ (by simp; omega), List.length_take, Nat.min_eq_left (by omega), Nat.sub_self, e, List.set_cons_zero]
  have e2 : c.take (i + 1) = c.take i ++ [ix c i] := by
    rw [List.take_add_one, List.getElem?_eq_getElem (by omega)]
    simp [ix, List.getD_eq_getElem?_getD, List.getElem?_eq_getElem (show i < c.length by omega)]
  rw [e2, List.append_assoc]
  rfl
theorem cpTo_length (c : List UInt8) (i : Nat) (hc : c.length = 32) (hi : i ≤ 32) : (cpTo c i).length = 32 := by simp [cpTo]; omega
theorem cpTo_all (c : List UInt8) (hc : c.length = 32) : cpTo c 32 = c := by unfold cpTo; rw [List.take_of_length_le (by omega)]; simp
theorem kt_len : kt.length = 64 := rfl
attribute [local irreducible] padded refState wordsOf kt bytesTo outTo addTo cpTo rnd to2 to1 rnds moreOf
set_option maxRecDepth 100000 in
set_option maxHeartbeats 1000000 in
theorem refOf_any (b : List UInt8) (hl : b.length ≤ 90000) (A : Option Addr) (c : Nat) (w : World) (hR : RdV w w.heap.size A (b.map vU8)) :
    Calls Tryd.prog 116 #[.slice A b.length c] w fun e w' => e = .returned (.agg (arr8 (outTo (refState b (nBlk b)) 32))) ∧ Below w.heap.size w w' := by
  have hpl := padded_length b
  have hnb := nBlk_le b
  refine calls_v (n := 216) Tryd.func116 rfl Tryd.ntmps116 [.x (.a (.v (.slice A b.length c)))] (by simp) (.x (.a8 (outTo (refState b (nBlk b)) 32))) (fun _ => rfl) ?_
  simp only [undef, push_cast, ↓Int.toNat_natCast, ↓Int.cast_ofNat_Int, Int.cast_ofNat_Int, ↓reduceIte, reduceCtorEq, Nat.reduceEqDiff, Nat.reduceLT, Nat.reduceLeDiff, Nat.reduceAdd, Nat.reduceSub, Nat.reduceMul, Int.reduceNeg, Int.reduceLE, Int.reduceLT, Int.reduceToNat, Int.reduceAdd, Int.reduceSub, Int.reduceMul, Int.reduceEq]
  (repeat (refine And.intro (by first | omega | decide) ?_))
  refine callG_rule rfl cb136 (by simp only [push_cast, ↓Int.toNat_natCast, ↓Int.cast_ofNat_Int, Int.cast_ofNat_Int, ↓reduceIte, reduceCtorEq, Nat.reduceEqDiff, Nat.reduceLT, Nat.reduceLeDiff, Nat.reduceAdd, Nat.reduceSub, Nat.reduceMul, Int.reduceNeg, Int.reduceLE, Int.reduceLT, Int.reduceToNat, Int.reduceAdd, Int.reduceSub, Int.reduceMul, Int.reduceEq]; rfl) (callOK_own (c := .u8 (padded b)) (e := 5) (by simp only [push_cast, ↓Int.toNat_natCast, ↓Int.cast_ofNat_Int, Int.cast_ofNat_Int, ↓reduceIte, reduceCtorEq, Nat.reduceEqDiff, Nat.reduceLT, Nat.reduceLeDiff, Nat.reduceAdd, Nat.reduceSub, Nat.reduceMul, Int.reduceNeg, Int.reduceLE, Int.reduceLT, Int.reduceToNat, Int.reduceAdd, Int.reduceSub, Int.reduceMul, Int.reduceEq]) trivial ?_) (by simp only [push_cast, ↓Int.toNat_natCast, ↓Int.cast_ofNat_Int, Int.cast_ofNat_Int, ↓reduceIte, reduceCtorEq, Nat.reduceEqDiff, Nat.reduceLT, Nat.reduceLeDiff, Nat.reduceAdd, Nat.reduceSub, Nat.reduceMul, Int.reduceNeg, Int.reduceLE, Int.reduceLT, Int.reduceToNat, Int.reduceAdd, Int.reduceSub, Int.reduceMul, Int.reduceEq]) (by simp only [push_cast, ↓Int.toNat_natCast, ↓Int.cast_ofNat_Int, Int.cast_ofNat_Int, ↓reduceIte, reduceCtorEq, Nat.reduceEqDiff, Nat.reduceLT, Nat.reduceLeDiff, Nat.reduceAdd, Nat.reduceSub, Nat.reduceMul, Int.reduceNeg, Int.reduceLE, Int.reduceLT, Int.reduceToNat, Int.reduceAdd, Int.reduceSub, Int.reduceMul, Int.reduceEq]) ?_
  · intro γ w' hS
    exact refPadded_any b hl A c w' ((hR.below (keeps_below hS.keeps)).more (keeps_below hS.keeps).size)
  simp only [undef, push_cast, ↓Int.toNat_natCast, ↓Int.cast_ofNat_Int, Int.cast_ofNat_Int, ↓reduceIte, reduceCtorEq, Nat.reduceEqDiff, Nat.reduceLT, Nat.reduceLeDiff, Nat.reduceAdd, Nat.reduceSub, Nat.reduceMul, Int.reduceNeg, Int.reduceLE, Int.reduceLT, Int.reduceToNat, Int.reduceAdd, Int.reduceSub, Int.reduceMul, Int.reduceEq]
  refine loop_rule (ι := Nat) (fun j => ⟨[(2, .x (.a (.p 0 0))), (3, .x (.a (.s 1 0 64 64))), (4, .x (.a (.s 2 0 8 8))), (5, .x (.a (.o 3))), (6, .x (.a (.v (.int .i64 (64 * j : Int)))))],
      [.blk 116 (.u8 (List.replicate 32 0)), .blk 50 (.u32 kt), .blk 50 (.u32 (refState b j).list), .own 5 (.u8 (padded b))]⟩) (fun j => j ≤ nBlk b) (fun j => nBlk b - j) 0 [0, 1, 2, 3] (by omega) ?_ ?_
  · simp only [refState_zero, push_cast, ↓Int.toNat_natCast, ↓Int.cast_ofNat_Int, Int.cast_ofNat_Int, ↓reduceIte, reduceCtorEq, Nat.reduceEqDiff, Nat.reduceLT, Nat.reduceLeDiff, Nat.reduceAdd, Nat.reduceSub, Nat.reduceMul, Int.reduceNeg, Int.reduceLE, Int.reduceLT, Int.reduceToNat, Int.reduceAdd, Int.reduceSub, Int.reduceMul, Int.reduceEq]
    first | rfl | exact ⟨by omega, by unfold kt; rfl, rfl⟩ | (unfold kt; rfl) | exact ⟨by unfold kt; rfl, rfl⟩
  · intro j hj
    simp only [hpl, undef, push_cast, ↓Int.toNat_natCast, ↓Int.cast_ofNat_Int, Int.cast_ofNat_Int, ↓reduceIte, reduceCtorEq, Nat.reduceEqDiff, Nat.reduceLT, Nat.reduceLeDiff, Nat.reduceAdd, Nat.reduceSub, Nat.reduceMul, Int.reduceNeg, Int.reduceLE, Int.reduceLT, Int.reduceToNat, Int.reduceAdd, Int.reduceSub, Int.reduceMul, Int.reduceEq]
    split
    · rename_i h
      have h : j < nBlk b := by simp at h; omega
      have t0 : (64 * (j : Int)).toNat = 64 * j := by omega
      have t1 : (64 * (j : Int) + 64).toNat - 64 * j = 64 := by omega
      simp only [t0, t1]
      (repeat (refine And.intro (by first | omega | decide) ?_))
      refine callG_x rfl cb137 rfl (wordsOK 3 (64 * j) (padded b) rfl (by simp only [push_cast, ↓Int.toNat_natCast, ↓Int.cast_ofNat_Int, Int.cast_ofNat_Int, ↓reduceIte, reduceCtorEq, Nat.reduceEqDiff, Nat.reduceLT, Nat.reduceLeDiff, Nat.reduceAdd, Nat.reduceSub, Nat.reduceMul, Int.reduceNeg, Int.reduceLE, Int.reduceLT, Int.reduceToNat, Int.reduceAdd, Int.reduceSub, Int.reduceMul, Int.reduceEq]) (by simp only [List.length_take, List.length_drop, hpl]; omega)) (dOk_lt rfl) (by simp only [push_cast, ↓Int.toNat_natCast, ↓Int.cast_ofNat_Int, Int.cast_ofNat_Int, ↓reduceIte, reduceCtorEq, Nat.reduceEqDiff, Nat.reduceLT, Nat.reduceLeDiff, Nat.reduceAdd, Nat.reduceSub, Nat.reduceMul, Int.reduceNeg, Int.reduceLE, Int.reduceLT, Int.reduceToNat, Int.reduceAdd, Int.reduceSub, Int.reduceMul, Int.reduceEq]) ?_
      have hbd : ((padded b).drop (64 * j)).take 64 = padBlk b j := rfl
      simp only [hbd, undef, push_cast, ↓Int.toNat_natCast, ↓Int.cast_ofNat_Int, Int.cast_ofNat_Int, ↓reduceIte, reduceCtorEq, Nat.reduceEqDiff, Nat.reduceLT, Nat.reduceLeDiff, Nat.reduceAdd, Nat.reduceSub, Nat.reduceMul, Int.reduceNeg, Int.reduceLE, Int.reduceLT, Int.reduceToNat, Int.reduceAdd, Int.reduceSub, Int.reduceMul, Int.reduceEq]
      refine loop_rule (ι := Nat) (fun k => ⟨[(2, .x (.a (.p 0 0))), (3, .x (.a (.s 1 0 64 64))), (4, .x (.a (.s 2 0 8 8))), (5, .x (.a (.o 3))), (6, .x (.a (.v (.int .i64 (64 * j : Int))))), (7, .x (.a (.o 4))), (8, .x (.a (.v (.int .i64 (16 + k : Int)))))],
        [.blk 116 (.u8 (List.replicate 32 0)), .blk 50 (.u32 kt), .blk 50 (.u32 (refState b j).list), .own 5 (.u8 (padded b)), .own 50 (.u32 ((to2 (padBlk b j) k).take (16 + k)))]⟩) (fun k => k ≤ 48) (fun k => 48 - k) 0 [0, 1, 2, 3, 4] (by omega) ?_ ?_
      · simp only [push_cast, ↓Int.toNat_natCast, ↓Int.cast_ofNat_Int, Int.cast_ofNat_Int, ↓reduceIte, reduceCtorEq, Nat.reduceEqDiff, Nat.reduceLT, Nat.reduceLeDiff, Nat.reduceAdd, Nat.reduceSub, Nat.reduceMul, Int.reduceNeg, Int.reduceLE, Int.reduceLT, Int.reduceToNat, Int.reduceAdd, Int.reduceSub, Int.reduceMul, Int.reduceEq]
        first | exact words_take _ | exact ⟨by omega, words_take _⟩
      · intro k hk
        simp only [undef, push_cast, ↓Int.toNat_natCast, ↓Int.cast_ofNat_Int, Int.cast_ofNat_Int, ↓reduceIte, reduceCtorEq, Nat.reduceEqDiff, Nat.reduceLT, Nat.reduceLeDiff, Nat.reduceAdd, Nat.reduceSub, Nat.reduceMul, Int.reduceNeg, Int.reduceLE, Int.reduceLT, Int.reduceToNat, Int.reduceAdd, Int.reduceSub, Int.reduceMul, Int.reduceEq]
        split
        · rename_i h
          have h : k < 48 := by simp at h; omega
          refine draw_rule [(0, true), (1, true), (2, true), (3, true), (4, true), (5, true), (6, true), (7, true), (8, true), (9, true), (10, true), (11, true)] (by kernel_rfl) (by kernel_rfl) rfl (by kernel_rfl) ?_
          have tl : (List.take (16 + k) (to2 (padBlk b j) k)).length = 16 + k := by rw [List.length_take, to2_length]; omega
          have a15 : (16 + (k : Int) - 15).toNat = k + 1 := by omega
          have a2 : (16 + (k : Int) - 2).toNat = k + 14 := by omega
          have a7 : (16 + (k : Int) - 7).toNat = k + 9 := by omega
          have a16 : (16 + (k : Int) - 16).toNat = k := by omega
          simp only [tl, a15, a2, a7, a16, undef, push_cast, ↓Int.toNat_natCast, ↓Int.cast_ofNat_Int, Int.cast_ofNat_Int, ↓reduceIte, reduceCtorEq, Nat.reduceEqDiff, Nat.reduceLT, Nat.reduceLeDiff, Nat.reduceAdd, Nat.reduceSub, Nat.reduceMul, Int.reduceNeg, Int.reduceLE, Int.reduceLT, Int.reduceToNat, Int.reduceAdd, Int.reduceSub, Int.reduceMul, Int.reduceEq]
          (repeat (refine And.intro (by first | omega | decide) ?_))
          refine drawT_rule 30 [(0, true), (1, true), (3, true), (6, true), (7, true), (9, true), (10, true), (11, true), (12, true), (13, true), (14, true), (16, true), (19, true), (20, true), (22, true), (23, true), (24, true), (25, true), (26, true), (2, false), (4, false), (5, true), (8, true), (15, false), (17, false), (18, true), (21, true), (27, false), (28, false), (29, false)] (by kernel_rfl) (by kernel_rfl) ?_
          simp only [tl, a15, a2, a7, a16, undef, push_cast, ↓Int.toNat_natCast, ↓Int.cast_ofNat_Int, Int.cast_ofNat_Int, ↓reduceIte, reduceCtorEq, Nat.reduceEqDiff, Nat.reduceLT, Nat.reduceLeDiff, Nat.reduceAdd, Nat.reduceSub, Nat.reduceMul, Int.reduceNeg, Int.reduceLE, Int.reduceLT, Int.reduceToNat, Int.reduceAdd, Int.reduceSub, Int.reduceMul, Int.reduceEq]
          (repeat (refine And.intro (by first | omega | decide) ?_))
          refine callM_v rfl cb139 rfl (rotrOK _ 17 17 (by omega) (by omega) rfl) (dOk_lt rfl) ?_
          simp only [tl, a15, a2, a7, a16, undef, push_cast, ↓Int.toNat_natCast, ↓Int.cast_ofNat_Int, Int.cast_ofNat_Int, ↓reduceIte, reduceCtorEq, Nat.reduceEqDiff, Nat.reduceLT, Nat.reduceLeDiff, Nat.reduceAdd, Nat.reduceSub, Nat.reduceMul, Int.reduceNeg, Int.reduceLE, Int.reduceLT, Int.reduceToNat, Int.reduceAdd, Int.reduceSub, Int.reduceMul, Int.reduceEq]
          refine callM_v rfl cb139 rfl (rotrOK _ 19 19 (by omega) (by omega) rfl) (dOk_lt rfl) ?_
          simp only [tl, a15, a2, a7, a16, undef, push_cast, ↓Int.toNat_natCast, ↓Int.cast_ofNat_Int, Int.cast_ofNat_Int, ↓reduceIte, reduceCtorEq, Nat.reduceEqDiff, Nat.reduceLT, Nat.reduceLeDiff, Nat.reduceAdd, Nat.reduceSub, Nat.reduceMul, Int.reduceNeg, Int.reduceLE, Int.reduceLT, Int.reduceToNat, Int.reduceAdd, Int.reduceSub, Int.reduceMul, Int.reduceEq]
          (repeat (refine And.intro (by first | omega | decide) ?_))
          refine callM_v rfl cb139 rfl (rotrOK _ 7 7 (by omega) (by omega) rfl) (dOk_lt rfl) ?_
          simp only [tl, a15, a2, a7, a16, undef, push_cast, ↓Int.toNat_natCast, ↓Int.cast_ofNat_Int, Int.cast_ofNat_Int, ↓reduceIte, reduceCtorEq, Nat.reduceEqDiff, Nat.reduceLT, Nat.reduceLeDiff, Nat.reduceAdd, Nat.reduceSub, Nat.reduceMul, Int.reduceNeg, Int.reduceLE, Int.reduceLT, Int.reduceToNat, Int.reduceAdd, Int.reduceSub, Int.reduceMul, Int.reduceEq]
          refine callM_v rfl cb139 rfl (rotrOK _ 18 18 (by omega) (by omega) rfl) (dOk_lt rfl) ?_
          simp only [tl, a15, a2, a7, a16, undef, push_cast, ↓Int.toNat_natCast, ↓Int.cast_ofNat_Int, Int.cast_ofNat_Int, ↓reduceIte, reduceCtorEq, Nat.reduceEqDiff, Nat.reduceLT, Nat.reduceLeDiff, Nat.reduceAdd, Nat.reduceSub, Nat.reduceMul, Int.reduceNeg, Int.reduceLE, Int.reduceLT, Int.reduceToNat, Int.reduceAdd, Int.reduceSub, Int.reduceMul, Int.reduceEq]
          (repeat (refine And.intro (by first | omega | decide) ?_))
          refine callM_v rfl cb138 rfl (addOK 5 4 _ _ rfl (sum4 _ _ _ _) rfl (by omega)) (dOk_lt rfl) ?_
          simp only [tl, a15, a2, a7, a16, undef, push_cast, ↓Int.toNat_natCast, ↓Int.cast_ofNat_Int, Int.cast_ofNat_Int, ↓reduceIte, reduceCtorEq, Nat.reduceEqDiff, Nat.reduceLT, Nat.reduceLeDiff, Nat.reduceAdd, Nat.reduceSub, Nat.reduceMul, Int.reduceNeg, Int.reduceLE, Int.reduceLT, Int.reduceToNat, Int.reduceAdd, Int.reduceSub, Int.reduceMul, Int.reduceEq]
          (repeat (refine And.intro (by first | omega | decide) ?_))
          refine loopK_normal (k + 1) [0, 1, 2, 3, 7] (by omega) (by omega) ?_
          simp only [push_cast, ↓Int.toNat_natCast, ↓Int.cast_ofNat_Int, Int.cast_ofNat_Int, ↓reduceIte, reduceCtorEq, Nat.reduceEqDiff, Nat.reduceLT, Nat.reduceLeDiff, Nat.reduceAdd, Nat.reduceSub, Nat.reduceMul, Int.reduceNeg, Int.reduceLE, Int.reduceLT, Int.reduceToNat, Int.reduceAdd, Int.reduceSub, Int.reduceMul, Int.reduceEq]
          exact ⟨by omega, to2_step _ _ h⟩
        · rename_i h
          have h : k = 48 := by simp at h; omega
          subst h
          have hw48 : List.take (16 + 48) (to2 (padBlk b j) 48) = wordsOf (padBlk b j) := by
            rw [List.take_of_length_le (by rw [to2_length]; omega)]
            unfold wordsOf
            rfl
          have hwl : (wordsOf (padBlk b j)).length = 64 := by unfold wordsOf; exact to2_length _ _
          simp only [hw48]
          simp only [ix_s0, ix_s1, ix_s2, ix_s3, ix_s4, ix_s5, ix_s6, ix_s7, St.list_length, kt_len, hwl, addTo_length, undef, push_cast, ↓Int.toNat_natCast, ↓Int.cast_ofNat_Int, Int.cast_ofNat_Int, ↓reduceIte, reduceCtorEq, Nat.reduceEqDiff, Nat.reduceLT, Nat.reduceLeDiff, Nat.reduceAdd, Nat.reduceSub, Nat.reduceMul, Int.reduceNeg, Int.reduceLE, Int.reduceLT, Int.reduceToNat, Int.reduceAdd, Int.reduceSub, Int.reduceMul, Int.reduceEq]
          (repeat (refine And.intro (by first | omega | decide) ?_))
          refine loop_rule (ι := Nat) (fun t => ⟨[(2, .x (.a (.p 0 0))), (3, .x (.a (.s 1 0 64 64))), (4, .x (.a (.s 2 0 8 8))), (5, .x (.a (.o 3))), (6, .x (.a (.v (.int .i64 (64 * j : Int))))), (7, .x (.a (.o 4))), (11, .x (.a (.o 5))), (12, .x (.a (.v (.int .i64 t))))],
            [.blk 116 (.u8 (List.replicate 32 0)), .blk 50 (.u32 kt), .blk 50 (.u32 (refState b j).list), .own 5 (.u8 (padded b)), .own 50 (.u32 (wordsOf (padBlk b j))), .own 50 (.u32 (rnds (refState b j) (wordsOf (padBlk b j)) t).list)]⟩) (fun t => t ≤ 64) (fun t => 64 - t) 0 [0, 1, 2, 3, 4, 6] (by omega) ?_ ?_
          · simp only [rnds_zero, push_cast, ↓Int.toNat_natCast, ↓Int.cast_ofNat_Int, Int.cast_ofNat_Int, ↓reduceIte, reduceCtorEq, Nat.reduceEqDiff, Nat.reduceLT, Nat.reduceLeDiff, Nat.reduceAdd, Nat.reduceSub, Nat.reduceMul, Int.reduceNeg, Int.reduceLE, Int.reduceLT, Int.reduceToNat, Int.reduceAdd, Int.reduceSub, Int.reduceMul, Int.reduceEq]
            try omega
          · intro t ht
            have hrn : Hid (rnds (refState b j) (wordsOf (padBlk b j)) (t + 1) = rnd (rnds (refState b j) (wordsOf (padBlk b j)) t) (ix kt t) (ix (wordsOf (padBlk b j)) t)) := Lib.hid (rnds_succ _ _ _)
            generalize hr : rnds (refState b j) (wordsOf (padBlk b j)) t = r at hrn
            simp only [ix_s0, ix_s1, ix_s2, ix_s3, ix_s4, ix_s5, ix_s6, ix_s7, St.list_length, kt_len, hwl, addTo_length, undef, push_cast, ↓Int.toNat_natCast, ↓Int.cast_ofNat_Int, Int.cast_ofNat_Int, ↓reduceIte, reduceCtorEq, Nat.reduceEqDiff, Nat.reduceLT, Nat.reduceLeDiff, Nat.reduceAdd, Nat.reduceSub, Nat.reduceMul, Int.reduceNeg, Int.reduceLE, Int.reduceLT, Int.reduceToNat, Int.reduceAdd, Int.reduceSub, Int.reduceMul, Int.reduceEq]
            split
            · rename_i h
              have h : t < 64 := by simp at h; omega
              refine draw_rule [(0, true), (1, true), (2, true), (3, true), (4, true), (5, true), (6, true), (7, true)] (by kernel_rfl) (by kernel_rfl) rfl (by kernel_rfl) ?_
              simp only [ix_s0, ix_s1, ix_s2, ix_s3, ix_s4, ix_s5, ix_s6, ix_s7, St.list_length, kt_len, hwl, addTo_length, undef, push_cast, ↓Int.toNat_natCast, ↓Int.cast_ofNat_Int, Int.cast_ofNat_Int, ↓reduceIte, reduceCtorEq, Nat.reduceEqDiff, Nat.reduceLT, Nat.reduceLeDiff, Nat.reduceAdd, Nat.reduceSub, Nat.reduceMul, Int.reduceNeg, Int.reduceLE, Int.reduceLT, Int.reduceToNat, Int.reduceAdd, Int.reduceSub, Int.reduceMul, Int.reduceEq]
              (repeat (refine And.intro (by first | omega | decide) ?_))
              refine draw_rule [(0, true), (1, true), (2, true), (3, true), (4, true), (5, true), (6, true), (7, true), (8, true), (9, true), (10, true), (11, true), (12, true)] (by kernel_rfl) (by kernel_rfl) rfl (by kernel_rfl) ?_
              simp only [ix_s0, ix_s1, ix_s2, ix_s3, ix_s4, ix_s5, ix_s6, ix_s7, St.list_length, kt_len, hwl, addTo_length, undef, push_cast, ↓Int.toNat_natCast, ↓Int.cast_ofNat_Int, Int.cast_ofNat_Int, ↓reduceIte, reduceCtorEq, Nat.reduceEqDiff, Nat.reduceLT, Nat.reduceLeDiff, Nat.reduceAdd, Nat.reduceSub, Nat.reduceMul, Int.reduceNeg, Int.reduceLE, Int.reduceLT, Int.reduceToNat, Int.reduceAdd, Int.reduceSub, Int.reduceMul, Int.reduceEq]
              (repeat (refine And.intro (by first | omega | decide) ?_))
              refine draw_rule [(0, true), (1, true), (2, true), (3, true), (4, true), (5, true), (6, true), (7, true), (8, true), (9, true), (10, true), (11, true), (12, true), (13, true), (14, true), (15, true), (16, true), (17, true), (18, true), (19, true)] (by kernel_rfl) (by kernel_rfl) rfl (by kernel_rfl) ?_
              simp only [ix_s0, ix_s1, ix_s2, ix_s3, ix_s4, ix_s5, ix_s6, ix_s7, St.list_length, kt_len, hwl, addTo_length, undef, push_cast, ↓Int.toNat_natCast, ↓Int.cast_ofNat_Int, Int.cast_ofNat_Int, ↓reduceIte, reduceCtorEq, Nat.reduceEqDiff, Nat.reduceLT, Nat.reduceLeDiff, Nat.reduceAdd, Nat.reduceSub, Nat.reduceMul, Int.reduceNeg, Int.reduceLE, Int.reduceLT, Int.reduceToNat, Int.reduceAdd, Int.reduceSub, Int.reduceMul, Int.reduceEq]
              (repeat (refine And.intro (by first | omega | decide) ?_))
              refine draw_rule [(0, true), (1, true), (2, true), (3, true), (5, true), (8, true), (11, true), (12, true), (13, true), (14, true), (15, true), (16, true), (17, true), (18, true), (19, true), (4, false), (6, false), (7, true), (9, false), (10, true), (20, false), (21, false), (22, true)] (by kernel_rfl) (by kernel_rfl) rfl (by kernel_rfl) ?_
              simp only [ix_s0, ix_s1, ix_s2, ix_s3, ix_s4, ix_s5, ix_s6, ix_s7, St.list_length, kt_len, hwl, addTo_length, undef, push_cast, ↓Int.toNat_natCast, ↓Int.cast_ofNat_Int, Int.cast_ofNat_Int, ↓reduceIte, reduceCtorEq, Nat.reduceEqDiff, Nat.reduceLT, Nat.reduceLeDiff, Nat.reduceAdd, Nat.reduceSub, Nat.reduceMul, Int.reduceNeg, Int.reduceLE, Int.reduceLT, Int.reduceToNat, Int.reduceAdd, Int.reduceSub, Int.reduceMul, Int.reduceEq]
              (repeat (refine And.intro (by first | omega | decide) ?_))
              refine callM_v rfl cb139 rfl (rotrOK _ 6 6 (by omega) (by omega) rfl) (dOk_lt rfl) ?_
              simp only [ix_s0, ix_s1, ix_s2, ix_s3, ix_s4, ix_s5, ix_s6, ix_s7, St.list_length, kt_len, hwl, addTo_length, undef, push_cast, ↓Int.toNat_natCast, ↓Int.cast_ofNat_Int, Int.cast_ofNat_Int, ↓reduceIte, reduceCtorEq, Nat.reduceEqDiff, Nat.reduceLT, Nat.reduceLeDiff, Nat.reduceAdd, Nat.reduceSub, Nat.reduceMul, Int.reduceNeg, Int.reduceLE, Int.reduceLT, Int.reduceToNat, Int.reduceAdd, Int.reduceSub, Int.reduceMul, Int.reduceEq]
              (repeat (refine And.intro (by first | omega | decide) ?_))
              refine callM_v rfl cb139 rfl (rotrOK _ 11 11 (by omega) (by omega) rfl) (dOk_lt rfl) ?_
              simp only [ix_s0, ix_s1, ix_s2, ix_s3, ix_s4, ix_s5, ix_s6, ix_s7, St.list_length, kt_len, hwl, addTo_length, undef, push_cast, ↓Int.toNat_natCast, ↓Int.cast_ofNat_Int, Int.cast_ofNat_Int, ↓reduceIte, reduceCtorEq, Nat.reduceEqDiff, Nat.reduceLT, Nat.reduceLeDiff, Nat.reduceAdd, Nat.reduceSub, Nat.reduceMul, Int.reduceNeg, Int.reduceLE, Int.reduceLT, Int.reduceToNat, Int.reduceAdd, Int.reduceSub, Int.reduceMul, Int.reduceEq]
              (repeat (refine And.intro (by first | omega | decide) ?_))
              refine callM_v rfl cb139 rfl (rotrOK _ 25 25 (by omega) (by omega) rfl) (dOk_lt rfl) ?_
              simp only [ix_s0, ix_s1, ix_s2, ix_s3, ix_s4, ix_s5, ix_s6, ix_s7, St.list_length, kt_len, hwl, addTo_length, undef, push_cast, ↓Int.toNat_natCast, ↓Int.cast_ofNat_Int, Int.cast_ofNat_Int, ↓reduceIte, reduceCtorEq, Nat.reduceEqDiff, Nat.reduceLT, Nat.reduceLeDiff, Nat.reduceAdd, Nat.reduceSub, Nat.reduceMul, Int.reduceNeg, Int.reduceLE, Int.reduceLT, Int.reduceToNat, Int.reduceAdd, Int.reduceSub, Int.reduceMul, Int.reduceEq]
              (repeat (refine And.intro (by first | omega | decide) ?_))
              refine callM_v rfl cb138 rfl (addOK 6 5 _ _ rfl (sum5 _ _ _ _ _) rfl (by omega)) (dOk_lt rfl) ?_
              simp only [ix_s0, ix_s1, ix_s2, ix_s3, ix_s4, ix_s5, ix_s6, ix_s7, St.list_length, kt_len, hwl, addTo_length, undef, push_cast, ↓Int.toNat_natCast, ↓Int.cast_ofNat_Int, Int.cast_ofNat_Int, ↓reduceIte, reduceCtorEq, Nat.reduceEqDiff, Nat.reduceLT, Nat.reduceLeDiff, Nat.reduceAdd, Nat.reduceSub, Nat.reduceMul, Int.reduceNeg, Int.reduceLE, Int.reduceLT, Int.reduceToNat, Int.reduceAdd, Int.reduceSub, Int.reduceMul, Int.reduceEq]
              (repeat (refine And.intro (by first | omega | decide) ?_))
              refine callG_v rfl cb139 rfl (rotrOK _ 2 2 (by omega) (by omega) rfl) (dOk_lt rfl) ?_
              simp only [ix_s0, ix_s1, ix_s2, ix_s3, ix_s4, ix_s5, ix_s6, ix_s7, St.list_length, kt_len, hwl, addTo_length, undef, push_cast, ↓Int.toNat_natCast, ↓Int.cast_ofNat_Int, Int.cast_ofNat_Int, ↓reduceIte, reduceCtorEq, Nat.reduceEqDiff, Nat.reduceLT, Nat.reduceLeDiff, Nat.reduceAdd, Nat.reduceSub, Nat.reduceMul, Int.reduceNeg, Int.reduceLE, Int.reduceLT, Int.reduceToNat, Int.reduceAdd, Int.reduceSub, Int.reduceMul, Int.reduceEq]
              (repeat (refine And.intro (by first | omega | decide) ?_))
              refine callG_v rfl cb139 rfl (rotrOK _ 13 13 (by omega) (by omega) rfl) (dOk_lt rfl) ?_
              simp only [ix_s0, ix_s1, ix_s2, ix_s3, ix_s4, ix_s5, ix_s6, ix_s7, St.list_length, kt_len, hwl, addTo_length, undef, push_cast, ↓Int.toNat_natCast, ↓Int.cast_ofNat_Int, Int.cast_ofNat_Int, ↓reduceIte, reduceCtorEq, Nat.reduceEqDiff, Nat.reduceLT, Nat.reduceLeDiff, Nat.reduceAdd, Nat.reduceSub, Nat.reduceMul, Int.reduceNeg, Int.reduceLE, Int.reduceLT, Int.reduceToNat, Int.reduceAdd, Int.reduceSub, Int.reduceMul, Int.reduceEq]
              (repeat (refine And.intro (by first | omega | decide) ?_))
              refine callG_v rfl cb139 rfl (rotrOK _ 22 22 (by omega) (by omega) rfl) (dOk_lt rfl) ?_
              simp only [ix_s0, ix_s1, ix_s2, ix_s3, ix_s4, ix_s5, ix_s6, ix_s7, St.list_length, kt_len, hwl, addTo_length, undef, push_cast, ↓Int.toNat_natCast, ↓Int.cast_ofNat_Int, Int.cast_ofNat_Int, ↓reduceIte, reduceCtorEq, Nat.reduceEqDiff, Nat.reduceLT, Nat.reduceLeDiff, Nat.reduceAdd, Nat.reduceSub, Nat.reduceMul, Int.reduceNeg, Int.reduceLE, Int.reduceLT, Int.reduceToNat, Int.reduceAdd, Int.reduceSub, Int.reduceMul, Int.reduceEq]
              (repeat (refine And.intro (by first | omega | decide) ?_))
              refine callG_v rfl cb138 rfl (addOK 7 2 _ _ rfl (sum2 _ _) rfl (by omega)) (dOk_lt rfl) ?_
              simp only [ix_s0, ix_s1, ix_s2, ix_s3, ix_s4, ix_s5, ix_s6, ix_s7, St.list_length, kt_len, hwl, addTo_length, undef, push_cast, ↓Int.toNat_natCast, ↓Int.cast_ofNat_Int, Int.cast_ofNat_Int, ↓reduceIte, reduceCtorEq, Nat.reduceEqDiff, Nat.reduceLT, Nat.reduceLeDiff, Nat.reduceAdd, Nat.reduceSub, Nat.reduceMul, Int.reduceNeg, Int.reduceLE, Int.reduceLT, Int.reduceToNat, Int.reduceAdd, Int.reduceSub, Int.reduceMul, Int.reduceEq]
              (repeat (refine And.intro (by first | omega | decide) ?_))
              refine drawP_rule (.rd 0 (.rd 1 (.rd 4 (.rd 5 (.rd 6 (.rd 7 (.rd 8 (.rd 9 (.rd 10 (.rd 11 (.rd 12 (.rd 13 (.rd 14 (.rd 17 (.rd 18 (.rd 19 (.rd 20 (.rd 21 (.rd 22 (.rd 23 (.fk 2 (.fk 3 (.wr 15 (.wr 16 (.wr 24 (.rd 25 .nil)))) 15 (.wr 3 (.wr 16 (.wr 24 (.rd 25 .nil))))) 15 (.wr 2 (.wr 3 (.wr 16 (.wr 24 (.rd 25 .nil)))))))))))))))))))))))))) ⟨[(2, .x (.a (.p 0 0))), (3, .x (.a (.s 1 0 64 64))), (4, .x (.a (.s 2 0 8 8))), (5, .x (.a (.o 3))), (6, .x (.a (.v (.int .i64 (64 * j : Int))))), (7, .x (.a (.o 4))), (11, .x (.a (.s 5 0 8 8))), (12, .x (.a (.v (.int .i64 t))))],
                [.blk 116 (.u8 (List.replicate 32 0)), .blk 50 (.u32 kt), .blk 50 (.u32 (refState b j).list), .own 5 (.u8 (padded b)), .own 50 (.u32 (wordsOf (padBlk b j))), .blk 50 (.u32 (rnd r (ix kt t) (ix (wordsOf (padBlk b j)) t)).list)]⟩ (by kernel_rfl) (by kernel_rfl) (by kernel_rfl) ?_ ?_
              · simp only [ix_s0, ix_s1, ix_s2, ix_s3, ix_s4, ix_s5, ix_s6, ix_s7, St.list_length, kt_len, hwl, addTo_length, undef, push_cast, ↓Int.toNat_natCast, ↓Int.cast_ofNat_Int, Int.cast_ofNat_Int, ↓reduceIte, reduceCtorEq, Nat.reduceEqDiff, Nat.reduceLT, Nat.reduceLeDiff, Nat.reduceAdd, Nat.reduceSub, Nat.reduceMul, Int.reduceNeg, Int.reduceLE, Int.reduceLT, Int.reduceToNat, Int.reduceAdd, Int.reduceSub, Int.reduceMul, Int.reduceEq]
                (repeat (refine And.intro (by first | omega | decide) ?_))
                refine ⟨⟨?_, ?_⟩, ?_⟩
                · refine callP_v rfl cb138 rfl (addOK 8 2 _ _ rfl (sum2 _ _) rfl (by omega)) (dOk_lt rfl) ?_
                  simp only [ix_s0, ix_s1, ix_s2, ix_s3, ix_s4, ix_s5, ix_s6, ix_s7, St.list_length, kt_len, hwl, addTo_length, undef, push_cast, ↓Int.toNat_natCast, ↓Int.cast_ofNat_Int, Int.cast_ofNat_Int, ↓reduceIte, reduceCtorEq, Nat.reduceEqDiff, Nat.reduceLT, Nat.reduceLeDiff, Nat.reduceAdd, Nat.reduceSub, Nat.reduceMul, Int.reduceNeg, Int.reduceLE, Int.reduceLT, Int.reduceToNat, Int.reduceAdd, Int.reduceSub, Int.reduceMul, Int.reduceEq]
                  (repeat (refine And.intro (by first | omega | decide) ?_))
                  refine callP_v rfl cb138 rfl (addOK 9 2 _ _ rfl (sum2 _ _) rfl (by omega)) (dOk_lt rfl) ?_
                  simp only [ix_s0, ix_s1, ix_s2, ix_s3, ix_s4, ix_s5, ix_s6, ix_s7, St.list_length, kt_len, hwl, addTo_length, undef, push_cast, ↓Int.toNat_natCast, ↓Int.cast_ofNat_Int, Int.cast_ofNat_Int, ↓reduceIte, reduceCtorEq, Nat.reduceEqDiff, Nat.reduceLT, Nat.reduceLeDiff, Nat.reduceAdd, Nat.reduceSub, Nat.reduceMul, Int.reduceNeg, Int.reduceLE, Int.reduceLT, Int.reduceToNat, Int.reduceAdd, Int.reduceSub, Int.reduceMul, Int.reduceEq]
                  (repeat (refine And.intro (by first | omega | decide) ?_))
                  refine leads_le [0, 1, 2, 3, 4, 10] ?_
                  simp only [push_cast, ↓Int.toNat_natCast, ↓Int.cast_ofNat_Int, Int.cast_ofNat_Int, ↓reduceIte, reduceCtorEq, Nat.reduceEqDiff, Nat.reduceLT, Nat.reduceLeDiff, Nat.reduceAdd, Nat.reduceSub, Nat.reduceMul, Int.reduceNeg, Int.reduceLE, Int.reduceLT, Int.reduceToNat, Int.reduceAdd, Int.reduceSub, Int.reduceMul, Int.reduceEq]
                  exact rnd_list _ _ _
                · refine callP_v rfl cb138 rfl (addOK 8 2 _ _ rfl (sum2 _ _) rfl (by omega)) (dOk_lt rfl) ?_
                  simp only [ix_s0, ix_s1, ix_s2, ix_s3, ix_s4, ix_s5, ix_s6, ix_s7, St.list_length, kt_len, hwl, addTo_length, undef, push_cast, ↓Int.toNat_natCast, ↓Int.cast_ofNat_Int, Int.cast_ofNat_Int, ↓reduceIte, reduceCtorEq, Nat.reduceEqDiff, Nat.reduceLT, Nat.reduceLeDiff, Nat.reduceAdd, Nat.reduceSub, Nat.reduceMul, Int.reduceNeg, Int.reduceLE, Int.reduceLT, Int.reduceToNat, Int.reduceAdd, Int.reduceSub, Int.reduceMul, Int.reduceEq]
                  (repeat (refine And.intro (by first | omega | decide) ?_))
                  refine callP_v rfl cb138 rfl (addOK 9 2 _ _ rfl (sum2 _ _) rfl (by omega)) (dOk_lt rfl) ?_
                  simp only [ix_s0, ix_s1, ix_s2, ix_s3, ix_s4, ix_s5, ix_s6, ix_s7, St.list_length, kt_len, hwl, addTo_length, undef, push_cast, ↓Int.toNat_natCast, ↓Int.cast_ofNat_Int, Int.cast_ofNat_Int, ↓reduceIte, reduceCtorEq, Nat.reduceEqDiff, Nat.reduceLT, Nat.reduceLeDiff, Nat.reduceAdd, Nat.reduceSub, Nat.reduceMul, Int.reduceNeg, Int.reduceLE, Int.reduceLT, Int.reduceToNat, Int.reduceAdd, Int.reduceSub, Int.reduceMul, Int.reduceEq]
                  (repeat (refine And.intro (by first | omega | decide) ?_))
                  refine leads_le [0, 1, 2, 3, 4, 10] ?_
                  simp only [push_cast, ↓Int.toNat_natCast, ↓Int.cast_ofNat_Int, Int.cast_ofNat_Int, ↓reduceIte, reduceCtorEq, Nat.reduceEqDiff, Nat.reduceLT, Nat.reduceLeDiff, Nat.reduceAdd, Nat.reduceSub, Nat.reduceMul, Int.reduceNeg, Int.reduceLE, Int.reduceLT, Int.reduceToNat, Int.reduceAdd, Int.reduceSub, Int.reduceMul, Int.reduceEq]
                  exact rnd_list _ _ _
                · refine callP_v rfl cb138 rfl (addOK 9 2 _ _ rfl (sum2 _ _) rfl (by omega)) (dOk_lt rfl) ?_
                  simp only [ix_s0, ix_s1, ix_s2, ix_s3, ix_s4, ix_s5, ix_s6, ix_s7, St.list_length, kt_len, hwl, addTo_length, undef, push_cast, ↓Int.toNat_natCast, ↓Int.cast_ofNat_Int, Int.cast_ofNat_Int, ↓reduceIte, reduceCtorEq, Nat.reduceEqDiff, Nat.reduceLT, Nat.reduceLeDiff, Nat.reduceAdd, Nat.reduceSub, Nat.reduceMul, Int.reduceNeg, Int.reduceLE, Int.reduceLT, Int.reduceToNat, Int.reduceAdd, Int.reduceSub, Int.reduceMul, Int.reduceEq]
                  (repeat (refine And.intro (by first | omega | decide) ?_))
                  refine callP_v rfl cb138 rfl (addOK 8 2 _ _ rfl (sum2 _ _) rfl (by omega)) (dOk_lt rfl) ?_
                  simp only [ix_s0, ix_s1, ix_s2, ix_s3, ix_s4, ix_s5, ix_s6, ix_s7, St.list_length, kt_len, hwl, addTo_length, undef, push_cast, ↓Int.toNat_natCast, ↓Int.cast_ofNat_Int, Int.cast_ofNat_Int, ↓reduceIte, reduceCtorEq, Nat.reduceEqDiff, Nat.reduceLT, Nat.reduceLeDiff, Nat.reduceAdd, Nat.reduceSub, Nat.reduceMul, Int.reduceNeg, Int.reduceLE, Int.reduceLT, Int.reduceToNat, Int.reduceAdd, Int.reduceSub, Int.reduceMul, Int.reduceEq]
                  (repeat (refine And.intro (by first | omega | decide) ?_))
                  refine leads_le [0, 1, 2, 3, 4, 10] ?_
                  simp only [push_cast, ↓Int.toNat_natCast, ↓Int.cast_ofNat_Int, Int.cast_ofNat_Int, ↓reduceIte, reduceCtorEq, Nat.reduceEqDiff, Nat.reduceLT, Nat.reduceLeDiff, Nat.reduceAdd, Nat.reduceSub, Nat.reduceMul, Int.reduceNeg, Int.reduceLE, Int.reduceLT, Int.reduceToNat, Int.reduceAdd, Int.reduceSub, Int.reduceMul, Int.reduceEq]
                  exact rnd_list _ _ _
              simp only [ix_s0, ix_s1, ix_s2, ix_s3, ix_s4, ix_s5, ix_s6, ix_s7, St.list_length, kt_len, hwl, addTo_length, undef, push_cast, ↓Int.toNat_natCast, ↓Int.cast_ofNat_Int, Int.cast_ofNat_Int, ↓reduceIte, reduceCtorEq, Nat.reduceEqDiff, Nat.reduceLT, Nat.reduceLeDiff, Nat.reduceAdd, Nat.reduceSub, Nat.reduceMul, Int.reduceNeg, Int.reduceLE, Int.reduceLT, Int.reduceToNat, Int.reduceAdd, Int.reduceSub, Int.reduceMul, Int.reduceEq]
              (repeat (refine And.intro (by first | omega | decide) ?_))
              refine loopK_own 11 5 8 rfl rfl rfl (by unfold maxLen; omega) (by simp only [push_cast, ↓Int.toNat_natCast, ↓Int.cast_ofNat_Int, Int.cast_ofNat_Int, ↓reduceIte, reduceCtorEq, Nat.reduceEqDiff, Nat.reduceLT, Nat.reduceLeDiff, Nat.reduceAdd, Nat.reduceSub, Nat.reduceMul, Int.reduceNeg, Int.reduceLE, Int.reduceLT, Int.reduceToNat, Int.reduceAdd, Int.reduceSub, Int.reduceMul, Int.reduceEq]) ?_
              simp only [push_cast, ↓Int.toNat_natCast, ↓Int.cast_ofNat_Int, Int.cast_ofNat_Int, ↓reduceIte, reduceCtorEq, Nat.reduceEqDiff, Nat.reduceLT, Nat.reduceLeDiff, Nat.reduceAdd, Nat.reduceSub, Nat.reduceMul, Int.reduceNeg, Int.reduceLE, Int.reduceLT, Int.reduceToNat, Int.reduceAdd, Int.reduceSub, Int.reduceMul, Int.reduceEq]
              refine loopK_normal (t + 1) [0, 1, 2, 3, 4, 6] (by omega) (by omega) ?_
              simp only [hrn.out, push_cast, ↓Int.toNat_natCast, ↓Int.cast_ofNat_Int, Int.cast_ofNat_Int, ↓reduceIte, reduceCtorEq, Nat.reduceEqDiff, Nat.reduceLT, Nat.reduceLeDiff, Nat.reduceAdd, Nat.reduceSub, Nat.reduceMul, Int.reduceNeg, Int.reduceLE, Int.reduceLT, Int.reduceToNat, Int.reduceAdd, Int.reduceSub, Int.reduceMul, Int.reduceEq]
              try omega
            · rename_i h
              have h : t = 64 := by simp at h; omega
              subst h
              clear hrn
              (repeat (refine And.intro (by first | omega | decide) ?_))
              refine loop_rule (ι := Nat) (fun i => ⟨[(2, .x (.a (.p 0 0))), (3, .x (.a (.s 1 0 64 64))), (4, .x (.a (.s 2 0 8 8))), (5, .x (.a (.o 3))), (6, .x (.a (.v (.int .i64 (64 * j : Int))))), (11, .x (.a (.o 4))), (19, .x (.a (.v (.int .i64 i))))],
                [.blk 116 (.u8 (List.replicate 32 0)), .blk 50 (.u32 kt), .blk 50 (.u32 (addTo (refState b j).list r.list i)), .own 5 (.u8 (padded b)), .own 50 (.u32 r.list)]⟩) (fun i => i ≤ 8) (fun i => 8 - i) 0 [0, 1, 2, 3, 5] (by omega) ?_ ?_
              · simp only [addTo_zero, push_cast, ↓Int.toNat_natCast, ↓Int.cast_ofNat_Int, Int.cast_ofNat_Int, ↓reduceIte, reduceCtorEq, Nat.reduceEqDiff, Nat.reduceLT, Nat.reduceLeDiff, Nat.reduceAdd, Nat.reduceSub, Nat.reduceMul, Int.reduceNeg, Int.reduceLE, Int.reduceLT, Int.reduceToNat, Int.reduceAdd, Int.reduceSub, Int.reduceMul, Int.reduceEq]
                try omega
              · intro i hi
                simp only [ix_s0, ix_s1, ix_s2, ix_s3, ix_s4, ix_s5, ix_s6, ix_s7, St.list_length, kt_len, hwl, addTo_length, undef, push_cast, ↓Int.toNat_natCast, ↓Int.cast_ofNat_Int, Int.cast_ofNat_Int, ↓reduceIte, reduceCtorEq, Nat.reduceEqDiff, Nat.reduceLT, Nat.reduceLeDiff, Nat.reduceAdd, Nat.reduceSub, Nat.reduceMul, Int.reduceNeg, Int.reduceLE, Int.reduceLT, Int.reduceToNat, Int.reduceAdd, Int.reduceSub, Int.reduceMul, Int.reduceEq]
                split
                · rename_i h
                  have h : i < 8 := by simp at h; omega
                  refine drawT_rule 13 [(0, true), (1, true), (2, true), (3, true), (4, true), (5, true), (6, true), (7, true), (8, true), (9, true), (10, false), (11, false), (12, true)] (by kernel_rfl) (by kernel_rfl) ?_
                  simp only [ix_s0, ix_s1, ix_s2, ix_s3, ix_s4, ix_s5, ix_s6, ix_s7, St.list_length, kt_len, hwl, addTo_length, undef, push_cast, ↓Int.toNat_natCast, ↓Int.cast_ofNat_Int, Int.cast_ofNat_Int, ↓reduceIte, reduceCtorEq, Nat.reduceEqDiff, Nat.reduceLT, Nat.reduceLeDiff, Nat.reduceAdd, Nat.reduceSub, Nat.reduceMul, Int.reduceNeg, Int.reduceLE, Int.reduceLT, Int.reduceToNat, Int.reduceAdd, Int.reduceSub, Int.reduceMul, Int.reduceEq]
                  (repeat (refine And.intro (by first | omega | decide) ?_))
                  refine callM_v rfl cb138 rfl (addOK 5 2 _ _ rfl (sum2 _ _) rfl (by omega)) (dOk_lt rfl) ?_
                  simp only [ix_s0, ix_s1, ix_s2, ix_s3, ix_s4, ix_s5, ix_s6, ix_s7, St.list_length, kt_len, hwl, addTo_length, undef, push_cast, ↓Int.toNat_natCast, ↓Int.cast_ofNat_Int, Int.cast_ofNat_Int, ↓reduceIte, reduceCtorEq, Nat.reduceEqDiff, Nat.reduceLT, Nat.reduceLeDiff, Nat.reduceAdd, Nat.reduceSub, Nat.reduceMul, Int.reduceNeg, Int.reduceLE, Int.reduceLT, Int.reduceToNat, Int.reduceAdd, Int.reduceSub, Int.reduceMul, Int.reduceEq]
                  (repeat (refine And.intro (by first | omega | decide) ?_))
                  refine loopK_normal (i + 1) [0, 1, 2, 3, 4] (by omega) (by omega) ?_
                  simp only [addTo_succ, push_cast, ↓Int.toNat_natCast, ↓Int.cast_ofNat_Int, Int.cast_ofNat_Int, ↓reduceIte, reduceCtorEq, Nat.reduceEqDiff, Nat.reduceLT, Nat.reduceLeDiff, Nat.reduceAdd, Nat.reduceSub, Nat.reduceMul, Int.reduceNeg, Int.reduceLE, Int.reduceLT, Int.reduceToNat, Int.reduceAdd, Int.reduceSub, Int.reduceMul, Int.reduceEq]
                  try omega
                · rename_i h
                  have h : i = 8 := by simp at h; omega
                  subst h
                  (repeat (refine And.intro (by first | omega | decide) ?_))
                  refine loopK_normal (j + 1) [0, 1, 2, 3] (by omega) (by omega) ?_
                  simp only [push_cast, ↓Int.toNat_natCast, ↓Int.cast_ofNat_Int, Int.cast_ofNat_Int, ↓reduceIte, reduceCtorEq, Nat.reduceEqDiff, Nat.reduceLT, Nat.reduceLeDiff, Nat.reduceAdd, Nat.reduceSub, Nat.reduceMul, Int.reduceNeg, Int.reduceLE, Int.reduceLT, Int.reduceToNat, Int.reduceAdd, Int.reduceSub, Int.reduceMul, Int.reduceEq]
                  refine ⟨by omega, ?_⟩
                  rw [addTo_all, refState_succ, moreOf_eq, hr]
    · rename_i h
      have h : j = nBlk b := by simp at h; omega
      subst h
      generalize refState b (nBlk b) = s
      (repeat (refine And.intro (by first | omega | decide) ?_))
      refine callG_x rfl cb140 rfl (callOK_own (c := .u8 (bytesTo s.list 8)) (e := 5) (by simp only [push_cast, ↓Int.toNat_natCast, ↓Int.cast_ofNat_Int, Int.cast_ofNat_Int, ↓reduceIte, reduceCtorEq, Nat.reduceEqDiff, Nat.reduceLT, Nat.reduceLeDiff, Nat.reduceAdd, Nat.reduceSub, Nat.reduceMul, Int.reduceNeg, Int.reduceLE, Int.reduceLT, Int.reduceToNat, Int.reduceAdd, Int.reduceSub, Int.reduceMul, Int.reduceEq]) trivial ?_) (dOk_lt rfl) (by simp only [push_cast, ↓Int.toNat_natCast, ↓Int.cast_ofNat_Int, Int.cast_ofNat_Int, ↓reduceIte, reduceCtorEq, Nat.reduceEqDiff, Nat.reduceLT, Nat.reduceLeDiff, Nat.reduceAdd, Nat.reduceSub, Nat.reduceMul, Int.reduceNeg, Int.reduceLE, Int.reduceLT, Int.reduceToNat, Int.reduceAdd, Int.reduceSub, Int.reduceMul, Int.reduceEq]) ?_
      · intro γ w' hS
        exact refBytes_any s.list (by simp) _ 8 w' (hS.rdBlk (k := 2) rfl 0)
      simp only [St.list_length, kt_len, undef, push_cast, ↓Int.toNat_natCast, ↓Int.cast_ofNat_Int, Int.cast_ofNat_Int, ↓reduceIte, reduceCtorEq, Nat.reduceEqDiff, Nat.reduceLT, Nat.reduceLeDiff, Nat.reduceAdd, Nat.reduceSub, Nat.reduceMul, Int.reduceNeg, Int.reduceLE, Int.reduceLT, Int.reduceToNat, Int.reduceAdd, Int.reduceSub, Int.reduceMul, Int.reduceEq]
      rw [bytes_out]
      have hcl : (outTo s 32).length = 32 := outTo_length s 32
      generalize outTo s 32 = c at hcl
      refine loop_rule (ι := Nat) (fun i => ⟨[(2, .x (.a (.p 0 0))), (20, .x (.a (.p 1 0))), (21, .x (.a (.o 2))), (22, .x (.a (.v (.int .i64 i))))],
        [.blk 116 (.u8 (List.replicate 32 0)), .blk 116 (.u8 (cpTo c i)), .own 5 (.u8 c)]⟩) (fun i => i ≤ 32) (fun i => 32 - i) 0 [0, 4, 5] (by omega) ?_ ?_
      · simp only [push_cast, ↓Int.toNat_natCast, ↓Int.cast_ofNat_Int, Int.cast_ofNat_Int, ↓reduceIte, reduceCtorEq, Nat.reduceEqDiff, Nat.reduceLT, Nat.reduceLeDiff, Nat.reduceAdd, Nat.reduceSub, Nat.reduceMul, Int.reduceNeg, Int.reduceLE, Int.reduceLT, Int.reduceToNat, Int.reduceAdd, Int.reduceSub, Int.reduceMul, Int.reduceEq]
        first | exact ⟨rfl, by unfold cpTo; simp⟩ | (unfold cpTo; simp) | (simp [cpTo])
      · intro i hi
        have hcp := cpTo_length c i hcl hi
        simp only [hcl, hcp, undef, push_cast, ↓Int.toNat_natCast, ↓Int.cast_ofNat_Int, Int.cast_ofNat_Int, ↓reduceIte, reduceCtorEq, Nat.reduceEqDiff, Nat.reduceLT, Nat.reduceLeDiff, Nat.reduceAdd, Nat.reduceSub, Nat.reduceMul, Int.reduceNeg, Int.reduceLE, Int.reduceLT, Int.reduceToNat, Int.reduceAdd, Int.reduceSub, Int.reduceMul, Int.reduceEq]
        split
        · rename_i h
          have h : i < 32 := by simp at h; omega
          (repeat (refine And.intro (by first | omega | decide) ?_))
          refine loopK_normal (i + 1) [0, 1, 2] (by omega) (by omega) ?_
          simp only [push_cast, ↓Int.toNat_natCast, ↓Int.cast_ofNat_Int, Int.cast_ofNat_Int, ↓reduceIte, reduceCtorEq, Nat.reduceEqDiff, Nat.reduceLT, Nat.reduceLeDiff, Nat.reduceAdd, Nat.reduceSub, Nat.reduceMul, Int.reduceNeg, Int.reduceLE, Int.reduceLT, Int.reduceToNat, Int.reduceAdd, Int.reduceSub, Int.reduceMul, Int.reduceEq]
          first | exact cpTo_set c i hcl h | exact ⟨by omega, cpTo_set c i hcl h⟩
        · rename_i h
          have h : i = 32 := by simp at h; omega
          subst h
          rw [cpTo_all c hcl]
end Go.Proofs.YteiifdpikcnbgaaDoor
