import Derived.Test.YtombphphaoeeiaaGreatDoorPre
import Derived.Test.YtombphphaoeeiaaGreatDoorProg
import Derived.Test.YtombphphaoeeiaaGreatDoorBase
import Derived.Test.YtombphphaoeeiaaGreatDoorRf
import Derived.RangeFuncNested
import Derived.RangeFuncBound
import Derived.RangeFuncCalls
import Derived.RangeFuncLeaves
import Derived.OwnWalkIn
import Derived.TacticsInMore
import Derived.LoopNIn
import Derived.LoopIn
import Derived.Shelf.Abstract
/- ShaW: Sha1, Sha2, Rf, Sha3, Sha4, joined. -/
/- The walks of sha.rotr and sha.words. -/
namespace Go.Proofs.YtombphphaoeeiaaGreatDoor
open Go.RowKit
attribute [local go_sem] w32_xor w32_or w32_and w32_andNot w32_add w32_of8 w32_shl8 w32_shr3 w32_shr10

theorem rotl_any (x : UInt32) (n : Nat) (h1 : 1 ≤ n) (h2 : n ≤ 31) (w : World) :
    Calls Tryz.prog 102 #[vU32 x, .int .i64 (-(n : Int))] w fun e w' => e = .returned (vU32 (rr x n)) ∧ w = w' := by
  have hc := count_eq n h1 h2
  obtain ⟨r, hr⟩ : ∃ r, r = 32 - n := ⟨_, rfl⟩
  rw [← hr] at hc
  have HE := Lib.hid (rotl_eq x r (by omega) (by omega))
  have HR := Lib.hid hr
  have a1 : 1 ≤ r := by omega
  have a2 : r ≤ 31 := by omega
  clear hr
  go_enter Tryz.func102, Tryz.ntmps102
  go_wp2
  go_ret
  exact ⟨congrArg (fun z => Ending.returned (.int .u32 z)) (HE.out.trans (by rw [HR.out, show 32 - (32 - n) = n from by omega])), rfl⟩

theorem rotr_any (x : UInt32) (n : Int) (h1 : 1 ≤ n) (h2 : n ≤ 31) (w : World) :
    Calls Tryz.prog 101 #[vU32 x, .int .i64 n] w fun e w' => e = .returned (vU32 (rr x n.toNat)) ∧ w = w' := by
  obtain ⟨m, rfl⟩ := Int.eq_ofNat_of_zero_le (show 0 ≤ n by omega)
  go_enter Tryz.func101, Tryz.ntmps101
  go_wp2_with (go_at_call 102; refine (rotl_any x m (by omega) (by omega) _).mono ?_; rintro e w' ⟨rfl, rfl⟩)
  go_ret
  exact ⟨rfl, rfl⟩

theorem zeroWords (W : World) : (zeroValue 182).run Tryz.prog W = .ok (.agg (z32 64)) W := by kernel_rfl
theorem size64u8 : (Tryz.prog.info? 153).map (·.size) = some 64 := by kernel_rfl
theorem size1u8 : (Tryz.prog.info? 5).map (·.size) = some 1 := by kernel_rfl
theorem size64u32 : (Tryz.prog.info? 182).map (·.size) = some 64 := by kernel_rfl

set_option maxHeartbeats 1000000 in
set_option maxRecDepth 100000 in
theorem words_any (b : List UInt8) (hb : b.length = 64) (w : World) :
    Calls Tryz.prog 100 #[.agg (arr8 b)] w fun e w' => e = .returned (.agg (arr32 (wordsOf b))) ∧ Below w.heap.size w w' := by
  have hz := zeroWords
  have HB := Lib.hid hb
  clear hb
  go_enter Tryz.func100, Tryz.ntmps100
  go_upto_region 2 with (fail)
  apply wp_region_lit
  refine wpList_loadA 153 64 _ Tryz.underlying153 size64u8 rfl _ rfl _ rfl _ (arr8 b) (((Blk.new w _ _).alloc _).alloc _) (by rw [arr8_size, HB.out]) rfl ?_
  go_wp2
  go_loopw [12] (fun c wr => ∃ i : Nat, i ≤ 64 ∧ c = .int .i64 i ∧ Blk wr (w.heap.size + 1 + 1) 182 (arr32 (to1 b i)) ∧ Blk wr (w.heap.size + 1) 182 (z32 64) ∧ Below w.heap.size w wr) (fun c _ => 64 - (intOf c).toNat)
  case atStart =>
    exact ⟨0, by omega, rfl, Blk.new' _ _ _ (by simp), (Blk.new' _ _ _ (by simp)).alloc _, ((((Below.refl _ _).alloc (Nat.le_refl _) _).alloc (by simp) _).alloc (by simp; omega) _)⟩
  case round =>
    obtain ⟨i, hi, rfl, hB, hR, hb⟩ := hrel
    by_cases hlt : i < 64
    · have hc := hB.cell (i / 4)
      rw [arr32_get _ _ (by rw [to1_length]; omega)] at hc
      have hf := hB.frozen (i / 4)
      have hix := run_index_agg (P := Tryz.prog) 153 5 64 _ (arr8 b) .i64 i _ Tryz.underlying153 Tryz.underlying5 rfl hlt (arr8_get b i (by rw [HB.out]; exact hlt)) size1u8
      have hB' := Lib.hid hB
      have hR' := Lib.hid hR
      clear hB hR
      go_wp2
      go_roundw
      case rel =>
        have hn := hB'.out.set_ (i / 4) (vU32 (ix (to1 b i) (i / 4) <<< 8 ||| (ix b i).toUInt32))
        rw [arr32_set] at hn
        exact ⟨i + 1, by omega, by go_num, hn, hR'.out.far (by simp) _, hb.setCell (by simp; omega) _⟩
      case measure => simp [intOf]; omega
    · obtain rfl : i = 64 := by omega
      have hB' := Lib.hid hB
      have hR' := Lib.hid hR
      clear hB hR
      go_wp2
      obtain ⟨wo, rfl⟩ : ∃ wo : World, wo = wr := ⟨_, rfl⟩
      go_loopw [6] (fun c wr => ∃ t : Nat, 16 ≤ t ∧ t ≤ 64 ∧ c = .int .i64 t ∧ Blk wr (w.heap.size + 1 + 1) 182 (arr32 (to2 b (t - 16))) ∧ Blk wr (w.heap.size + 1) 182 (z32 64) ∧ Below w.heap.size w wr) (fun c _ => 64 - (intOf c).toNat)
      case atStart =>
        exact ⟨16, by omega, by omega, rfl, hB'.out, hR'.out, hb⟩
      case round =>
        clear hB' hR' hb
        obtain ⟨t, ht, hi, rfl, hB, hR, hb⟩ := hrel
        by_cases hlt : t < 64
        · have c15 := hB.cell (t - 15)
          have c2 := hB.cell (t - 2)
          have c7 := hB.cell (t - 7)
          have c16 := hB.cell (t - 16)
          have ct := hB.cell t
          rw [arr32_get _ _ (by rw [to2_length]; omega)] at c15 c2 c7 c16 ct
          have hf := hB.frozen t
          have hB' := Lib.hid hB
          have hR' := Lib.hid hR
          clear hB hR
          go_wp2_with fail
          go_quiet (fail)
          go_wp2_with (go_at_call 101; refine (rotr_any _ _ (by omega) (by omega) _).mono ?_; rintro e w' ⟨rfl, rfl⟩)
          have p7 : (7 : Int) ≤ (t : Int) := by omega
          have q7 : (t : Int) - 7 < 64 := by omega
          have q16 : (t : Int) - 16 < 64 := by omega
          have p16 : (16 : Int) ≤ (t : Int) := by omega
          refine wp_region_tail 15 (by kernel_rfl) (by kernel_rfl) (fun w2 hd hs hcc hff => ?_)
          simp only [List.take_succ_cons, List.take_zero, List.drop_succ_cons, List.drop_zero]
          repeat (refine wpStill_step (fun K hK => ?_); go_simp; (try go_bits); refine hK _ ?_; clear hK K)
          refine wpStill_nil ?_
          go_wp2
          go_roundw
          case rel =>
            (repeat apply Exists.intro)
            refine ⟨⟨t + 1, by omega, by omega, by go_num, ?_, ?_, ?_⟩, rfl⟩
            · rw [show t + 1 - 16 = (t - 16) + 1 from by omega]
              have hn := (hd.out.blk hB'.out).set_ t (vU32 (sg1 (ix (to2 b (t - 16)) (t - 2)) + ix (to2 b (t - 16)) (t - 7) + sg0 (ix (to2 b (t - 16)) (t - 15)) + ix (to2 b (t - 16)) (t - 16)))
              rw [arr32_set] at hn
              have ek : to2 b (t - 16 + 1) = (to2 b (t - 16)).set t (sg1 (ix (to2 b (t - 16)) (t - 2)) + ix (to2 b (t - 16)) (t - 7) + sg0 (ix (to2 b (t - 16)) (t - 15)) + ix (to2 b (t - 16)) (t - 16)) := by
                show put2 _ _ = _
                unfold put2
                rw [show t - 16 + 16 = t from by omega]
              rw [ek]
              exact hn
            · exact (hd.out.blk hR'.out).far (by simp) _
            · exact (hd.out.below (Drawn.below ⟨nq, rfl⟩ hb)).setCell (by simp; omega) _
          case measure => simp [intOf]; omega
        · obtain rfl : t = 64 := by omega
          have hB' := Lib.hid hB
          have hR' := Lib.hid hR
          clear hB hR
          go_wp2_with (first
            | (refine wpList_loadA 182 64 _ Tryz.underlying182 size64u32 rfl (.tmp 3) rfl _ rfl _ _ hB'.out (by simp) rfl ?_)
            | (refine wpList_storeA 182 64 size64u32 rfl (.tmp 2) (.tmp 71) rfl _ rfl _ rfl _ _ hR'.out (by simp) (by simp [z32]) (arr32_one _) (fun w3 hw3 hs3 => ?_)))
          have hR3 := hR'.out.setRow hw3.out
          refine bodyPost_ret (results_cell_row rfl _ _ _ _ _ _ _ rfl hR3 Tryz.underlying182 rfl (by rw [arr32_size, to2_length]; exact size64u32)) rfl ?_
          exact ⟨rfl, below_setRow hb hw3.out (by omega)⟩
end Go.Proofs.YtombphphaoeeiaaGreatDoor
/- The walk of sha.more. -/
namespace Go.Proofs.YtombphphaoeeiaaGreatDoor
open Go.RowKit
attribute [local go_sem] w32_xor w32_or w32_and w32_andNot w32_add

theorem zeroState (W : World) : (zeroValue 173).run Tryz.prog W = .ok (.agg (z32 8)) W := by kernel_rfl
theorem size8u32 : (Tryz.prog.info? 173).map (·.size) = some 8 := by kernel_rfl
theorem size1u32 : (Tryz.prog.info? 23).map (·.size) = some 1 := by kernel_rfl

set_option maxHeartbeats 1000000 in
set_option maxRecDepth 100000 in
theorem more_any (s : St) (b : List UInt8) (hb : b.length = 64) (w : World) (hk : LaidK 1 w) :
    Calls Tryz.prog 97 #[.agg (arr32 s.list), .agg (arr8 b)] w fun e w' => e = .returned (.agg (arr32 (moreOf s b).list)) ∧ Below w.heap.size w w' := by
  have hz := zeroWords
  have hz8 := zeroState
  have HB := Lib.hid hb
  have HK := Lib.hid hk
  clear hb hk
  go_enter Tryz.func97, Tryz.ntmps97
  go_upto_region 1 with (fail)
  obtain ⟨W1, hW1⟩ : ∃ W1 : World, (((w.alloc (.cells (arr32 s.list) 173)).alloc (.cells (arr8 b) 153)).alloc (.cells (z32 8) 173)) = W1 := ⟨_, rfl⟩
  have hB1 : Below w.heap.size w W1 := by subst hW1; exact (((Below.refl _ _).alloc (Nat.le_refl _) _).alloc (by simp) _).alloc (by simp; omega) _
  have hs1 : Hid (W1.heap.size = w.heap.size + 1 + 1 + 1) := by subst hW1; exact Lib.hid (by simp)
  have b1 : Blk W1 w.heap.size 173 (arr32 s.list) := by subst hW1; exact (((Blk.new _ _ _).alloc _).alloc _)
  have b2 : Blk W1 (w.heap.size + 1) 153 (arr8 b) := by subst hW1; exact ((Blk.new' _ _ _ (by simp)).alloc _)
  have b3 : Blk W1 (w.heap.size + 1 + 1) 173 (z32 8) := by subst hW1; exact (Blk.new' _ _ _ (by simp))
  rw [hW1]
  clear hW1
  have H1 := Lib.hid b1
  have H2 := Lib.hid b2
  have H3 := Lib.hid b3
  clear b1 b2 b3
  apply wp_region_lit
  refine wpList_loadA 153 64 _ Tryz.underlying153 size64u8 rfl _ rfl _ rfl _ (arr8 b) H2.out (by rw [arr8_size, HB.out]) rfl ?_
  go_wp2_with fail
  refine (words_any b HB.out _).mono ?_
  rintro e W2 ⟨rfl, hb2⟩
  have hs2 := hb2.size
  have hb2' := Lib.hid hb2
  clear hb2
  go_wp2_with (refine wpList_storeA 182 64 size64u32 rfl (.tmp 5) (.tmp 24) rfl _ rfl _ rfl _ (z32 64) (Blk.new' _ _ _ rfl) (by simp [wordsOf]) (by simp [z32]) (arr32_one _) (fun W3 hw3 hs3 => ?_))
  have HS3 := Lib.hid hs3
  clear hs3
  have hs1' := hs1.out
  have a1 := (((H1.out.below hb2'.out (by omega)).alloc (.cells (z32 64) 182)).setRow_far hw3.out (by omega))
  have a3 := (((H3.out.below hb2'.out (by omega)).alloc (.cells (z32 64) 182)).setRow_far hw3.out (by omega))
  have aw := (Blk.new W2 182 (z32 64)).setRow hw3.out
  have hB3 : Below w.heap.size w W3 := below_setRow ((hB1.trans (hb2'.out.mono (by omega))).alloc (by omega) _) hw3.out (by omega)
  have hK3 := HK.out.below hB3 HK.out.lt
  have hge : w.heap.size + 1 + 1 + 1 ≤ W2.heap.size := by omega
  clear hs1' hs1
  obtain ⟨Bw, hBw⟩ : ∃ Bw, Bw = W2.heap.size := ⟨_, rfl⟩
  rw [← hBw] at aw hge
  have c0 : W3.cell? ⟨w.heap.size, 0, none⟩ = some (vU32 s.a) := a1.cell 0
  have c1 : W3.cell? ⟨w.heap.size, 1, none⟩ = some (vU32 s.b) := a1.cell 1
  have c2 : W3.cell? ⟨w.heap.size, 2, none⟩ = some (vU32 s.c) := a1.cell 2
  have c3 : W3.cell? ⟨w.heap.size, 3, none⟩ = some (vU32 s.d) := a1.cell 3
  have c4 : W3.cell? ⟨w.heap.size, 4, none⟩ = some (vU32 s.e) := a1.cell 4
  have c5 : W3.cell? ⟨w.heap.size, 5, none⟩ = some (vU32 s.f) := a1.cell 5
  have c6 : W3.cell? ⟨w.heap.size, 6, none⟩ = some (vU32 s.g) := a1.cell 6
  have c7 : W3.cell? ⟨w.heap.size, 7, none⟩ = some (vU32 s.h) := a1.cell 7
  rw [← hBw]
  have HBw := Lib.hid hBw
  clear hBw hw3 HS3
  have A1 := Lib.hid a1
  have A3 := Lib.hid a3
  have AW := Lib.hid aw
  have HK3 := Lib.hid hK3
  clear a1 a3 aw hK3 hb2' hs2 H1 H2 H3 HK
  go_wp2_with fail
  go_quiet (fail)
  go_wp2_with fail
  go_quiet (fail)
  go_wp2_with fail
  clear c0 c1 c2 c3 c4 c5 c6 c7
  go_loopw [6, 7, 8, 9, 10, 11, 12, 13, 41] (fun xa xb xc xd xe xf xg xh c wr => ∃ t : Nat, t ≤ 64 ∧ c = .int .i64 t ∧ xa = vU32 (rnds s (wordsOf b) t).a ∧ xb = vU32 (rnds s (wordsOf b) t).b ∧ xc = vU32 (rnds s (wordsOf b) t).c ∧ xd = vU32 (rnds s (wordsOf b) t).d ∧ xe = vU32 (rnds s (wordsOf b) t).e ∧ xf = vU32 (rnds s (wordsOf b) t).f ∧ xg = vU32 (rnds s (wordsOf b) t).g ∧ xh = vU32 (rnds s (wordsOf b) t).h ∧ Drawn W3 wr)
    (fun _ _ _ _ _ _ _ _ c _ => 64 - (intOf c).toNat)
  case atStart =>
    exact ⟨0, by omega, rfl, rfl, rfl, rfl, rfl, rfl, rfl, rfl, rfl, Drawn.trans ⟨_, rfl⟩ ⟨_, rfl⟩⟩
  case round =>
    obtain ⟨t, ht, rfl, rfl, rfl, rfl, rfl, rfl, rfl, rfl, rfl, hd⟩ := hrel
    by_cases hlt : t < 64
    · have hrn : Hid (rnds s (wordsOf b) (t + 1) = rnd (rnds s (wordsOf b) t) (ix kt t) (ix (wordsOf b) t)) := Lib.hid rfl
      generalize rnds s (wordsOf b) t = r at hrn ⊢
      have ck := HK3.out t hlt
      have cw := AW.out.cell t
      rw [arr32_get _ _ (by simp [wordsOf]; omega)] at cw
      have ck' : wr.cell? ⟨1, t, none⟩ = some (vU32 (ix kt t)) := by obtain ⟨n, rfl⟩ := hd; exact ck
      have cw' : wr.cell? ⟨Bw, t, none⟩ = some (vU32 (ix (wordsOf b) t)) := by obtain ⟨n, rfl⟩ := hd; exact cw
      clear ck cw
      generalize ix kt t = kk at hrn ck' ⊢
      generalize ix (wordsOf b) t = ww at hrn cw' ⊢
      have hd' := Lib.hid hd
      clear hd
      go_wp2_with (go_at_call 101; refine (rotr_any _ _ (by omega) (by omega) _).mono ?_; rintro e w' ⟨rfl, rfl⟩)
      go_quiet (fail)
      go_wp2_with (go_at_call 101; refine (rotr_any _ _ (by omega) (by omega) _).mono ?_; rintro e w' ⟨rfl, rfl⟩)
      go_roundw
      case rel => exact ⟨t + 1, by omega, by go_num, by rw [hrn.out]; rfl, by rw [hrn.out]; rfl, by rw [hrn.out]; rfl, by rw [hrn.out]; rfl, by rw [hrn.out]; rfl, by rw [hrn.out]; rfl, by rw [hrn.out]; rfl, by rw [hrn.out]; rfl, hd'.out.trans ⟨_, rfl⟩⟩
      case measure => simp [intOf]; omega
    · obtain rfl : t = 64 := by omega
      have B1 := Lib.hid (hd.blk A1.out)
      have B3 := Lib.hid (hd.blk A3.out)
      have hB4 := hd.below hB3
      clear hd hB3 hlt
      have hfin : Hid (moreOf s b = s.add (rnds s (wordsOf b) 64)) := Lib.hid rfl
      generalize rnds s (wordsOf b) 64 = r at hfin ⊢
      obtain ⟨wo, hwo⟩ : ∃ wo : World, wo = wr := ⟨_, rfl⟩
      rw [← hwo] at B1 B3 hB4 ⊢
      clear hwo
      have hix : ∀ i : Nat, i < 8 → ∀ W, (Instr.index 173 (.agg #[vU32 r.a, vU32 r.b, vU32 r.c, vU32 r.d, vU32 r.e, vU32 r.f, vU32 r.g, vU32 r.h]) (.int .i64 i)).run Tryz.prog W = .ok (vU32 (ix r.list i)) W := fun i hi =>
        run_index_agg (P := Tryz.prog) 173 23 8 _ (arr32 r.list) .i64 i _ Tryz.underlying173 Tryz.underlying23 rfl hi (arr32_get r.list i (by simpa using hi)) size1u32
      have HIX := Lib.hid hix
      clear hix hz hz8
      go_wp2
      go_loopw [116] (fun c wr => ∃ i : Nat, i ≤ 8 ∧ c = .int .i64 i ∧ Blk wr w.heap.size 173 (arr32 (addTo s.list r.list i)) ∧ Blk wr (w.heap.size + 1 + 1) 173 (z32 8) ∧ Below w.heap.size w wr) (fun c _ => 8 - (intOf c).toNat)
      case atStart => exact ⟨0, by omega, rfl, B1.out, B3.out, hB4⟩
      case round =>
        clear B1 B3 hB4
        obtain ⟨i, hi, rfl, B1, B3, hB4⟩ := hrel
        by_cases hlt : i < 8
        · have hx := HIX.out i hlt
          have c1 := B1.cell i
          rw [arr32_get _ _ (by simpa using hlt)] at c1
          have hf := B1.frozen i
          have H1 := Lib.hid B1
          have H3 := Lib.hid B3
          clear B1 B3
          go_wp2
          go_roundw
          case rel => exact ⟨i + 1, by omega, by go_num, by have := H1.out.set_ i (vU32 (ix (addTo s.list r.list i) i + ix r.list i)); rw [arr32_set] at this; exact this, H3.out.far (by show _ ≠ w.heap.size; omega) _, hB4.setCell (Nat.le_refl _) _⟩
          case measure => simp [intOf]; omega
        · obtain rfl : i = 8 := by omega
          rw [addTo_all] at B1
          have H1 := Lib.hid B1
          have H3 := Lib.hid B3
          clear B1 B3
          go_wp2_with (first
            | (refine wpList_loadA 173 8 _ Tryz.underlying173 size8u32 rfl (.tmp 2) rfl _ rfl _ _ H1.out (by simp) rfl ?_)
            | (refine wpList_storeA 173 8 size8u32 rfl (.tmp 4) (.tmp 127) rfl _ rfl _ rfl _ _ H3.out (by simp) (by simp [z32]) (arr32_one _) (fun w3 hw3 hs3 => ?_)))
          have hR3 := H3.out.setRow hw3.out
          refine bodyPost_ret (results_cell_row rfl _ _ _ _ _ _ _ rfl hR3 Tryz.underlying173 rfl (by rw [arr32_size]; exact size8u32)) rfl ?_
          exact ⟨by rw [hfin.out], below_setRow hB4 hw3.out (by omega)⟩
end Go.Proofs.YtombphphaoeeiaaGreatDoor
/- The walk of sha.blocks and of the iterator that it makes. -/
namespace Go.Proofs.YtombphphaoeeiaaGreatDoor
open Go.RowKit
attribute [local go_sem] Oper.semAt_some w64_self

/-- sha.blocks boxes its bytes and hands back a closure over the box. -/
theorem blocks_any (A : Option Addr) (len cap : Nat) (w : World) :
    Calls Tryz.prog 96 #[.slice A len cap] w fun e w' => e = .returned (.func (.func 99) #[] #[.pointer (some ⟨w.heap.size, 0, none⟩)]) ∧ w.alloc (.cells #[.slice A len cap] 131) = w' := by
  go_enter Tryz.func96, Tryz.ntmps96
  go_wp2
  go_ret
  exact ⟨rfl, rfl⟩

theorem zero64u8 (W : World) : (zeroValue 153).run Tryz.prog W = .ok (.agg (z8 64)) W := by kernel_rfl

set_option maxHeartbeats 1000000 in
set_option maxRecDepth 100000 in
theorem iter_any (n : Nat) (w0 : World) (bs : List UInt8) (A : Option Addr) (c Bn n0 : Nat) (hm : bs.length ≤ 140737488355328) (hc : bs.length ≤ c) (hBn : Bn < w0.heap.size) (hn0 : n0 ≤ w0.heap.size)
    (hcell : w0.cell? ⟨Bn, 0, none⟩ = some (.slice A bs.length c)) (hR0 : RdV w0 n0 A (bs.map vU8)) :
    SeqAll n Tryz.prog 99 #[.pointer (some ⟨Bn, 0, none⟩)] enc64 (chunks bs) w0 (fun k => k < n0 ∨ k = Bn) := by
  intro l own J W hW hown hJ hY hJ0
  have hcW : W.cell? ⟨Bn, 0, none⟩ = some (.slice A bs.length c) := (hW.cell (p := ⟨Bn, 0, none⟩) hBn).trans hcell
  have hRW : RdV W n0 A (bs.map vU8) := (hR0.more hn0).below hW |>.keep (fun _ _ => rfl) |> fun _ => hR0.keep fun b hb => hW.block b (by omega)
  have hsW : w0.heap.size ≤ W.heap.size := hW.size
  have HBn : ¬ own Bn := fun h => (hown Bn h).2 (Or.inr rfl)
  have Hn0 : ∀ k, k < n0 → ¬ own k := fun k hk h => (hown k h).2 (Or.inl hk)
  have Hown := Lib.hid (fun k (h : own k) => (hown k h).1)
  have HJ0 := Lib.hid hJ0
  have HJ := Lib.hid hJ
  have HY := Lib.hid hY
  clear hJ0 hJ hY hown hcell hR0
  refine callsIn_of_wp Tryz.func99 rfl trivial ?_ rfl
  simp only [Tryz.ntmps99, List.size_toArray, List.length_cons, List.length_nil, Nat.reduceAdd, Nat.reduceSub, Array.replicate_succ, Array.replicate_zero, List.push_toArray, List.append_toArray, List.nil_append, List.cons_append]
  gi_wp2
  gi_loopw [3] (fun p wr => ∃ (k : Nat) (A' : Option Addr) (c' : Nat), 64 * k ≤ bs.length ∧ bs.length - 64 * k ≤ c' ∧ p = .slice A' (bs.length - 64 * k) c' ∧ RdV wr n0 A' ((bs.drop (64 * k)).map vU8) ∧ J k wr ∧ Keeps own W wr) (fun p _ => match p with | .slice _ m _ => m | _ => 0)
  case atStart => exact ⟨0, A, c, by omega, by omega, rfl, by simpa using hRW, HJ0.out, Keeps.refl _ _⟩
  case round =>
    obtain ⟨k, A', c', hk, hkc, rfl, hR, hJk, hKk⟩ := hrel
    have hcl : wr.cell? ⟨Bn, 0, none⟩ = some (.slice A bs.length c) := (World.cell?_of_block (hKk.block Bn (by omega) HBn)).trans hcW
    by_cases hlt : 64 ≤ bs.length - 64 * k
    · obtain ⟨b, off, rfl, hb, hcs⟩ := hR (by simp; omega)
      have h64 : (64 : Int) ≤ c' := by omega
      have hlen : ((bs.drop (64 * k)).take 64).length = 64 := by simp; omega
      have hload : (loadVar 153 ⟨b, off, none⟩).run Tryz.prog wr = .ok (.agg (arr8 ((bs.drop (64 * k)).take 64))) wr := by
        have := run_loadArr (P := Tryz.prog) (w := wr) 153 ⟨b, off, none⟩ (((bs.drop (64 * k)).take 64).map vU8) _ Tryz.underlying153 rfl (by rw [List.length_map, hlen]; exact size64u8)
          (fun j v hv => by
            rw [add_plain]
            apply hcs
            rw [List.map_take, List.getElem?_take] at hv
            split at hv
            · exact hv
            · cases hv)
        exact this
      have hx := chunks_full bs k (by omega)
      obtain ⟨fn, tmps, assign, body, hy, hr⟩ := HY.out k _ wr hx hJk hKk.size
      have he : enc64 (b64 ((bs.drop (64 * k)).take 64)) = #[.agg (arr8 ((bs.drop (64 * k)).take 64))] := by unfold enc64; rw [b64_val hlen]
      rw [he] at hy
      have hap := fun W' : World => run_arrayAt (P := Tryz.prog) (w := W') 153 5 64 (some ⟨b, off, none⟩) 64 c' Tryz.underlying153 (by omega)
      have HL := Lib.hid hload
      have HCS := Lib.hid hcs
      have HJk := Lib.hid hJk
      clear hload hcs hJk he hx
      gi_wp2_with (refine wpListIn_run (fun _ => trivial) rfl (by intro c h; cases h) (exec_load 153 (.tmp 15) rfl _ rfl _ HL.out) ?_)
      refine ⟨fun h => by simp [Fence.wide] at h, hr.mono ?_⟩
      rintro e W' ⟨rfl, hJ1, hK1⟩
      have HJ1 := Lib.hid hJ1
      have HK1 := Lib.hid hK1
      clear hJ1 hK1 hcl hy hr
      have hcl : W'.cell? ⟨Bn, 0, none⟩ = some (.slice A bs.length c) := (World.cell?_of_block (HK1.out.block Bn (by have := hKk.size; omega) HBn)).trans ((World.cell?_of_block (hKk.block Bn (by omega) HBn)).trans hcW)
      gi_wp2
      go_roundw
      case rel =>
        refine ⟨k + 1, if c' = 64 then some ⟨b, off, none⟩ else some ⟨b, off + 64, none⟩, c' - 64, by omega, by omega, ?_, ?_, HJ1.out, hKk.trans HK1.out⟩
        · rw [show bs.length - 64 * k - 64 = bs.length - 64 * (k + 1) from by omega]
        · intro hp
          have hne : c' ≠ 64 := by simp at hp; omega
          rw [if_neg hne]
          refine ⟨b, off + 64, rfl, hb, fun j u hu => ?_⟩
          rw [show off + 64 + j = off + (64 + j) from by omega]
          refine (World.cell?_of_block (HK1.out.block b ?_ (Hn0 b hb))).trans (HCS.out (64 + j) u ?_)
          · have := hKk.size; omega
          · rw [← hu]
            simp only [List.getElem?_map, List.getElem?_drop]
            rw [show 64 * k + (64 + j) = 64 * (k + 1) + j from by omega]
      case measure => simp; omega
    · have hz := zero64u8
      have hRV := Lib.hid hR
      have HJk := Lib.hid hJk
      have HKk := Lib.hid hKk
      have hsk := hKk.size
      clear hR hJk hKk
      obtain ⟨r, hr⟩ : ∃ r, r = bs.drop (64 * k) := ⟨_, rfl⟩
      have HR := Lib.hid hr
      have hrl : r.length = bs.length - 64 * k := by rw [hr]; simp
      have hrq : Hid (k = bs.length / 64) := Lib.hid (by omega)
      have htl := Lib.hid (chunks_tail bs k)
      rw [← hr] at hRV htl
      have hrl' := Lib.hid hrl
      clear hr
      obtain ⟨m, hm1⟩ : ∃ m, m = bs.length - 64 * k := ⟨_, rfl⟩
      rw [← hm1] at hrl' hrl hkc hlt ⊢
      have hml : m < 64 := by omega
      have hcW2 : Hid ((wr.alloc (.cells (z8 64) 153)).cell? ⟨Bn, 0, none⟩ = some (.slice A bs.length c)) := Lib.hid ((World.cell?_alloc_lt _ _ ⟨Bn, 0, none⟩ (by show Bn < _; omega)).trans hcl)
      have hb2 : Hid (Blk (wr.alloc (.cells (z8 64) 153)) wr.heap.size 153 (z8 64)) := Lib.hid (Blk.new _ _ _)
      have hk2 : Hid (Keeps own wr (wr.alloc (.cells (z8 64) 153))) := Lib.hid (Keeps.of_below ((Below.refl _ _).alloc (Nat.le_refl _) _))
      have hR2 : Hid (RdV (wr.alloc (.cells (z8 64) 153)) n0 A' (r.map vU8)) := Lib.hid (hRV.out.keep fun b hb => Below.heap_alloc wr _ b (by omega))
      have hs2 : Hid ((wr.alloc (.cells (z8 64) 153)).heap.size = wr.heap.size + 1) := Lib.hid (by simp)
      obtain ⟨Bk, hBk⟩ : ∃ Bk, Bk = wr.heap.size := ⟨_, rfl⟩
      have hBk' := Lib.hid hBk
      clear hm1 hrl hcl
      obtain ⟨W3, hcopy, hb3, hk3⟩ := run_copyR (P := Tryz.prog) (wr.alloc (.cells (z8 64) 153)) 131 131 5 wr.heap.size 0 64 64 A' m c' n0 ((List.replicate 64 (0 : UInt8)).map vU8) 153 (r.map vU8)
        Tryz.underlying131 size1u8 hb2.out (by rw [List.length_map, hrl'.out]; simp only [Nat.min_def]; rw [if_pos (by omega)]) hR2.out (by rw [List.length_map, List.length_map, hrl'.out]; simp; omega) (oneCell_u8 r)
      have hb3' : Blk W3 wr.heap.size 153 (arr8 (r ++ List.replicate (64 - m) 0)) := by
        have e := splice_zeros r m 64 hrl'.out
        rw [e] at hb3
        exact hb3
      clear hb3 hR2 hb2 hRV
      rw [List.length_map, hrl'.out] at hcopy
      have hs3 := hk3.size
      rw [hs2.out] at hs3
      have hc3 : W3.cell? ⟨wr.heap.size, m, none⟩ = some (vU8 (ix (r ++ List.replicate (64 - m) 0) m)) := (hb3'.cell m).trans (arr8_get _ _ (by simp [hrl'.out]; omega))
      have hf3 := hb3'.frozen m
      have HC := Lib.hid hcopy
      have HB3 := Lib.hid hb3'
      have HK3 := Lib.hid hk3
      clear hcopy hb3' hk3
      -- the block, a byte 128 behind what is left
      have hb4 : Hid (Blk (W3.setCell ⟨wr.heap.size, m, none⟩ (.int .u8 128)) wr.heap.size 153 (arr8 (pad64 r))) := by
        have := HB3.out.set_ m (vU8 128)
        rw [arr8_set] at this
        have e : pad64 r = (r ++ List.replicate (64 - m) 0).set m 128 := by unfold pad64; rw [hrl'.out]
        rw [e]
        exact Lib.hid this
      have hs4 : (W3.setCell ⟨wr.heap.size, m, none⟩ (.int .u8 128)).heap.size = W3.heap.size := by simp [World.setCell]
      have hk4 : Hid (Keeps (fun k => own k ∨ W.heap.size ≤ k) W (W3.setCell ⟨wr.heap.size, m, none⟩ (.int .u8 128))) := Lib.hid (((HKk.out.trans hk2.out).mono (fun _ h => Or.inl h)).trans ((HK3.out.mono (fun k h => Or.inr (by omega))).trans (Keeps.setCell _ _ _ (Or.inr hsk))))
      have hJ4 : Hid (J k (W3.setCell ⟨wr.heap.size, m, none⟩ (.int .u8 128))) := Lib.hid (HJ.out k wr _ HJk.out hsk (by
        have h1 : Keeps (fun k => W.heap.size ≤ k) wr (W3.setCell ⟨wr.heap.size, m, none⟩ (.int .u8 128)) := ((Keeps.of_below ((Below.refl _ _).alloc (Nat.le_refl _) _)).trans (HK3.out.mono (fun k h => by omega))).trans (Keeps.setCell _ _ _ hsk)
        exact h1.below hsk (fun k h => h)))
      clear hk2 hcW2
      have hmany : ((bs.length : Int) * 8) = n64 (bitsOf bs) := count_bits _ hm
      have hpl : (pad64 r).length = 64 := pad64_length (by rw [hrl'.out]; exact hml)
      have HPL := Lib.hid hpl
      have hcx4 : (W3.setCell ⟨wr.heap.size, m, none⟩ (.int .u8 128)).cell? ⟨Bn, 0, none⟩ = some (.slice A bs.length c) :=
        (World.cell?_of_block (hk4.out.block Bn (by omega) (fun h => h.elim HBn (fun h => by omega)))).trans hcW
      have hsx4 : W.heap.size ≤ (W3.setCell ⟨wr.heap.size, m, none⟩ (.int .u8 128)).heap.size := by rw [hs4]; omega
      have hlt4 : wr.heap.size < (W3.setCell ⟨wr.heap.size, m, none⟩ (.int .u8 128)).heap.size := by rw [hs4]; omega
      have HS4 := Lib.hid hs4
      clear hpl hs4
      by_cases h56 : 56 < m + 1
      · have HL4 := hb4.out.load (P := Tryz.prog) 153 64 _ Tryz.underlying153 size64u8 (by rw [arr8_size, HPL.out]) rfl
        have hx0 := htl.out 0 hrq.out
        have hx1 := htl.out 1 hrq.out
        rw [tails_big r _ (by rw [hrl'.out]; exact h56)] at hx0 hx1
        have hend : Hid ((chunks bs).length = k + 1 + 1) := by
          have := chunks_length bs
          rw [← hrq.out, ← HR.out, tails_big r _ (by rw [hrl'.out]; exact h56)] at this
          exact Lib.hid this
        obtain ⟨fn, tmps, assign, body, hy, hr⟩ := HY.out k _ _ hx0 hJ4.out hsx4
        have he : enc64 (b64 (pad64 r)) = #[.agg (arr8 (pad64 r))] := by unfold enc64; rw [b64_val HPL.out]
        rw [he] at hy
        have HLX := Lib.hid HL4
        have htx : Hid ((chunks bs)[k + 1]? = some (b64 (setLen (zb 64) (bitsOf bs) 8))) := Lib.hid hx1
        clear HL4 he hx0 hx1
        gi_wp2_with (first
          | (refine wpListIn_run (fun _ => trivial) rfl (by intro c h; cases h) (exec_copy (.tmp 21) (.tmp 22) 131 131 rfl _ _ rfl rfl _ _ (HC.out _)) ?_)
          | (refine wpListIn_run (fun _ => trivial) rfl (by intro c h; cases h) (exec_load 153 (.tmp 4) rfl _ rfl _ HLX.out) ?_))
        refine ⟨fun h => by simp [Fence.wide] at h, hr.mono ?_⟩
        rintro e W5 ⟨rfl, hJ5, hk5⟩
        have HJ5 := Lib.hid hJ5
        have HK5 := Lib.hid hk5
        clear hJ5 hk5 hy hr
        have hb5 : Hid (Blk W5 wr.heap.size 153 (arr8 (pad64 r))) := Lib.hid ((HK5.out.blk hb4.out) (fun h => by have := Hown.out _ h; omega))
        have hk5 : Hid (Keeps (fun k => own k ∨ W.heap.size ≤ k) W W5) := Lib.hid (hk4.out.trans (HK5.out.mono (fun _ h => Or.inl h)))
        have hs5 := HK5.out.size
        have hlt5 : wr.heap.size < W5.heap.size := by omega
        obtain ⟨wx, hwx⟩ : ∃ wx, wx = W5.setRow wr.heap.size (z8 64) := ⟨_, rfl⟩
        have hbx : Hid (Blk wx wr.heap.size 153 (arr8 (zb 64))) := Lib.hid (hb5.out.setRow hwx)
        have hkx : Hid (Keeps (fun k => own k ∨ W.heap.size ≤ k) W wx) := Lib.hid (hk5.out.trans (by rw [hwx]; exact Keeps.setRow _ (Or.inr hsk)))
        have hJx : Hid (J (k + 1) wx) := Lib.hid (HJ.out _ W5 _ HJ5.out (by omega) (by rw [hwx]; exact (Keeps.setRow (own := fun k => W.heap.size ≤ k) W5 hsk).below (by omega) (fun k h => h)))
        have hcx : wx.cell? ⟨Bn, 0, none⟩ = some (.slice A bs.length c) :=
          (World.cell?_of_block (hkx.out.block Bn (by omega) (fun h => h.elim HBn (fun h => by omega)))).trans hcW
        have hsx : W.heap.size ≤ wx.heap.size := hkx.out.size
        have hltx : wr.heap.size < wx.heap.size := by rw [hwx]; simpa using hlt5
        have HWX := Lib.hid hwx
        clear hwx hcx4 hc3 hf3
        gi_wp2_with (refine wpListIn_runSkip (fun _ => trivial) rfl (by intro c h; cases h) (exec_storeA 153 64 size64u8 (.tmp 4) (.tmp 33) rfl _ rfl (z8 64) rfl _ _ hb5.out (by simp [z8]) (by rw [arr8_size, HPL.out]) (arr8_one _)) ?_; rw [← HWX.out])
        clear HC HB3 HK3 hs3 hmany
        gi_loopw [38] (fun c wy => ∃ i : Nat, i ≤ 8 ∧ c = .int .i64 i ∧ Blk wy wr.heap.size 153 (arr8 (setLen (zb 64) (bitsOf bs) i)) ∧ Keeps (· = wr.heap.size) wx wy) (fun c _ => 8 - (intOf c).toNat)
        case atStart => exact ⟨0, by omega, rfl, hbx.out, Keeps.refl _ _⟩
        case round =>
          obtain ⟨i, hi, rfl, hbi, hki⟩ := hrel
          have hsl : (setLen (zb 64) (bitsOf bs) i).length = 64 := by rw [setLen_length]; exact (by simp)
          by_cases hlt8 : i < 8
          · have hci := hbi.cell (63 - i)
            rw [arr8_get _ _ (by rw [hsl]; omega)] at hci
            have hfi := hbi.frozen (63 - i)
            have hby := byte_of (bitsOf bs) i hlt8
            have HBI := Lib.hid hbi
            have HKI := Lib.hid hki
            have HSL := Lib.hid hsl
            clear hbi hki hsl
            gi_wp2
            go_roundw
            case rel =>
              have hn := HBI.out.set_ (63 - i) (vU8 (shB (bitsOf bs) i))
              rw [arr8_set] at hn
              exact ⟨i + 1, by omega, by go_num, hn, HKI.out.trans (Keeps.setCell _ _ _ rfl)⟩
            case measure => simp [intOf]; omega
          · obtain rfl : i = 8 := by omega
            rename World => wy
            have HL9 := Lib.hid (hbi.load (P := Tryz.prog) 153 64 _ Tryz.underlying153 size64u8 (by rw [arr8_size, hsl]) rfl)
            have hJ9 : J (k + 1) wy := HJ.out _ wx _ hJx.out hsx (hki.below (by omega) (fun k h => by omega))
            obtain ⟨fn9, tmps9, assign9, body9, hy9, hr9⟩ := HY.out (k + 1) _ _ htx.out hJ9 (by have := hki.size; omega)
            have he : enc64 (b64 (setLen (zb 64) (bitsOf bs) 8)) = #[.agg (arr8 (setLen (zb 64) (bitsOf bs) 8))] := by unfold enc64; rw [b64_val hsl]
            rw [he] at hy9
            clear he hbi hki hsl hJ9
            gi_wp2_with (refine wpListIn_run (fun _ => trivial) rfl (by intro c h; cases h) (exec_load 153 (.tmp 4) rfl _ rfl _ HL9.out) ?_)
            refine ⟨fun h => by simp [Fence.wide] at h, hr9.mono ?_⟩
            rintro e W9 ⟨rfl, hJ9, hk9⟩
            have HJ9 := Lib.hid hJ9
            clear hJ9 hk9 hy9 hr9
            gi_wp2
            go_end0
            exact ⟨⟨_, rfl⟩, by rw [hend.out]; exact HJ9.out⟩
      · have hx0 := htl.out 0 hrq.out
        rw [tails_small r _ (by rw [hrl'.out]; exact h56)] at hx0
        have hend : Hid ((chunks bs).length = k + 1) := by
          have := chunks_length bs
          rw [← hrq.out, ← HR.out, tails_small r _ (by rw [hrl'.out]; exact h56)] at this
          exact Lib.hid this
        have htx : Hid ((chunks bs)[k]? = some (b64 (setLen (pad64 r) (bitsOf bs) 8))) := Lib.hid hx0
        clear hx0
        gi_wp2_with (refine wpListIn_run (fun _ => trivial) rfl (by intro c h; cases h) (exec_copy (.tmp 21) (.tmp 22) 131 131 rfl _ _ rfl rfl _ _ (HC.out _)) ?_)
        obtain ⟨wx, hwx⟩ : ∃ wx, W3.setCell ⟨wr.heap.size, m, none⟩ (.int .u8 128) = wx := ⟨_, rfl⟩
        rw [hwx] at hcx4 hsx4 hlt4 hb4 hk4 hJ4 ⊢
        clear hwx hc3 hf3
        have hbx := hb4
        have hkx := hk4
        have hJx := hJ4
        have hsx := hsx4
        have hltx := hlt4
        clear hb4 hk4 hJ4
        clear HC HB3 HK3 hs3 hmany
        gi_loopw [38] (fun c wy => ∃ i : Nat, i ≤ 8 ∧ c = .int .i64 i ∧ Blk wy wr.heap.size 153 (arr8 (setLen (pad64 r) (bitsOf bs) i)) ∧ Keeps (· = wr.heap.size) wx wy) (fun c _ => 8 - (intOf c).toNat)
        case atStart => exact ⟨0, by omega, rfl, hbx.out, Keeps.refl _ _⟩
        case round =>
          obtain ⟨i, hi, rfl, hbi, hki⟩ := hrel
          have hsl : (setLen (pad64 r) (bitsOf bs) i).length = 64 := by rw [setLen_length]; exact HPL.out
          by_cases hlt8 : i < 8
          · have hci := hbi.cell (63 - i)
            rw [arr8_get _ _ (by rw [hsl]; omega)] at hci
            have hfi := hbi.frozen (63 - i)
            have hby := byte_of (bitsOf bs) i hlt8
            have HBI := Lib.hid hbi
            have HKI := Lib.hid hki
            have HSL := Lib.hid hsl
            clear hbi hki hsl
            gi_wp2
            go_roundw
            case rel =>
              have hn := HBI.out.set_ (63 - i) (vU8 (shB (bitsOf bs) i))
              rw [arr8_set] at hn
              exact ⟨i + 1, by omega, by go_num, hn, HKI.out.trans (Keeps.setCell _ _ _ rfl)⟩
            case measure => simp [intOf]; omega
          · obtain rfl : i = 8 := by omega
            rename World => wy
            have HL9 := Lib.hid (hbi.load (P := Tryz.prog) 153 64 _ Tryz.underlying153 size64u8 (by rw [arr8_size, hsl]) rfl)
            have hJ9 : J (k) wy := HJ.out _ wx _ hJx.out hsx (hki.below (by omega) (fun k h => by omega))
            obtain ⟨fn9, tmps9, assign9, body9, hy9, hr9⟩ := HY.out (k) _ _ htx.out hJ9 (by have := hki.size; omega)
            have he : enc64 (b64 (setLen (pad64 r) (bitsOf bs) 8)) = #[.agg (arr8 (setLen (pad64 r) (bitsOf bs) 8))] := by unfold enc64; rw [b64_val hsl]
            rw [he] at hy9
            clear he hbi hki hsl hJ9
            gi_wp2_with (refine wpListIn_run (fun _ => trivial) rfl (by intro c h; cases h) (exec_load 153 (.tmp 4) rfl _ rfl _ HL9.out) ?_)
            refine ⟨fun h => by simp [Fence.wide] at h, hr9.mono ?_⟩
            rintro e W9 ⟨rfl, hJ9, hk9⟩
            have HJ9 := Lib.hid hJ9
            clear hJ9 hk9 hy9 hr9
            gi_wp2
            go_end0
            exact ⟨⟨_, rfl⟩, by rw [hend.out]; exact HJ9.out⟩
end Go.Proofs.YtombphphaoeeiaaGreatDoor
/- The walk of sha.Of. -/
namespace Go.Proofs.YtombphphaoeeiaaGreatDoor
open Go.RowKit Go.Shelf
attribute [local go_sem] Oper.semAt_some
attribute [local irreducible] stateTo outTo shaOf chunks outByte

theorem zero32u8 (W : World) : (zeroValue 102).run Tryz.prog W = .ok (.agg (z8 32)) W := by kernel_rfl
theorem size32u8 : (Tryz.prog.info? 102).map (·.size) = some 32 := by kernel_rfl

set_option maxHeartbeats 1000000 in
set_option maxRecDepth 100000 in
theorem of_any (bs : List UInt8) (A : Option Addr) (c : Nat) (w : World) (hR : RdV w w.heap.size A (bs.map vU8)) (hm : bs.length ≤ 140737488355328) (hc : bs.length ≤ c) (hk : LaidK 1 w) :
    Calls Tryz.prog 90 #[.slice A bs.length c] w fun e w' => e = .returned (.agg (arr8 (shaOf bs))) ∧ Below w.heap.size w w' := by
  refine callsIn_wide (n := 5) |>.1 ?_
  refine callsIn_of_wp_marks Tryz.func90 rfl trivial ?_ rfl
  have hz := zero32u8
  have HR := Lib.hid hR
  have HK := Lib.hid hk
  clear hR hk
  simp only [Tryz.ntmps90, List.size_toArray, List.length_cons, List.length_nil, Nat.reduceAdd, Nat.reduceSub, Array.replicate_succ, Array.replicate_zero, List.push_toArray, List.append_toArray, List.nil_append, List.cons_append]
  gi_wp2
  refine ⟨trivial, (callsIn_wide.2 (blocks_any A bs.length c _)).mono ?_⟩
  rintro e w' ⟨rfl, rfl⟩
  obtain ⟨W1, hW1⟩ : ∃ W1 : World, (((w.alloc (.cells (z8 32) 102)).alloc (.cells (arr32 h0.list) 173)).alloc (.cells #[.slice A bs.length c] 131)) = W1 := ⟨_, rfl⟩
  have hB1 : Below w.heap.size w W1 := by subst hW1; exact (((Below.refl _ _).alloc (Nat.le_refl _) _).alloc (by simp) _).alloc (by simp; omega) _
  have hs1 : Hid (W1.heap.size = w.heap.size + 1 + 1 + 1) := by subst hW1; exact Lib.hid (by simp)
  have b1 : Hid (Blk W1 w.heap.size 102 (z8 32)) := by subst hW1; exact Lib.hid (((Blk.new _ _ _).alloc _).alloc _)
  have b2 : Hid (Blk W1 (w.heap.size + 1) 173 (arr32 h0.list)) := by subst hW1; exact Lib.hid ((Blk.new' _ _ _ (by simp)).alloc _)
  have b3 : Hid (W1.cell? ⟨w.heap.size + 1 + 1, 0, none⟩ = some (.slice A bs.length c)) := by subst hW1; exact Lib.hid ((Blk.new' (w := (w.alloc (.cells (z8 32) 102)).alloc (.cells (arr32 h0.list) 173)) 131 #[.slice A bs.length c] (by simp)).cell 0)
  gi_wp2
  have hW1' : (((w.alloc (.cells (z8 32) 102)).alloc (.cells #[Value.int IntKind.u32 1779033703, Value.int IntKind.u32 3144134277, Value.int IntKind.u32 1013904242,
            Value.int IntKind.u32 2773480762, Value.int IntKind.u32 1359893119, Value.int IntKind.u32 2600822924,
            Value.int IntKind.u32 528734635, Value.int IntKind.u32 1541459225] 173)).alloc (.cells #[.slice A bs.length c] 131)) = W1 := hW1
  show Code.wpIn _ _ _ _ _ _ (((w.alloc (.cells (z8 32) 102)).alloc (.cells #[Value.int IntKind.u32 1779033703, Value.int IntKind.u32 3144134277, Value.int IntKind.u32 1013904242,
            Value.int IntKind.u32 2773480762, Value.int IntKind.u32 1359893119, Value.int IntKind.u32 2600822924,
            Value.int IntKind.u32 528734635, Value.int IntKind.u32 1541459225] 173)).alloc (.cells #[.slice A bs.length c] 131))
  rw [hW1']
  clear hW1 hW1'
  have hs1' := hs1.out
  have hRW1 : RdV W1 w.heap.size A (bs.map vU8) := HR.out.below hB1
  have hlp : ∀ x : B64, (enc64 x).size = 1 := fun _ => rfl
  refine wpIn_rangeFunc_all (n := 5) (gf := 99) (lb := #[.pointer (some ⟨w.heap.size + 1 + 1, 0, none⟩)]) rfl (enters_of Tryz.func99 (by kernel_rfl) rfl)
    (iter_any 4 W1 bs A c (w.heap.size + 1 + 1) w.heap.size hm hc (by omega) (by omega) b3.out hRW1) (Below.refl _ _) (fun k hk => by omega) hlp (· = w.heap.size + 1) (fun k hk => ⟨by omega, by omega⟩)
    (fun i W => Blk W (w.heap.size + 1) 173 (arr32 (stateTo (chunks bs) i).list) ∧ Blk W w.heap.size 102 (z8 32) ∧ Below w.heap.size w W)
    (fun i A' B' ⟨h1, h2, h3⟩ hA hB => ⟨h1.below hB (by omega), h2.below hB (by omega), h3.trans (hB.mono (by omega))⟩) ⟨by rw [stateTo_zero]; exact b2.out, b1.out, hB1⟩
    (fun x a W => ∃ Bx, W1.heap.size + 1 < Bx ∧ Blk W Bx 153 (arr8 x.1) ∧ a = { tmps := #[.slice A bs.length c, undef, .pointer (some ⟨w.heap.size, 0, none⟩), .pointer (some ⟨w.heap.size + 1, 0, none⟩), .pointer (some ⟨Bx, 0, none⟩), undef, undef, .agg #[Value.int IntKind.u32 1779033703, Value.int IntKind.u32 3144134277, Value.int IntKind.u32 1013904242, Value.int IntKind.u32 2773480762, Value.int IntKind.u32 1359893119, Value.int IntKind.u32 2600822924, Value.int IntKind.u32 528734635, Value.int IntKind.u32 1541459225], .slice A bs.length c, .func (.func 99) #[] #[.pointer (some ⟨w.heap.size + 1 + 1, 0, none⟩)], .agg (arr8 x.1), undef, undef, undef, undef, undef, undef, undef, undef, undef, undef, undef, undef, undef, undef, undef, undef, undef, undef, undef, undef], defers := [] })
    (fun x a A' B' ⟨Bx, h1, h2, h3⟩ hk => ⟨Bx, h1, hk.blk h2 (by omega), h3⟩) ?assign ?body ?done
  case assign =>
    intro l i x W K hx hI hs hK
    have hz64 := zero64u8
    have hK' := Lib.hid hK
    have hI' := Lib.hid hI
    clear hK hI
    unfold enc64
    gi_wp2_with (refine wpListIn_runSkip (fun _ => trivial) rfl (by intro c h; cases h) (exec_storeA 153 64 size64u8 (.tmp 4) (.tmp 10) rfl _ rfl (arr8 x.1) rfl _ (z8 64) (Blk.new W _ _) (by rw [arr8_size, x.2]) (by simp [z8]) (arr8_one _)) ?_)
    exact hK'.out _ _ ⟨W.heap.size, by omega, (Blk.new W _ _).setRow rfl, rfl⟩ (Keeps.of_below (below_setRow ((Below.refl _ _).alloc (Nat.le_refl _) _) rfl (Nat.le_refl _)))
      (by
        obtain ⟨h1, h2, h3⟩ := hI'.out
        have hb := below_setRow (g := W.heap.size) (cs := arr8 x.1) ((Below.refl W.heap.size W).alloc (Nat.le_refl _) (.cells (z8 64) 153)) rfl (Nat.le_refl _)
        exact ⟨h1.below hb (by omega), h2.below hb (by omega), h3.trans (hb.mono (by omega))⟩)
  case body =>
    rintro l i x a W hx ⟨h1, h2, h3⟩ ⟨Bx, hBx, hbx, rfl⟩ hs
    have H1 := Lib.hid h1
    have H2 := Lib.hid h2
    have HX := Lib.hid hbx
    clear h1 h2 hbx
    gi_wp2_with (first
      | (refine wpListIn_run (fun _ => trivial) rfl (by intro c h; cases h) (exec_load 173 (.tmp 3) rfl _ rfl _ (H1.out.load 173 8 _ Tryz.underlying173 size8u32 (by simp) rfl)) ?_)
      | (refine wpListIn_run (fun _ => trivial) rfl (by intro c h; cases h) (exec_load 153 (.tmp 4) rfl _ rfl _ (HX.out.load 153 64 _ Tryz.underlying153 size64u8 (by rw [arr8_size, x.2]) rfl)) ?_))
    refine ⟨trivial, CallsIn.inRound l ((callsIn_wide.2 (more_any (stateTo (chunks bs) i) x.1 x.2 W (HK.out.below h3 HK.out.lt))).mono ?_)⟩
    rintro e W2 ⟨rfl, hb2⟩
    have hb2' := Lib.hid hb2
    have hs2 := hb2.size
    clear hb2
    have h1' := Lib.hid (H1.out.below hb2'.out (by omega))
    have hst : Hid (stateTo (chunks bs) (i + 1) = moreOf (stateTo (chunks bs) i) x.1) := Lib.hid (by
      rw [stateTo_succ]
      have : ix (chunks bs) i = x := by unfold ix; rw [List.getD_eq_getElem?_getD, hx]; rfl
      rw [this])
    gi_wp2_with (refine wpListIn_runSkip (fun _ => trivial) rfl (by intro c h; cases h) (exec_storeA 173 8 size8u32 (.tmp 3) (.tmp 13) rfl _ rfl _ rfl _ _ h1'.out (by simp) (by simp) (arr32_one _)) ?_)
    refine ⟨(Keeps.of_below hb2'.out).trans (Keeps.setRow _ rfl), ?_, ?_, ?_⟩
    · rw [hst.out]; exact h1'.out.setRow rfl
    · exact (H2.out.below hb2'.out (by omega)).setRow_far rfl (by omega)
    · exact below_setRow (h3.trans (hb2'.out.mono (by omega))) rfl (by omega)
  case done =>
    rintro D W hD ⟨h1, h2, h3⟩ hd
    have hsD : D < W.heap.size := (Array.getElem?_eq_some_iff.1 hd).1
    have hsW : w.heap.size + 1 + 1 + 1 ≤ W.heap.size := by omega
    have hDw : w.heap.size + 1 + 1 + 1 ≤ D := by omega
    obtain ⟨s, hs⟩ : ∃ s, s = stateTo (chunks bs) (chunks bs).length := ⟨_, rfl⟩
    rw [← hs] at h1
    have hfin : Hid (shaOf bs = outTo s 32) := Lib.hid (by rw [hs, shaOf_eq])
    have hb0 : Blk (W.alloc (.cells (z8 32) 102)) W.heap.size 102 (arr8 (outTo s 0)) := by rw [outTo_zero]; exact Blk.new _ _ _
    have HB0 := Lib.hid hb0
    have H1 := Lib.hid h1
    have H2 := Lib.hid h2
    have HD := Lib.hid hd
    have HBo := Lib.hid b1
    clear hb0 h1 h2 hd hs b1 b2 b3 HR HK hRW1 hs1 hs1' hB1 hlp
    have HM := Lib.hid hm
    have HC := Lib.hid hc
    clear hm hc
    gi_wp2
    gi_loopw [14] (fun c wr => ∃ i : Nat, i ≤ 32 ∧ c = .int .i64 i ∧ Blk wr W.heap.size 102 (arr8 (outTo s i)) ∧ Blk wr (w.heap.size + 1) 173 (arr32 s.list) ∧ Blk wr w.heap.size 102 (z8 32) ∧ Below w.heap.size w wr ∧ wr.heap[D]? = some (.deferred (some []))) (fun c _ => 32 - (intOf c).toNat)
    case atStart => exact ⟨0, by omega, rfl, HB0.out, H1.out.alloc _, H2.out.alloc _, h3.alloc (by omega) _, (Below.heap_alloc W _ D hsD).trans HD.out⟩
    case round =>
      clear HB0 H1 H2 HD h3
      obtain ⟨i, hi, rfl, hb0, h1, h2, h3, hd⟩ := hrel
      by_cases hlt : i < 32
      · have c4 := h1.cell (i / 4)
        rw [arr32_get _ _ (by simp; omega)] at c4
        have ci := hb0.cell i
        rw [arr8_get _ _ (by simp; omega)] at ci
        have fi := hb0.frozen i
        have HB0 := Lib.hid hb0
        have H1 := Lib.hid h1
        have H2 := Lib.hid h2
        have HD := Lib.hid hd
        have hout := Lib.hid (out_eq s i _ rfl)
        clear hb0 h1 h2 hd
        gi_wp2
        go_roundw
        case rel =>
          rw [hout.out]
          have hn := HB0.out.set_ i (vU8 (outByte s i))
          rw [arr8_set, ← outTo_succ] at hn
          exact ⟨i + 1, by omega, by go_num, hn, H1.out.far (by show _ ≠ W.heap.size; omega) _, H2.out.far (by show _ ≠ W.heap.size; omega) _, h3.setCell (by show _ ≤ W.heap.size; omega) _, (Below.heap_setCell wr _ _ D (by show D ≠ W.heap.size; omega)).trans HD.out⟩
        case measure => simp [intOf]; omega
      · obtain rfl : i = 32 := by omega
        have HB0 := Lib.hid hb0
        have H2 := Lib.hid h2
        have HD := Lib.hid hd
        have h3' := Lib.hid h3
        clear hb0 h1 h2 hd h3
        gi_wp2_with (first
          | (refine wpListIn_run (fun _ => trivial) rfl (by intro c h; cases h) (exec_load 102 (.tmp 5) rfl _ rfl _ (HB0.out.load 102 32 _ Tryz.underlying102 size32u8 (by simp) rfl)) ?_)
          | (refine wpListIn_runSkip (fun _ => trivial) rfl (by intro c h; cases h) (exec_storeA 102 32 size32u8 (.tmp 2) (.tmp 30) rfl _ rfl _ rfl _ _ H2.out (by simp) (by simp [z8]) (arr8_one _)) ?_))
        have hR3 := H2.out.setRow (w2 := wr.setRow w.heap.size (arr8 (outTo s 32))) rfl
        have hD3 : (wr.setRow w.heap.size (arr8 (outTo s 32))).heap[D]? = some (.deferred (some [])) := (setRow_other _ _ _ _ (by omega)).trans HD.out
        refine ⟨by simp, .inl ⟨_, _, rfl, run_takeDeferred hD3, ?_⟩⟩
        have hR4 : ((wr.setRow w.heap.size (arr8 (outTo s 32))).putObj D (.deferred none)).heap[w.heap.size]? = some (.cells (arr8 (outTo s 32)) 102 (0, 0)) := (World.putObj_heap_other (by omega)).trans hR3
        refine ⟨_, results_cell_row rfl _ _ _ _ _ _ _ rfl hR4 Tryz.underlying102 rfl (by rw [arr8_size, outTo_length]; exact size32u8), by rw [hfin.out], ?_⟩
        exact (Keeps.putObj (own := (· = D)) _ D _ rfl).below (by have := h3'.out.size; simp; omega) (fun k e => by omega) |> (below_setRow h3'.out rfl (Nat.le_refl _)).trans
end Go.Proofs.YtombphphaoeeiaaGreatDoor
