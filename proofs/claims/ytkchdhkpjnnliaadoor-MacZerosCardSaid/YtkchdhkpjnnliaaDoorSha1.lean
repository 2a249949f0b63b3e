/- The walks of sha.rotr and sha.words. -/
import Derived.Test.YtkchdhkpjnnliaaDoorSha0
import Derived.Test.YtkchdhkpjnnliaaDoorProg
namespace Go.Proofs.YtkchdhkpjnnliaaDoor
open Go.RowKit
attribute [local go_sem] w32_xor w32_or w32_and w32_andNot w32_add w32_of8 w32_shl8 w32_shr3 w32_shr10

theorem rotl_any (x : UInt32) (n : Nat) (h1 : 1 ≤ n) (h2 : n ≤ 31) (w : World) :
    Calls Tryd.prog 92 #[vU32 x, .int .i64 (-(n : Int))] w fun e w' => e = .returned (vU32 (rr x n)) ∧ w = w' := by
  have hc := count_eq n h1 h2
  obtain ⟨r, hr⟩ : ∃ r, r = 32 - n := ⟨_, rfl⟩
  rw [← hr] at hc
  have HE := Lib.hid (rotl_eq x r (by omega) (by omega))
  have HR := Lib.hid hr
  have a1 : 1 ≤ r := by omega
  have a2 : r ≤ 31 := by omega
  clear hr
  go_enter Tryd.func92, Tryd.ntmps92
  go_wp2
  go_ret
  exact ⟨congrArg (fun z => Ending.returned (.int .u32 z)) (HE.out.trans (by rw [HR.out, show 32 - (32 - n) = n from by omega])), rfl⟩

theorem rotr_any (x : UInt32) (n : Int) (h1 : 1 ≤ n) (h2 : n ≤ 31) (w : World) :
    Calls Tryd.prog 85 #[vU32 x, .int .i64 n] w fun e w' => e = .returned (vU32 (rr x n.toNat)) ∧ w = w' := by
  obtain ⟨m, rfl⟩ := Int.eq_ofNat_of_zero_le (show 0 ≤ n by omega)
  go_enter Tryd.func85, Tryd.ntmps85
  go_wp2_with (go_at_call 92; refine (rotl_any x m (by omega) (by omega) _).mono ?_; rintro e w' ⟨rfl, rfl⟩)
  go_ret
  exact ⟨rfl, rfl⟩

theorem zeroWords (W : World) : (zeroValue 121).run Tryd.prog W = .ok (.agg (z32 64)) W := by kernel_rfl
theorem size64u8 : (Tryd.prog.info? 44).map (·.size) = some 64 := by kernel_rfl
theorem size1u8 : (Tryd.prog.info? 5).map (·.size) = some 1 := by kernel_rfl
theorem size64u32 : (Tryd.prog.info? 121).map (·.size) = some 64 := by kernel_rfl

set_option maxHeartbeats 1000000 in
set_option maxRecDepth 100000 in
theorem words_any (b : List UInt8) (hb : b.length = 64) (w : World) :
    Calls Tryd.prog 84 #[.agg (arr8 b)] w fun e w' => e = .returned (.agg (arr32 (wordsOf b))) ∧ Below w.heap.size w w' := by
  have hz := zeroWords
  have HB := Lib.hid hb
  clear hb
  go_enter Tryd.func84, Tryd.ntmps84
  go_upto_region 2 with (fail)
  apply wp_region_lit
  refine wpList_loadA 44 64 _ Tryd.underlying44 size64u8 rfl _ rfl _ rfl _ (arr8 b) (((Blk.new w _ _).alloc _).alloc _) (by rw [arr8_size, HB.out]) rfl ?_
  go_wp2
  go_loopw [12] (fun c wr => ∃ i : Nat, i ≤ 64 ∧ c = .int .i64 i ∧ Blk wr (w.heap.size + 1 + 1) 121 (arr32 (to1 b i)) ∧ Blk wr (w.heap.size + 1) 121 (z32 64) ∧ Below w.heap.size w wr) (fun c _ => 64 - (intOf c).toNat)
  case atStart =>
    exact ⟨0, by omega, rfl, Blk.new' _ _ _ (by simp), (Blk.new' _ _ _ (by simp)).alloc _, ((((Below.refl _ _).alloc (Nat.le_refl _) _).alloc (by simp) _).alloc (by simp; omega) _)⟩
  case round =>
    obtain ⟨i, hi, rfl, hB, hR, hb⟩ := hrel
    by_cases hlt : i < 64
    · have hc := hB.cell (i / 4)
      rw [arr32_get _ _ (by rw [to1_length]; omega)] at hc
      have hf := hB.frozen (i / 4)
      have hix := run_index_agg (P := Tryd.prog) 44 5 64 _ (arr8 b) .i64 i _ Tryd.underlying44 Tryd.underlying5 rfl hlt (arr8_get b i (by rw [HB.out]; exact hlt)) size1u8
      have hB' := Lib.hid hB
      have hR' := Lib.hid hR
      clear hB hR
      go_wp2
      go_roundw
      case rel =>
        have hn := hB'.out.set_ (i / 4) (vU32 (ix (to1 b i) (i / 4) <<< 8 ||| (ix b i).toUInt32))
        rw [arr32_set] at hn
        exact ⟨i + 1, by omega, by go_num, hn, hR'.out.far (by simp) _, hb.setCell (by simp; omega) _⟩
      case measure => simp [intOf]; omega
    · obtain rfl : i = 64 := by omega
      have hB' := Lib.hid hB
      have hR' := Lib.hid hR
      clear hB hR
      go_wp2
      obtain ⟨wo, rfl⟩ : ∃ wo : World, wo = wr := ⟨_, rfl⟩
      go_loopw [6] (fun c wr => ∃ t : Nat, 16 ≤ t ∧ t ≤ 64 ∧ c = .int .i64 t ∧ Blk wr (w.heap.size + 1 + 1) 121 (arr32 (to2 b (t - 16))) ∧ Blk wr (w.heap.size + 1) 121 (z32 64) ∧ Below w.heap.size w wr) (fun c _ => 64 - (intOf c).toNat)
      case atStart =>
        exact ⟨16, by omega, by omega, rfl, hB'.out, hR'.out, hb⟩
      case round =>
        clear hB' hR' hb
        obtain ⟨t, ht, hi, rfl, hB, hR, hb⟩ := hrel
        by_cases hlt : t < 64
        · have c15 := hB.cell (t - 15)
          have c2 := hB.cell (t - 2)
          have c7 := hB.cell (t - 7)
          have c16 := hB.cell (t - 16)
          have ct := hB.cell t
          rw [arr32_get _ _ (by rw [to2_length]; omega)] at c15 c2 c7 c16 ct
          have hf := hB.frozen t
          have hB' := Lib.hid hB
          have hR' := Lib.hid hR
          clear hB hR
          go_wp2_with fail
          go_quiet (fail)
          go_wp2_with (go_at_call 85; refine (rotr_any _ _ (by omega) (by omega) _).mono ?_; rintro e w' ⟨rfl, rfl⟩)
          have p7 : (7 : Int) ≤ (t : Int) := by omega
          have q7 : (t : Int) - 7 < 64 := by omega
          have q16 : (t : Int) - 16 < 64 := by omega
          have p16 : (16 : Int) ≤ (t : Int) := by omega
          refine wp_region_tail 15 (by kernel_rfl) (by kernel_rfl) (fun w2 hd hs hcc hff => ?_)
          simp only [List.take_succ_cons, List.take_zero, List.drop_succ_cons, List.drop_zero]
          repeat (refine wpStill_step (fun K hK => ?_); go_simp; (try go_bits); refine hK _ ?_; clear hK K)
          refine wpStill_nil ?_
          go_wp2
          go_roundw
          case rel =>
            (repeat apply Exists.intro)
            refine ⟨⟨t + 1, by omega, by omega, by go_num, ?_, ?_, ?_⟩, rfl⟩
            · rw [show t + 1 - 16 = (t - 16) + 1 from by omega]
              have hn := (hd.out.blk hB'.out).set_ t (vU32 (sg1 (ix (to2 b (t - 16)) (t - 2)) + ix (to2 b (t - 16)) (t - 7) + sg0 (ix (to2 b (t - 16)) (t - 15)) + ix (to2 b (t - 16)) (t - 16)))
              rw [arr32_set] at hn
              have ek : to2 b (t - 16 + 1) = (to2 b (t - 16)).set t (sg1 (ix (to2 b (t - 16)) (t - 2)) + ix (to2 b (t - 16)) (t - 7) + sg0 (ix (to2 b (t - 16)) (t - 15)) + ix (to2 b (t - 16)) (t - 16)) := by
                show put2 _ _ = _
                unfold put2
                rw [show t - 16 + 16 = t from by omega]
              rw [ek]
              exact hn
            · exact (hd.out.blk hR'.out).far (by simp) _
            · exact (hd.out.below (Drawn.below ⟨nq, rfl⟩ hb)).setCell (by simp; omega) _
          case measure => simp [intOf]; omega
        · obtain rfl : t = 64 := by omega
          have hB' := Lib.hid hB
          have hR' := Lib.hid hR
          clear hB hR
          go_wp2_with (first
            | (refine wpList_loadA 121 64 _ Tryd.underlying121 size64u32 rfl (.tmp 3) rfl _ rfl _ _ hB'.out (by simp) rfl ?_)
            | (refine wpList_storeA 121 64 size64u32 rfl (.tmp 2) (.tmp 71) rfl _ rfl _ rfl _ _ hR'.out (by simp) (by simp [z32]) (arr32_one _) (fun w3 hw3 hs3 => ?_)))
          have hR3 := hR'.out.setRow hw3.out
          refine bodyPost_ret (results_cell_row rfl _ _ _ _ _ _ _ rfl hR3 Tryd.underlying121 rfl (by rw [arr32_size, to2_length]; exact size64u32)) rfl ?_
          exact ⟨rfl, below_setRow hb hw3.out (by omega)⟩
end Go.Proofs.YtkchdhkpjnnliaaDoor
