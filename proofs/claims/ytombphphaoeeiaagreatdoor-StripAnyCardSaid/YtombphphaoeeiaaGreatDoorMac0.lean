import Derived.Test.YtombphphaoeeiaaGreatDoorEn3
import Derived.Test.YtombphphaoeeiaaGreatDoorShaW
import Derived.Test.YtombphphaoeeiaaGreatDoorBase
/- A number of 64 bits, as bytes. -/
namespace Go.Proofs.YtombphphaoeeiaaGreatDoor
open Go.RowKit
def beTo (x : UInt64) : Nat → List UInt8
  | 0 => []
  | k + 1 => beTo x k ++ [(shr64 x (56 - 8 * k)).toUInt8]
theorem beTo_length (x : UInt64) (k : Nat) : (beTo x k).length = k := by induction k <;> simp_all [beTo]
end Go.Proofs.YtombphphaoeeiaaGreatDoor
/- The plain functions of mac, and the walks of mac.Block, mac.keyed, mac.Of, mac.Check. -/
namespace Go.Proofs.YtombphphaoeeiaaGreatDoor
open Go.RowKit
attribute [local go_sem] w8_xor
def keyOf (key : List UInt8) : List UInt8 := if key.length ≤ 64 then key else shaOf key
def blockOf (key : List UInt8) : List UInt8 := keyOf key ++ List.replicate (64 - (keyOf key).length) 0
def maskTo (b : List UInt8) (m : UInt8) : Nat → List UInt8
  | 0 => []
  | k + 1 => maskTo b m k ++ [ix b k ^^^ m]
theorem maskTo_zero (b : List UInt8) (m : UInt8) : maskTo b m 0 = [] := rfl
theorem maskTo_succ (b : List UInt8) (m : UInt8) (k : Nat) : maskTo b m (k + 1) = maskTo b m k ++ [ix b k ^^^ m] := rfl
@[simp] theorem maskTo_length (b : List UInt8) (m : UInt8) (k : Nat) : (maskTo b m k).length = k := by
  induction k with
  | zero => rfl
  | succ k ih => simp [maskTo, ih]
def keyedOf (b : List UInt8) (m : UInt8) (x : List UInt8) : List UInt8 := shaOf (maskTo b m 64 ++ x)
def macOf (key x : List UInt8) : List UInt8 := keyedOf (blockOf key) 92 (keyedOf (blockOf key) 54 x)
theorem keyOf_length (key : List UInt8) : (keyOf key).length ≤ 64 := by
  have := shaOf_length key
  by_cases h : key.length ≤ 64
  · simp only [keyOf, h, if_true]
  · simp only [keyOf, h, if_false]; omega
theorem blockOf_length (key : List UInt8) : (blockOf key).length = 64 := by have := keyOf_length key; simp [blockOf]; omega
attribute [local irreducible] shaOf
theorem keyedOf_length (b : List UInt8) (m : UInt8) (x : List UInt8) : (keyedOf b m x).length = 32 := shaOf_length _
theorem macOf_length (key x : List UInt8) : (macOf key x).length = 32 := shaOf_length _
theorem blockOf_short (key : List UInt8) (h : key.length ≤ 64) : blockOf key = key ++ List.replicate (64 - key.length) 0 := by simp [blockOf, keyOf, h]
theorem blockOf_long (key : List UInt8) (h : ¬ key.length ≤ 64) : blockOf key = shaOf key ++ List.replicate 32 0 := by simp [blockOf, keyOf, h, shaOf_length]
theorem keyedOf_eq (b : List UInt8) (m : UInt8) (x : List UInt8) : keyedOf b m x = shaOf (maskTo b m 64 ++ x) := rfl
theorem macOf_eq (key x : List UInt8) : macOf key x = keyedOf (blockOf key) 92 (keyedOf (blockOf key) 54 x) := rfl
attribute [local irreducible] blockOf keyedOf macOf maskTo
theorem RdV.of_blk {w : World} {g B : Nat} {t : TypeId} {l : List UInt8} (h : Blk w g t (arr8 l)) (hB : g < B) : RdV w B (some ⟨g, 0, none⟩) (l.map vU8) := fun _ => ⟨g, 0, rfl, hB, fun j u hu => by rw [Nat.zero_add, h.cell j]; simpa [arr8] using hu⟩
theorem infoU8 : (Tryz.prog.info? 5).map (fun i => (i.zero, i.size, i.bytes)) = some (some (.int .u8 0), 1, 1) := by kernel_rfl

set_option maxHeartbeats 1000000 in
set_option maxRecDepth 100000 in
theorem block_any (key : List UInt8) (A : Option Addr) (c : Nat) (w : World) (hR : RdV w w.heap.size A (key.map vU8)) (hm : key.length ≤ 140737488355328) (hc : key.length ≤ c) (hk : LaidK 1 w) :
    Calls Tryz.prog 77 #[.slice A key.length c] w fun e w' => e = .returned (.agg (arr8 (blockOf key))) ∧ Below w.heap.size w w' := by
  have hz := zero64u8
  have hz32 := zero32u8
  have HR := Lib.hid hR
  have HK := Lib.hid hk
  clear hR hk
  go_enter Tryz.func77, Tryz.ntmps77
  go_upto_region 2 with (fail)
  obtain ⟨W1, hW1⟩ : ∃ W1 : World, ((w.alloc (.cells (z8 64) 153)).alloc (.cells (z8 64) 153)) = W1 := ⟨_, rfl⟩
  have hB1 : Below w.heap.size w W1 := by subst hW1; exact ((Below.refl _ _).alloc (Nat.le_refl _) _).alloc (by simp) _
  have hs1 : W1.heap.size = w.heap.size + 1 + 1 := by subst hW1; simp
  have b1 : Blk W1 w.heap.size 153 (z8 64) := by subst hW1; exact (Blk.new _ _ _).alloc _
  have b2 : Blk W1 (w.heap.size + 1) 153 (z8 64) := by subst hW1; exact (Blk.new' _ _ _ (by simp))
  rw [hW1]
  clear hW1
  have H1 := Lib.hid b1
  have H2 := Lib.hid b2
  have HB1 := Lib.hid hB1
  clear b1 b2 hB1
  by_cases hl : key.length ≤ 64
  · have hl' : ¬ ((64 : Int) < key.length) := by omega
    obtain ⟨W2, hcopy, hb2, hk2⟩ := run_copyR (P := Tryz.prog) W1 131 131 5 (w.heap.size + 1) 0 64 64 A key.length c w.heap.size ((List.replicate 64 (0 : UInt8)).map vU8) 153 (key.map vU8)
      Tryz.underlying131 size1u8 H2.out (by rw [List.length_map]; simp only [Nat.min_def]; split <;> omega) (HR.out.below HB1.out) (by simp; omega) (oneCell_u8 key)
    have hb2' : Blk W2 (w.heap.size + 1) 153 (arr8 (blockOf key)) := by
      have e := splice_zeros key key.length 64 rfl
      rw [e, ← blockOf_short key hl] at hb2
      exact hb2
    have HB2 := Lib.hid hb2'
    have HK2 := Lib.hid hk2
    have H12 := Lib.hid (hk2.blk H1.out (by omega))
    have HC := Lib.hid hcopy
    clear hb2 hb2' hk2 hcopy
    go_wp2_with (first
      | (refine wpList_run rfl (exec_copy (.tmp 13) (.tmp 14) 131 131 rfl _ _ rfl rfl _ _ (HC.out _)) ?_)
      | (refine wpList_loadA 153 64 _ Tryz.underlying153 size64u8 rfl _ rfl _ rfl _ _ HB2.out (by rw [arr8_size, blockOf_length]) rfl ?_)
      | (refine wpList_storeA 153 64 size64u8 rfl (.tmp 2) (.tmp 16) rfl _ rfl _ rfl _ _ H12.out (by rw [arr8_size, blockOf_length]) (by simp [z8]) (arr8_one _) (fun W3 hw3 hs3 => ?_)))
    have hR3 := H12.out.setRow hw3.out
    refine bodyPost_ret (results_cell_row rfl _ _ _ _ _ _ _ rfl hR3 Tryz.underlying153 rfl (by rw [arr8_size, blockOf_length]; exact size64u8)) rfl ?_
    exact ⟨rfl, below_setRow (HB1.out.trans (HK2.out.below (by omega) (fun k e => by omega))) hw3.out (by omega)⟩
  · have hl' : ((64 : Int) < key.length) := by omega
    go_wp2_with fail
    refine (of_any key A c W1 ((HR.out.below HB1.out).more (by omega)) hm hc (HK.out.below HB1.out HK.out.lt)).mono ?_
    rintro e W2 ⟨rfl, hb2⟩
    have hs2 := hb2.size
    have H12 := Lib.hid (H1.out.below hb2 (by omega))
    have H22 := Lib.hid (H2.out.below hb2 (by omega))
    have HB2 := Lib.hid (HB1.out.trans (hb2.mono (by omega)))
    clear hb2
    go_wp2_with (refine wpList_storeA 102 32 size32u8 rfl (.tmp 4) (.tmp 9) rfl _ rfl _ rfl _ _ (Blk.new W2 _ _) (by rw [arr8_size, shaOf_length]) (by simp [z8]) (arr8_one _) (fun W3 hw3 hs3 => ?_))
    have H13 := Lib.hid ((H12.out.alloc (.cells (z8 32) 102)).setRow_far hw3.out (by omega))
    have H23 := Lib.hid ((H22.out.alloc (.cells (z8 32) 102)).setRow_far hw3.out (by omega))
    have HS3 := Lib.hid ((Blk.new W2 102 (z8 32)).setRow hw3.out)
    have HB3 := Lib.hid (below_setRow (HB2.out.alloc (by omega) (.cells (z8 32) 102)) hw3.out (by omega))
    clear hw3
    refine wp_region_mix [(0, true), (1, true), (2, false)] (by kernel_rfl) (by kernel_rfl) rfl (by kernel_rfl) (fun _ => True) (fun W4 hd => ⟨trivial, ?_⟩)
    repeat
      refine wpMix_rd rfl rfl (fun K hK => ?_)
      apply Exists.intro
      refine ⟨fun x hx => ?_, ?_⟩
      · unfold readAt
        go_simp
        try go_bits
        rfl
      go_simp
      refine hK _ ?_
      clear hK K
    obtain ⟨W5, hcopy, hb5, hk5⟩ := run_copyR (P := Tryz.prog) W4 131 131 5 (w.heap.size + 1) 0 64 64 (some ⟨W2.heap.size, 0, none⟩) 32 32 (W2.heap.size + 1) ((List.replicate 64 (0 : UInt8)).map vU8) 153 ((shaOf key).map vU8)
      Tryz.underlying131 size1u8 (hd.out.blk H23.out) (by rw [List.length_map, shaOf_length]; rfl) (RdV.of_blk (hd.out.blk HS3.out) (by omega)) (by simp [shaOf_length]) (oneCell_u8 _)
    have hb5' : Blk W5 (w.heap.size + 1) 153 (arr8 (blockOf key)) := by
      have e := splice_zeros (shaOf key) 32 64 (shaOf_length _)
      rw [e, show 64 - 32 = 32 from rfl, ← blockOf_long key hl] at hb5
      exact hb5
    have hs4 := hd.out.below (Below.refl W3.heap.size W3)
    have hs4' := hs4.size
    have hs5 := hk5.size
    refine wpMix_wr rfl rfl (fun K hK => ?_)
    refine wp_run (exec_copy (.tmp 10) (.tmp 11) 131 131 rfl _ _ rfl rfl _ _ (hcopy _)) ?_
    go_simp
    refine hK (fun _ => True) _ _ trivial (fun _ _ => trivial) ?_
    clear hK K
    refine wpMix_nil ?_
    have HB5 := Lib.hid hb5'
    have H15 := Lib.hid (hk5.blk (hd.out.blk H13.out) (by omega))
    have HBL := Lib.hid ((hd.out.below HB3.out).trans (hk5.below (by have := HB3.out.size; omega) (fun k e => by omega)))
    clear hb5 hb5' hcopy hk5
    go_wp2_with (first
      | (refine wpList_loadA 153 64 _ Tryz.underlying153 size64u8 rfl _ rfl _ rfl _ _ HB5.out (by rw [arr8_size, blockOf_length]) rfl ?_)
      | (refine wpList_storeA 153 64 size64u8 rfl (.tmp 2) (.tmp 16) rfl _ rfl _ rfl _ _ H15.out (by rw [arr8_size, blockOf_length]) (by simp [z8]) (arr8_one _) (fun W6 hw6 hs6 => ?_)))
    have hR3 := H15.out.setRow hw6.out
    refine bodyPost_ret (results_cell_row rfl _ _ _ _ _ _ _ rfl hR3 Tryz.underlying153 rfl (by rw [arr8_size, blockOf_length]; exact size64u8)) rfl ?_
    exact ⟨rfl, below_setRow HBL.out hw6.out (by omega)⟩

set_option maxHeartbeats 1000000 in
set_option maxRecDepth 100000 in
theorem keyed_any (b : List UInt8) (hb : b.length = 64) (m : UInt8) (l : List UInt8) (A : Option Addr) (c : Nat) (w : World) (hR : RdV w w.heap.size A (l.map vU8)) (hm : l.length ≤ 100000) (hk : LaidK 1 w) :
    Calls Tryz.prog 78 #[.agg (arr8 b), vU8 m, .slice A l.length c] w fun e w' => e = .returned (.agg (arr8 (keyedOf b m l))) ∧ Below w.heap.size w w' := by
  have hz := zero32u8
  have HR := Lib.hid hR
  have HK := Lib.hid hk
  have HB := Lib.hid hb
  clear hR hk hb
  go_enter Tryz.func78, Tryz.ntmps78
  go_upto_region 1 with (fail)
  obtain ⟨W1, hW1⟩ : ∃ W1 : World, ((w.alloc (.cells (arr8 b) 153)).alloc (.cells (z8 32) 102)) = W1 := ⟨_, rfl⟩
  have hB1 : Below w.heap.size w W1 := by subst hW1; exact ((Below.refl _ _).alloc (Nat.le_refl _) _).alloc (by simp) _
  have hs1 : W1.heap.size = w.heap.size + 1 + 1 := by subst hW1; simp
  have b1 : Blk W1 w.heap.size 153 (arr8 b) := by subst hW1; exact (Blk.new _ _ _).alloc _
  have b2 : Blk W1 (w.heap.size + 1) 102 (z8 32) := by subst hW1; exact (Blk.new' _ _ _ (by simp))
  rw [hW1]
  clear hW1
  have H1 := Lib.hid b1
  have H2 := Lib.hid b2
  have HB1 := Lib.hid hB1
  clear b1 b2 hB1
  obtain ⟨i0, hi, hz0, hz1, hz2⟩ := info_parts infoU8
  obtain ⟨W2, hmk, hown, hgr⟩ := run_make_own (P := Tryz.prog) W1 (w.heap.size + 1 + 1) 131 5 i0 (.int .u8 0) 1 Tryz.underlying131 hi hz0 hz1 .i64 .i64 (64 + l.length) (by rw [hz2]; omega) (by unfold maxLen; omega) (by omega)
  have hmk' : (Instr.makeSlice 131 (.int .i64 0) (.int .i64 (64 + (l.length : Int)))).run Tryz.prog W1 = .ok (.slice (some ⟨W1.heap.size, 0, none⟩) 0 (64 + l.length)) W2 := by rw [← hmk]; congr 3
  clear hmk hi hz0 hz1 hz2
  have H12 := Lib.hid ((keeps_of_grown hgr).blk H1.out (by simp))
  have H22 := Lib.hid ((keeps_of_grown hgr).blk H2.out (by simp))
  have HB2 := Lib.hid (HB1.out.trans ((keeps_of_grown hgr).below (n := w.heap.size) (by omega) (fun k e => by cases e)))
  have hown0 : Own W2 (w.heap.size + 1 + 1) 5 (.slice (some ⟨W1.heap.size, 0, none⟩) 0 (64 + l.length)) [] := hown
  have HO := Lib.hid hown0
  clear hown hown0 hgr
  go_wp2_with (refine wpList_loadA 153 64 _ Tryz.underlying153 size64u8 rfl _ rfl _ rfl _ _ H12.out (by rw [arr8_size, HB.out]) rfl ?_)
  go_loopw [7, 15] (fun v i wr => ∃ k : Nat, k ≤ 64 ∧ i = .int .i64 k ∧ Own wr (w.heap.size + 1 + 1) 5 v ((maskTo b m k).map vU8) ∧ Blk wr (w.heap.size + 1) 102 (z8 32) ∧ Below w.heap.size w wr) (fun _ i _ => 64 - (intOf i).toNat)
  case atStart => exact ⟨0, by omega, rfl, by rw [maskTo_zero]; have h := HO.out; rw [hs1] at h; exact h, H22.out, HB2.out⟩
  case round =>
    obtain ⟨k, hk, rfl, hown, hz2, hb⟩ := hrel
    have hsz := hb.size
    have hlo := hz2.lt
    by_cases hlt : k < 64
    · have HO := Lib.hid hown
      have HZ := Lib.hid hz2
      have HBB := Lib.hid hb
      have hix := run_index_agg (P := Tryz.prog) 153 5 64 _ (arr8 b) .i64 k _ Tryz.underlying153 Tryz.underlying5 rfl hlt (arr8_get b k (by rw [HB.out]; exact hlt)) size1u8
      obtain ⟨v', w3, hrun, hown3, hk3, hob⟩ := run_appendR (P := Tryz.prog) (wr.alloc (.cells #[vU8 (ix b k ^^^ m)] 5)) (w.heap.size + 1 + 1) 131 5 1 Tryz.underlying131 (.int .u8 0) rfl infoU8 _ _
        (HO.out.later ((Below.refl _ _).alloc (Nat.le_refl _) _)) (some ⟨wr.heap.size, 0, none⟩) 1 1 (wr.heap.size + 1) [vU8 (ix b k ^^^ m)] (fun _ => ⟨wr.heap.size, 0, rfl, by omega, fun i u hu => by rw [Nat.zero_add]; exact ((Blk.new wr _ _).cell i).trans (by simpa using hu)⟩) rfl (by simp [Value.oneCell'])
        (small_maxLen (by simp; omega)) (by simp; omega) (by simp; omega)
      have hb3 : Below w.heap.size w w3 := (hb.alloc hsz _).trans (hk3.below (by simp; omega) (fun k hk => by have := (HO.out.lt k hk).1; omega))
      have hz3 : Blk w3 (w.heap.size + 1) 102 (z8 32) := hk3.blk (HZ.out.alloc _) (fun hk => by have := (HO.out.lt _ hk).1; omega)
      have H3 := Lib.hid hown3
      have HB3 := Lib.hid hb3
      have HZ3 := Lib.hid hz3
      have HRUN := Lib.hid hrun
      clear hown3 hb3 hob hk3 hz3 hrun hown hz2 hb
      go_wp2_with (at_builtin; refine wpList_run rfl (exec_append (.tmp 18) (.tmp 22) 131 rfl _ _ rfl rfl _ _ (HRUN.out _)) ?_)
      go_roundw
      case rel =>
        refine ⟨k + 1, by omega, by go_num, ?_, HZ3.out, HB3.out⟩
        have h3' := H3.out
        rw [maskTo_succ, List.map_append]
        exact h3'
      case measure => simp [intOf]; omega
    · obtain rfl : k = 64 := by omega
      obtain ⟨v', w3, hrun, hown3, hk3, hob⟩ := run_appendR (P := Tryz.prog) wr (w.heap.size + 1 + 1) 131 5 1 Tryz.underlying131 (.int .u8 0) rfl infoU8 _ _
        hown A l.length c w.heap.size (l.map vU8) (HR.out.below hb) (by simp) (oneCell_u8 _)
        (small_maxLen (by simp; omega)) (by simp; omega) (by omega)
      have hb3 : Below w.heap.size w w3 := hb.trans (hk3.below (by omega) (fun k hk => by have := (hown.lt k hk).1; omega))
      have hz3 : Blk w3 (w.heap.size + 1) 102 (z8 32) := hk3.blk hz2 (fun hk => by have := (hown.lt _ hk).1; omega)
      obtain ⟨A3, c3, rfl, hl3, hc3, hR3, _⟩ := hown3.rd
      have HRUN := Lib.hid hrun
      have hs3 := hb3.size
      have HB3 := Lib.hid hb3
      have HZ3 := Lib.hid hz3
      have HR3 := Lib.hid hR3
      have he : (maskTo b m 64).map vU8 ++ l.map vU8 = (maskTo b m 64 ++ l).map vU8 := by rw [List.map_append]
      rw [he] at HR3 hl3 HRUN
      rw [List.length_map] at hl3 HRUN
      have hl64 : (maskTo b m 64 ++ l).length = 64 + l.length := by simp
      have hof := of_any (maskTo b m 64 ++ l) A3 c3 w3 HR3.out (by omega) hl3 (HK.out.below HB3.out HK.out.lt)
      rw [hl64] at hof HRUN
      have HOF := Lib.hid hof
      clear hown3 hb3 hob hk3 hz3 hrun hown hz2 hb he hR3 hof
      go_wp2_with (at_builtin; refine wpList_run rfl (exec_append (.tmp 25) (.tmp 26) 131 rfl _ _ rfl rfl _ _ (HRUN.out _)) ?_)
      refine HOF.out.mono ?_
      rintro e W5 ⟨rfl, hb5⟩
      have HZ5 := Lib.hid (HZ3.out.below hb5 HZ3.out.lt)
      have HB5 := Lib.hid (HB3.out.trans (hb5.mono hs3))
      clear hb5
      rw [← keyedOf_eq]
      go_wp2_with (refine wpList_storeA 102 32 size32u8 rfl (.tmp 6) (.tmp 28) rfl _ rfl _ rfl _ _ HZ5.out (by rw [arr8_size, keyedOf_length]) (by simp [z8]) (arr8_one _) (fun W6 hw6 hs6 => ?_))
      have hR3 := HZ5.out.setRow hw6.out
      refine bodyPost_ret (results_cell_row rfl _ _ _ _ _ _ _ rfl hR3 Tryz.underlying102 rfl (by rw [arr8_size, keyedOf_length]; exact size32u8)) rfl ?_
      exact ⟨rfl, below_setRow HB5.out hw6.out (by omega)⟩
end Go.Proofs.YtombphphaoeeiaaGreatDoor
