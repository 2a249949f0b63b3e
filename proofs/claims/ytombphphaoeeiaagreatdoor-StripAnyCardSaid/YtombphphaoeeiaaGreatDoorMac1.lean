import Derived.Test.YtombphphaoeeiaaGreatDoorTy
import Derived.Test.YtombphphaoeeiaaGreatDoorCom
import Derived.Test.YtombphphaoeeiaaGreatDoorMac0
import Derived.Test.YtombphphaoeeiaaGreatDoorBase
/- The reference's block and mac, by the engine. -/
namespace Go.Proofs.YtombphphaoeeiaaGreatDoor
open Go.RowKit
set_option linter.unusedSimpArgs false
/-- The first i of c, noughts behind, 64 in all. -/
def zt (c : List UInt8) (i : Nat) : List UInt8 := c.take i ++ List.replicate (64 - i) 0
attribute [local irreducible] shaOf blockOf zt keyOf
attribute [local irreducible] maskTo macOf keyedOf
end Go.Proofs.YtombphphaoeeiaaGreatDoor
/- The walks of mac.Of and mac.Check, and of sha.Text. -/
namespace Go.Proofs.YtombphphaoeeiaaGreatDoor
open Go.RowKit
attribute [local irreducible] blockOf keyedOf macOf maskTo
theorem readAt_run {P : Program} {o : Oper} {a : Act} {w : World} {v : Value} (h : (execOp a.eval o).run P w = .ok (.value v) w) : readAt P o a w v := by
  unfold readAt
  rw [h]
  exact ⟨rfl, rfl⟩
set_option maxHeartbeats 1000000 in
set_option maxRecDepth 100000 in
theorem macOf_any (key : List UInt8) (A : Option Addr) (c : Nat) (l : List UInt8) (A2 : Option Addr) (c2 : Nat) (w : World) (hR : RdV w w.heap.size A (key.map vU8)) (hm : key.length ≤ 100000) (hc : key.length ≤ c)
    (hR2 : RdV w w.heap.size A2 (l.map vU8)) (hm2 : l.length ≤ 100000) (hk : LaidK 1 w) :
    Calls Tryz.prog 67 #[.slice A key.length c, .slice A2 l.length c2] w fun e w' => e = .returned (.agg (arr8 (macOf key l))) ∧ Below w.heap.size w w' := by
  have hz := zero64u8
  have hz32 := zero32u8
  have HR := Lib.hid hR
  have HR2 := Lib.hid hR2
  have HK := Lib.hid hk
  clear hR hR2 hk
  go_enter Tryz.func67, Tryz.ntmps67
  go_upto_region 1 with (fail)
  have HB1 : Hid (Below w.heap.size w (w.alloc (.cells (z8 32) 102))) := Lib.hid ((Below.refl _ _).alloc (Nat.le_refl _) _)
  have H1 : Hid (Blk (w.alloc (.cells (z8 32) 102)) w.heap.size 102 (z8 32)) := Lib.hid (Blk.new _ _ _)
  have hs1 : (w.alloc (.cells (z8 32) 102)).heap.size = w.heap.size + 1 := by simp
  generalize w.alloc (.cells (z8 32) 102) = W1 at HB1 H1 hs1 ⊢
  go_wp2_with fail
  refine (block_any key A c W1 ((HR.out.below HB1.out).more (by omega)) (by omega) hc (HK.out.below HB1.out HK.out.lt)).mono ?_
  rintro e W2 ⟨rfl, hb2⟩
  have hs2 := hb2.size
  have H12 := Lib.hid (H1.out.below hb2 (by omega))
  have HB2 := Lib.hid (HB1.out.trans (hb2.mono (by omega)))
  clear hb2 H1 HB1
  go_upto_region 2 with (refine wpList_storeA 153 64 size64u8 rfl (.tmp 5) (.tmp 8) rfl _ rfl _ rfl _ _ (Blk.new W2 _ _) (by rw [arr8_size, blockOf_length]) (by simp [z8]) (arr8_one _) (fun W3 hw3 hs3 => ?_))
  have H13 := Lib.hid ((H12.out.alloc (.cells (z8 64) 153)).setRow_far hw3.out (by omega))
  have H23 := Lib.hid ((Blk.new W2 153 (z8 64)).setRow hw3.out)
  have HB3 := Lib.hid (below_setRow (HB2.out.alloc (by omega) (.cells (z8 64) 153)) hw3.out (by omega))
  rw [show (W2.alloc (.cells (z8 64) 153)).heap.size = W2.heap.size + 1 from by simp] at hs3
  clear hw3 H12 HB2
  go_wp2_with (refine wpList_loadA 153 64 _ Tryz.underlying153 size64u8 rfl _ rfl _ rfl _ _ H23.out (by rw [arr8_size, blockOf_length]) rfl ?_)
  refine (keyed_any (blockOf key) (blockOf_length _) 54 l A2 c2 W3 ((HR2.out.below HB3.out).more (by omega)) hm2 (HK.out.below HB3.out HK.out.lt)).mono ?_
  rintro e W4 ⟨rfl, hb4⟩
  have hs4 := hb4.size
  have H14 := Lib.hid (H13.out.below hb4 (by omega))
  have H24 := Lib.hid (H23.out.below hb4 (by omega))
  have HB4 := Lib.hid (HB3.out.trans (hb4.mono (by omega)))
  clear hb4 H13 H23 HB3
  obtain ⟨inner, hin⟩ : ∃ x, x = keyedOf (blockOf key) 54 l := ⟨_, rfl⟩
  have HIN := Lib.hid hin
  have hil : Hid (inner.length = 32) := Lib.hid (by rw [hin]; exact keyedOf_length _ _ _)
  rw [← hin]
  clear hin
  go_wp2_with (refine wpList_storeA 102 32 size32u8 rfl (.tmp 6) (.tmp 11) rfl _ rfl _ rfl _ _ (Blk.new W4 _ _) (by rw [arr8_size, hil.out]) (by simp [z8]) (arr8_one _) (fun W5 hw5 hs5 => ?_))
  have H15 := Lib.hid ((H14.out.alloc (.cells (z8 32) 102)).setRow_far hw5.out (by omega))
  have H25 := Lib.hid ((H24.out.alloc (.cells (z8 32) 102)).setRow_far hw5.out (by omega))
  have H35 := Lib.hid ((Blk.new W4 102 (z8 32)).setRow hw5.out)
  have HB5 := Lib.hid (below_setRow (HB4.out.alloc (by omega) (.cells (z8 32) 102)) hw5.out (by omega))
  rw [show (W4.alloc (.cells (z8 32) 102)).heap.size = W4.heap.size + 1 from by simp] at hs5
  clear hw5 H14 H24 HB4
  refine wp_region_mix [(0, true), (1, true), (2, false), (3, false)] (by kernel_rfl) (by kernel_rfl) rfl (by kernel_rfl) (fun x => Blk x W2.heap.size 153 (arr8 (blockOf key))) (fun W6 hd => ⟨hd.out.blk H25.out, ?_⟩)
  refine wpMix_rd rfl rfl (fun K hK => ⟨_, fun x hx => readAt_run (exec_load 153 (.tmp 5) rfl _ rfl _ (hx.load 153 64 _ Tryz.underlying153 size64u8 (by rw [arr8_size, blockOf_length]) rfl)), ?_⟩)
  go_simp
  refine hK _ ?_
  clear hK K
  refine wpMix_rd rfl rfl (fun K hK => ?_)
  apply Exists.intro
  refine ⟨fun x hx => (by unfold readAt; go_simp; rfl), ?_⟩
  go_simp
  refine hK _ ?_
  clear hK K
  refine wpMix_wr rfl rfl (fun K hK => ?_)
  have hs6 : W6.heap.size = W5.heap.size := by rw [hd.out.heap]
  have hky := keyed_any (blockOf key) (blockOf_length _) 92 inner (some ⟨W4.heap.size, 0, none⟩) 32 W6 (RdV.of_blk (hd.out.blk H35.out) (by omega)) (by rw [hil.out]; omega) ((HK.out.below HB5.out HK.out.lt).below (hd.out.below (Below.refl W5.heap.size W5)) (by have := HK.out.lt; have := HB5.out.size; omega))
  rw [hil.out] at hky
  go_simp
  refine hky.mono ?_
  rintro e W7 ⟨rfl, hb7⟩
  go_simp
  have H17 := Lib.hid ((hd.out.blk H15.out).below hb7 (by omega))
  have H27 := Lib.hid ((hd.out.blk H25.out).below hb7 (by omega))
  have HB7 := Lib.hid ((hd.out.below HB5.out).trans (hb7.mono (by have := HB5.out.size; omega)))
  refine hK (fun x => Blk x W2.heap.size 153 (arr8 (blockOf key))) _ _ H27.out (fun _ h => h) ?_
  clear hK K hky hb7
  have hfin : Hid (macOf key l = keyedOf (blockOf key) 92 inner) := Lib.hid (by rw [HIN.out, macOf_eq])
  rw [← hfin.out]
  refine wpMix_wr rfl rfl (fun K hK => ?_)
  unfold Oper.wp
  rw [exec_storeA 102 32 size32u8 (.tmp 4) (.tmp 14) rfl _ rfl _ rfl _ _ H17.out (by rw [arr8_size, macOf_length]) (by simp [z8]) (arr8_one _)]
  have H28 := Lib.hid (H27.out.setRow_far (w2 := W7.setRow w.heap.size (arr8 (macOf key l))) rfl (by omega))
  refine hK (fun x => Blk x W2.heap.size 153 (arr8 (blockOf key))) _ _ H28.out (fun _ h => h) ?_
  clear hK K
  refine wpMix_nil ?_
  have hR3 := H17.out.setRow (w2 := W7.setRow w.heap.size (arr8 (macOf key l))) rfl
  go_wp2
  refine bodyPost_ret (results_cell_row rfl _ _ _ _ _ _ _ rfl hR3 Tryz.underlying102 rfl (by rw [arr8_size, macOf_length]; exact size32u8)) rfl ?_
  exact ⟨rfl, below_setRow HB7.out rfl (Nat.le_refl _)⟩

end Go.Proofs.YtombphphaoeeiaaGreatDoor
