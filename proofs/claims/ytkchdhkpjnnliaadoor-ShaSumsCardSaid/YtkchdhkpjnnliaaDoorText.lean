/- The walk of sha.Text. -/
import Derived.Test.YtkchdhkpjnnliaaDoorShaW
import Derived.Test.YtkchdhkpjnnliaaDoorBase
namespace Go.Proofs.YtkchdhkpjnnliaaDoor
open Go.RowKit
def hexd (n : Nat) : UInt8 := if n < 10 then UInt8.ofNat (48 + n) else UInt8.ofNat (87 + n)
def textTo (s : List UInt8) : Nat → List UInt8
  | 0 => []
  | k + 1 => textTo s k ++ [hexd ((ix s k).toNat / 16), hexd ((ix s k).toNat % 16)]
theorem textTo_zero (s : List UInt8) : textTo s 0 = [] := rfl
theorem textTo_succ (s : List UInt8) (k : Nat) : textTo s (k + 1) = textTo s k ++ [hexd ((ix s k).toNat / 16), hexd ((ix s k).toNat % 16)] := rfl
@[simp] theorem textTo_length (s : List UInt8) (k : Nat) : (textTo s k).length = 2 * k := by
  induction k with
  | zero => rfl
  | succ k ih => simp [textTo, ih]; omega
/-- A list of bytes as a string. -/
theorem infoU8T : (Tryd.prog.info? 5).map (fun i => (i.zero, i.size, i.bytes)) = some (some (.int .u8 0), 1, 1) := by kernel_rfl
theorem nib_lo (x : UInt8) : bits .and .u8 (n8 x) 15 = n8 x % 16 := by
  have h := w8_and x 15
  rw [show n8 15 = (15 : Int) from rfl] at h
  rw [h]
  unfold n8
  rw [UInt8.toNat_and]
  exact congrArg (fun n : Nat => (n : Int)) (Nat.and_two_pow_sub_one_eq_mod x.toNat 4)
theorem dig_all (W : World) : (List.range 16).map (fun (i : Nat) => (Instr.index 9 (.string { data := #[48, 49, 50, 51, 52, 53, 54, 55, 56, 57, 97, 98, 99, 100, 101, 102] }) (.int .u8 (Int.ofNat i))).run Tryd.prog W) = (List.range 16).map (fun i => .ok (vU8 (hexd i)) W) := by kernel_rfl
theorem dig_at (i : Nat) (hi : i < 16) (W : World) : (Instr.index 9 (.string { data := #[48, 49, 50, 51, 52, 53, 54, 55, 56, 57, 97, 98, 99, 100, 101, 102] }) (.int .u8 (i : Int))).run Tryd.prog W = .ok (vU8 (hexd i)) W := by
  have h := congrArg (fun l => l[i]?) (dig_all W)
  simpa [hi] using h
attribute [local irreducible] textTo hexd

set_option maxHeartbeats 1000000 in
set_option maxRecDepth 100000 in
theorem text_any (s : List UInt8) (hs : s.length = 32) (w : World) :
    Calls Tryd.prog 33 #[.agg (arr8 s)] w fun e w' => e = .returned (.string (bstr (textTo s 32))) ∧ Below w.heap.size w w' := by
  have HS := Lib.hid hs
  clear hs
  go_enter Tryd.func33, Tryd.ntmps33
  go_upto_region 1 with (fail)
  have HB1 : Hid (Below w.heap.size w (w.alloc (.cells (arr8 s) 23))) := Lib.hid ((Below.refl _ _).alloc (Nat.le_refl _) _)
  have H1 : Hid (Blk (w.alloc (.cells (arr8 s) 23)) w.heap.size 23 (arr8 s)) := Lib.hid (Blk.new _ _ _)
  have hs1 : (w.alloc (.cells (arr8 s) 23)).heap.size = w.heap.size + 1 := by simp
  generalize w.alloc (.cells (arr8 s) 23) = W1 at HB1 H1 hs1 ⊢
  obtain ⟨i0, hi, hz0, hz1, hz2⟩ := info_parts infoU8T
  obtain ⟨W2, hmk, hown, hgr⟩ := run_make_own (P := Tryd.prog) W1 (w.heap.size + 1) 27 5 i0 (.int .u8 0) 1 Tryd.underlying27 hi hz0 hz1 .i64 .i64 64 (by rw [hz2]; omega) (by unfold maxLen; omega) (by omega)
  have hmk' : (Instr.makeSlice 27 (.int .i64 0) (.int .i64 64)).run Tryd.prog W1 = .ok (.slice (some ⟨W1.heap.size, 0, none⟩) 0 64) W2 := hmk
  clear hmk hi hz0 hz1 hz2
  have H12 := Lib.hid ((keeps_of_grown hgr).blk H1.out (by simp))
  have HB2 := Lib.hid (HB1.out.trans ((keeps_of_grown hgr).below (n := w.heap.size) (by omega) (fun k e => by cases e)))
  have hown0 : Own W2 (w.heap.size + 1) 5 (.slice (some ⟨W1.heap.size, 0, none⟩) 0 64) [] := hown
  have HO := Lib.hid hown0
  clear hown hown0 hgr
  go_upto_region 2 with (fail)
  apply wp_region_lit
  refine wpList_loadA 23 32 _ Tryd.underlying23 size32u8 rfl _ rfl _ rfl _ _ H12.out (by rw [arr8_size, HS.out]) rfl ?_
  go_wp2_with fail
  go_loopw [3, 8] (fun v i wr => ∃ k : Nat, k ≤ 32 ∧ i = .int .i64 k ∧ Own wr (w.heap.size + 1) 5 v ((textTo s k).map vU8) ∧ Below w.heap.size w wr) (fun _ i _ => 32 - (intOf i).toNat)
  case atStart => exact ⟨0, by omega, rfl, by rw [textTo_zero]; have h := HO.out; rw [hs1] at h; exact h, HB2.out⟩
  case round =>
    obtain ⟨k, hk, rfl, hown, hb⟩ := hrel
    have hsz := hb.size
    by_cases hlt : k < 32
    · have HO := Lib.hid hown
      have HBB := Lib.hid hb
      have hix := run_index_agg (P := Tryd.prog) 23 5 32 _ (arr8 s) .i64 k _ Tryd.underlying23 Tryd.underlying5 rfl hlt (arr8_get s k (by rw [HS.out]; exact hlt)) size1u8
      obtain ⟨x, hx⟩ : ∃ x, x = ix s k := ⟨_, rfl⟩
      have hsucc := Lib.hid (textTo_succ s k)
      rw [← hx] at hix hsucc
      clear hx
      have hlo := w8_lt x
      have hd1 := dig_at (x.toNat / 16) (by omega)
      have hd2 := dig_at (x.toNat % 16) (by omega)
      rw [show ((x.toNat / 16 : Nat) : Int) = n8 x / 16 from rfl] at hd1
      rw [show ((x.toNat % 16 : Nat) : Int) = n8 x % 16 from rfl] at hd2
      have hnb := n8_bd x
      have hnl := nib_lo x
      clear hown hb
      go_wp2_with fail
      refine wp_region_mix [(0, true), (1, true), (2, true), (3, true), (4, true), (5, true), (6, true), (7, false), (8, false), (9, true)] (by kernel_rfl) (by kernel_rfl) rfl (by kernel_rfl) (fun x => True) (fun w2 hd => ⟨trivial, ?_⟩)
      repeat
        refine wpMix_rd rfl rfl (fun K hK => ?_)
        apply Exists.intro
        refine ⟨fun x hx => ?_, ?_⟩
        · unfold readAt
          go_simp
          try go_bits
          rfl
        go_simp
        refine hK _ ?_
        clear hK K
      have hb2 := hd.out.below HBB.out
      have hsz2 := hb2.size
      obtain ⟨v', w3, hrun, hown3, hk3, hob⟩ := run_appendR (P := Tryd.prog) (w2.alloc (.cells #[vU8 (hexd (x.toNat / 16)), vU8 (hexd (x.toNat % 16))] 5)) (w.heap.size + 1) 27 5 1 Tryd.underlying27 (.int .u8 0) rfl infoU8T _ _
        ((HO.out.drawn hd.out).later ((Below.refl _ _).alloc (Nat.le_refl _) _)) (some ⟨w2.heap.size, 0, none⟩) 2 2 (w2.heap.size + 1) [vU8 (hexd (x.toNat / 16)), vU8 (hexd (x.toNat % 16))] (fun _ => ⟨w2.heap.size, 0, rfl, by omega, fun i u hu => by rw [Nat.zero_add]; exact ((Blk.new w2 _ _).cell i).trans (by simpa using hu)⟩) rfl (by simp [Value.oneCell'])
        (small_maxLen (by simp; omega)) (by simp; omega) (by simp; have := HO.out.rd; omega)
      have hb3 : Below w.heap.size w w3 := (hb2.alloc hsz2 _).trans (hk3.below (by simp; omega) (fun k hk => by have := ((HO.out.drawn hd.out).lt k hk).1; omega))
      have H3 := Lib.hid hown3
      have HB3 := Lib.hid hb3
      clear hown3 hb3 hob hk3 hb2
      refine wpMix_wr rfl rfl (fun K hK => ?_)
      go_simp
      refine hK (fun x => True) _ _ trivial (fun _ h => h) ?_
      clear hK K
      refine wpMix_wr rfl rfl (fun K hK => ?_)
      refine wp_run (exec_append (.tmp 11) (.tmp 18) 27 rfl _ _ rfl rfl _ _ (hrun _)) ?_
      go_simp
      refine hK (fun x => True) _ _ trivial (fun _ h => h) ?_
      clear hK K
      refine wpMix_rd rfl rfl (fun K hK => ?_)
      apply Exists.intro
      refine ⟨fun x hx => (by unfold readAt; go_simp; rfl), ?_⟩
      go_simp
      refine hK _ ?_
      clear hK K
      refine wpMix_nil ?_
      go_wp2
      go_roundw
      case rel =>
        refine ⟨k + 1, by omega, by go_num, ?_, HB3.out⟩
        have h3' := H3.out
        rw [hsucc.out, List.map_append]
        exact h3'
      case measure => simp [intOf]; omega
    · obtain rfl : k = 32 := by omega
      obtain ⟨A3, c3, rfl, hl3, hc3, hR3, _⟩ := hown.rd
      have hcv := conv_str (P := Tryd.prog) (textTo s 32) c3 27 5 Tryd.underlying27 Tryd.underlying5 hR3 9 Tryd.underlying9
      rw [textTo_length] at hcv
      have HBB := Lib.hid hb
      simp only [List.length_map, textTo_length]
      clear hown hR3 hb hl3
      go_wp2
      go_ret
      exact ⟨rfl, HBB.out⟩
end Go.Proofs.YtkchdhkpjnnliaaDoor
