/- The walk of sha.blocks and of the iterator that it makes. -/
import Derived.Test.YtkchdhkpjnnliaaDoorSha2
import Derived.Test.YtkchdhkpjnnliaaDoorRf
namespace Go.Proofs.YtkchdhkpjnnliaaDoor
open Go.RowKit
attribute [local go_sem] Oper.semAt_some w64_self

/-- sha.blocks boxes its bytes and hands back a closure over the box. -/
theorem blocks_any (A : Option Addr) (len cap : Nat) (w : World) :
    Calls Tryd.prog 66 #[.slice A len cap] w fun e w' => e = .returned (.func (.func 83) #[] #[.pointer (some ⟨w.heap.size, 0, none⟩)]) ∧ w.alloc (.cells #[.slice A len cap] 27) = w' := by
  go_enter Tryd.func66, Tryd.ntmps66
  go_wp2
  go_ret
  exact ⟨rfl, rfl⟩

theorem zero64u8 (W : World) : (zeroValue 44).run Tryd.prog W = .ok (.agg (z8 64)) W := by kernel_rfl

set_option maxHeartbeats 1000000 in
set_option maxRecDepth 100000 in
theorem iter_any (n : Nat) (w0 : World) (bs : List UInt8) (A : Option Addr) (c Bn n0 : Nat) (hm : bs.length ≤ 140737488355328) (hc : bs.length ≤ c) (hBn : Bn < w0.heap.size) (hn0 : n0 ≤ w0.heap.size)
    (hcell : w0.cell? ⟨Bn, 0, none⟩ = some (.slice A bs.length c)) (hR0 : RdV w0 n0 A (bs.map vU8)) :
    SeqAll n Tryd.prog 83 #[.pointer (some ⟨Bn, 0, none⟩)] enc64 (chunks bs) w0 (fun k => k < n0 ∨ k = Bn) := by
  intro l own J W hW hown hJ hY hJ0
  have hcW : W.cell? ⟨Bn, 0, none⟩ = some (.slice A bs.length c) := (hW.cell (p := ⟨Bn, 0, none⟩) hBn).trans hcell
  have hRW : RdV W n0 A (bs.map vU8) := (hR0.more hn0).below hW |>.keep (fun _ _ => rfl) |> fun _ => hR0.keep fun b hb => hW.block b (by omega)
  have hsW : w0.heap.size ≤ W.heap.size := hW.size
  have HBn : ¬ own Bn := fun h => (hown Bn h).2 (Or.inr rfl)
  have Hn0 : ∀ k, k < n0 → ¬ own k := fun k hk h => (hown k h).2 (Or.inl hk)
  have Hown := Lib.hid (fun k (h : own k) => (hown k h).1)
  have HJ0 := Lib.hid hJ0
  have HJ := Lib.hid hJ
  have HY := Lib.hid hY
  clear hJ0 hJ hY hown hcell hR0
  refine callsIn_of_wp Tryd.func83 rfl trivial ?_ rfl
  simp only [Tryd.ntmps83, List.size_toArray, List.length_cons, List.length_nil, Nat.reduceAdd, Nat.reduceSub, Array.replicate_succ, Array.replicate_zero, List.push_toArray, List.append_toArray, List.nil_append, List.cons_append]
  gi_wp2
  gi_loopw [3] (fun p wr => ∃ (k : Nat) (A' : Option Addr) (c' : Nat), 64 * k ≤ bs.length ∧ bs.length - 64 * k ≤ c' ∧ p = .slice A' (bs.length - 64 * k) c' ∧ RdV wr n0 A' ((bs.drop (64 * k)).map vU8) ∧ J k wr ∧ Keeps own W wr) (fun p _ => match p with | .slice _ m _ => m | _ => 0)
  case atStart => exact ⟨0, A, c, by omega, by omega, rfl, by simpa using hRW, HJ0.out, Keeps.refl _ _⟩
  case round =>
    obtain ⟨k, A', c', hk, hkc, rfl, hR, hJk, hKk⟩ := hrel
    have hcl : wr.cell? ⟨Bn, 0, none⟩ = some (.slice A bs.length c) := (World.cell?_of_block (hKk.block Bn (by omega) HBn)).trans hcW
    by_cases hlt : 64 ≤ bs.length - 64 * k
    · obtain ⟨b, off, rfl, hb, hcs⟩ := hR (by simp; omega)
      have h64 : (64 : Int) ≤ c' := by omega
      have hlen : ((bs.drop (64 * k)).take 64).length = 64 := by simp; omega
      have hload : (loadVar 44 ⟨b, off, none⟩).run Tryd.prog wr = .ok (.agg (arr8 ((bs.drop (64 * k)).take 64))) wr := by
        have := run_loadArr (P := Tryd.prog) (w := wr) 44 ⟨b, off, none⟩ (((bs.drop (64 * k)).take 64).map vU8) _ Tryd.underlying44 rfl (by rw [List.length_map, hlen]; exact size64u8)
          (fun j v hv => by
            rw [add_plain]
            apply hcs
            rw [List.map_take, List.getElem?_take] at hv
            split at hv
            · exact hv
            · cases hv)
        exact this
      have hx := chunks_full bs k (by omega)
      obtain ⟨fn, tmps, assign, body, hy, hr⟩ := HY.out k _ wr hx hJk hKk.size
      have he : enc64 (b64 ((bs.drop (64 * k)).take 64)) = #[.agg (arr8 ((bs.drop (64 * k)).take 64))] := by unfold enc64; rw [b64_val hlen]
      rw [he] at hy
      have hap := fun W' : World => run_arrayAt (P := Tryd.prog) (w := W') 44 5 64 (some ⟨b, off, none⟩) 64 c' Tryd.underlying44 (by omega)
      have HL := Lib.hid hload
      have HCS := Lib.hid hcs
      have HJk := Lib.hid hJk
      clear hload hcs hJk he hx
      gi_wp2_with (refine wpListIn_run (fun _ => trivial) rfl (by intro c h; cases h) (exec_load 44 (.tmp 15) rfl _ rfl _ HL.out) ?_)
      refine ⟨fun h => by simp [Fence.wide] at h, hr.mono ?_⟩
      rintro e W' ⟨rfl, hJ1, hK1⟩
      have HJ1 := Lib.hid hJ1
      have HK1 := Lib.hid hK1
      clear hJ1 hK1 hcl hy hr
      have hcl : W'.cell? ⟨Bn, 0, none⟩ = some (.slice A bs.length c) := (World.cell?_of_block (HK1.out.block Bn (by have := hKk.size; omega) HBn)).trans ((World.cell?_of_block (hKk.block Bn (by omega) HBn)).trans hcW)
      gi_wp2
      go_roundw
      case rel =>
        refine ⟨k + 1, if c' = 64 then some ⟨b, off, none⟩ else some ⟨b, off + 64, none⟩, c' - 64, by omega, by omega, ?_, ?_, HJ1.out, hKk.trans HK1.out⟩
        · rw [show bs.length - 64 * k - 64 = bs.length - 64 * (k + 1) from by omega]
        · intro hp
          have hne : c' ≠ 64 := by simp at hp; omega
          rw [if_neg hne]
          refine ⟨b, off + 64, rfl, hb, fun j u hu => ?_⟩
          rw [show off + 64 + j = off + (64 + j) from by omega]
          refine (World.cell?_of_block (HK1.out.block b ?_ (Hn0 b hb))).trans (HCS.out (64 + j) u ?_)
          · have := hKk.size; omega
          · rw [← hu]
            simp only [List.getElem?_map, List.getElem?_drop]
            rw [show 64 * k + (64 + j) = 64 * (k + 1) + j from by omega]
      case measure => simp; omega
    · have hz := zero64u8
      have hRV := Lib.hid hR
      have HJk := Lib.hid hJk
      have HKk := Lib.hid hKk
      have hsk := hKk.size
      clear hR hJk hKk
      obtain ⟨r, hr⟩ : ∃ r, r = bs.drop (64 * k) := ⟨_, rfl⟩
      have HR := Lib.hid hr
      have hrl : r.length = bs.length - 64 * k := by rw [hr]; simp
      have hrq : Hid (k = bs.length / 64) := Lib.hid (by omega)
      have htl := Lib.hid (chunks_tail bs k)
      rw [← hr] at hRV htl
      have hrl' := Lib.hid hrl
      clear hr
      obtain ⟨m, hm1⟩ : ∃ m, m = bs.length - 64 * k := ⟨_, rfl⟩
      rw [← hm1] at hrl' hrl hkc hlt ⊢
      have hml : m < 64 := by omega
      have hcW2 : Hid ((wr.alloc (.cells (z8 64) 44)).cell? ⟨Bn, 0, none⟩ = some (.slice A bs.length c)) := Lib.hid ((World.cell?_alloc_lt _ _ ⟨Bn, 0, none⟩ (by show Bn < _; omega)).trans hcl)
      have hb2 : Hid (Blk (wr.alloc (.cells (z8 64) 44)) wr.heap.size 44 (z8 64)) := Lib.hid (Blk.new _ _ _)
      have hk2 : Hid (Keeps own wr (wr.alloc (.cells (z8 64) 44))) := Lib.hid (Keeps.of_below ((Below.refl _ _).alloc (Nat.le_refl _) _))
      have hR2 : Hid (RdV (wr.alloc (.cells (z8 64) 44)) n0 A' (r.map vU8)) := Lib.hid (hRV.out.keep fun b hb => Below.heap_alloc wr _ b (by omega))
      have hs2 : Hid ((wr.alloc (.cells (z8 64) 44)).heap.size = wr.heap.size + 1) := Lib.hid (by simp)
      obtain ⟨Bk, hBk⟩ : ∃ Bk, Bk = wr.heap.size := ⟨_, rfl⟩
      have hBk' := Lib.hid hBk
      clear hm1 hrl hcl
      obtain ⟨W3, hcopy, hb3, hk3⟩ := run_copyR (P := Tryd.prog) (wr.alloc (.cells (z8 64) 44)) 27 27 5 wr.heap.size 0 64 64 A' m c' n0 ((List.replicate 64 (0 : UInt8)).map vU8) 44 (r.map vU8)
        Tryd.underlying27 size1u8 hb2.out (by rw [List.length_map, hrl'.out]; simp only [Nat.min_def]; rw [if_pos (by omega)]) hR2.out (by rw [List.length_map, List.length_map, hrl'.out]; simp; omega) (oneCell_u8 r)
      have hb3' : Blk W3 wr.heap.size 44 (arr8 (r ++ List.replicate (64 - m) 0)) := by
        have e := splice_zeros r m 64 hrl'.out
        rw [e] at hb3
        exact hb3
      clear hb3 hR2 hb2 hRV
      rw [List.length_map, hrl'.out] at hcopy
      have hs3 := hk3.size
      rw [hs2.out] at hs3
      have hc3 : W3.cell? ⟨wr.heap.size, m, none⟩ = some (vU8 (ix (r ++ List.replicate (64 - m) 0) m)) := (hb3'.cell m).trans (arr8_get _ _ (by simp [hrl'.out]; omega))
      have hf3 := hb3'.frozen m
      have HC := Lib.hid hcopy
      have HB3 := Lib.hid hb3'
      have HK3 := Lib.hid hk3
      clear hcopy hb3' hk3
      -- the block, a byte 128 behind what is left
      have hb4 : Hid (Blk (W3.setCell ⟨wr.heap.size, m, none⟩ (.int .u8 128)) wr.heap.size 44 (arr8 (pad64 r))) := by
        have := HB3.out.set_ m (vU8 128)
        rw [arr8_set] at this
        have e : pad64 r = (r ++ List.replicate (64 - m) 0).set m 128 := by unfold pad64; rw [hrl'.out]
        rw [e]
        exact Lib.hid this
      have hs4 : (W3.setCell ⟨wr.heap.size, m, none⟩ (.int .u8 128)).heap.size = W3.heap.size := by simp [World.setCell]
      have hk4 : Hid (Keeps (fun k => own k ∨ W.heap.size ≤ k) W (W3.setCell ⟨wr.heap.size, m, none⟩ (.int .u8 128))) := Lib.hid (((HKk.out.trans hk2.out).mono (fun _ h => Or.inl h)).trans ((HK3.out.mono (fun k h => Or.inr (by omega))).trans (Keeps.setCell _ _ _ (Or.inr hsk))))
      have hJ4 : Hid (J k (W3.setCell ⟨wr.heap.size, m, none⟩ (.int .u8 128))) := Lib.hid (HJ.out k wr _ HJk.out hsk (by
        have h1 : Keeps (fun k => W.heap.size ≤ k) wr (W3.setCell ⟨wr.heap.size, m, none⟩ (.int .u8 128)) := ((Keeps.of_below ((Below.refl _ _).alloc (Nat.le_refl _) _)).trans (HK3.out.mono (fun k h => by omega))).trans (Keeps.setCell _ _ _ hsk)
        exact h1.below hsk (fun k h => h)))
      clear hk2 hcW2
      have hmany : ((bs.length : Int) * 8) = n64 (bitsOf bs) := count_bits _ hm
      have hpl : (pad64 r).length = 64 := pad64_length (by rw [hrl'.out]; exact hml)
      have HPL := Lib.hid hpl
      have hcx4 : (W3.setCell ⟨wr.heap.size, m, none⟩ (.int .u8 128)).cell? ⟨Bn, 0, none⟩ = some (.slice A bs.length c) :=
        (World.cell?_of_block (hk4.out.block Bn (by omega) (fun h => h.elim HBn (fun h => by omega)))).trans hcW
      have hsx4 : W.heap.size ≤ (W3.setCell ⟨wr.heap.size, m, none⟩ (.int .u8 128)).heap.size := by rw [hs4]; omega
      have hlt4 : wr.heap.size < (W3.setCell ⟨wr.heap.size, m, none⟩ (.int .u8 128)).heap.size := by rw [hs4]; omega
      have HS4 := Lib.hid hs4
      clear hpl hs4
      by_cases h56 : 56 < m + 1
      · have HL4 := hb4.out.load (P := Tryd.prog) 44 64 _ Tryd.underlying44 size64u8 (by rw [arr8_size, HPL.out]) rfl
        have hx0 := htl.out 0 hrq.out
        have hx1 := htl.out 1 hrq.out
        rw [tails_big r _ (by rw [hrl'.out]; exact h56)] at hx0 hx1
        have hend : Hid ((chunks bs).length = k + 1 + 1) := by
          have := chunks_length bs
          rw [← hrq.out, ← HR.out, tails_big r _ (by rw [hrl'.out]; exact h56)] at this
          exact Lib.hid this
        obtain ⟨fn, tmps, assign, body, hy, hr⟩ := HY.out k _ _ hx0 hJ4.out hsx4
        have he : enc64 (b64 (pad64 r)) = #[.agg (arr8 (pad64 r))] := by unfold enc64; rw [b64_val HPL.out]
        rw [he] at hy
        have HLX := Lib.hid HL4
        have htx : Hid ((chunks bs)[k + 1]? = some (b64 (setLen (zb 64) (bitsOf bs) 8))) := Lib.hid hx1
        clear HL4 he hx0 hx1
        gi_wp2_with (first
          | (refine wpListIn_run (fun _ => trivial) rfl (by intro c h; cases h) (exec_copy (.tmp 21) (.tmp 22) 27 27 rfl _ _ rfl rfl _ _ (HC.out _)) ?_)
          | (refine wpListIn_run (fun _ => trivial) rfl (by intro c h; cases h) (exec_load 44 (.tmp 4) rfl _ rfl _ HLX.out) ?_))
        refine ⟨fun h => by simp [Fence.wide] at h, hr.mono ?_⟩
        rintro e W5 ⟨rfl, hJ5, hk5⟩
        have HJ5 := Lib.hid hJ5
        have HK5 := Lib.hid hk5
        clear hJ5 hk5 hy hr
        have hb5 : Hid (Blk W5 wr.heap.size 44 (arr8 (pad64 r))) := Lib.hid ((HK5.out.blk hb4.out) (fun h => by have := Hown.out _ h; omega))
        have hk5 : Hid (Keeps (fun k => own k ∨ W.heap.size ≤ k) W W5) := Lib.hid (hk4.out.trans (HK5.out.mono (fun _ h => Or.inl h)))
        have hs5 := HK5.out.size
        have hlt5 : wr.heap.size < W5.heap.size := by omega
        obtain ⟨wx, hwx⟩ : ∃ wx, wx = W5.setRow wr.heap.size (z8 64) := ⟨_, rfl⟩
        have hbx : Hid (Blk wx wr.heap.size 44 (arr8 (zb 64))) := Lib.hid (hb5.out.setRow hwx)
        have hkx : Hid (Keeps (fun k => own k ∨ W.heap.size ≤ k) W wx) := Lib.hid (hk5.out.trans (by rw [hwx]; exact Keeps.setRow _ (Or.inr hsk)))
        have hJx : Hid (J (k + 1) wx) := Lib.hid (HJ.out _ W5 _ HJ5.out (by omega) (by rw [hwx]; exact (Keeps.setRow (own := fun k => W.heap.size ≤ k) W5 hsk).below (by omega) (fun k h => h)))
        have hcx : wx.cell? ⟨Bn, 0, none⟩ = some (.slice A bs.length c) :=
          (World.cell?_of_block (hkx.out.block Bn (by omega) (fun h => h.elim HBn (fun h => by omega)))).trans hcW
        have hsx : W.heap.size ≤ wx.heap.size := hkx.out.size
        have hltx : wr.heap.size < wx.heap.size := by rw [hwx]; simpa using hlt5
        have HWX := Lib.hid hwx
        clear hwx hcx4 hc3 hf3
        gi_wp2_with (refine wpListIn_runSkip (fun _ => trivial) rfl (by intro c h; cases h) (exec_storeA 44 64 size64u8 (.tmp 4) (.tmp 33) rfl _ rfl (z8 64) rfl _ _ hb5.out (by simp [z8]) (by rw [arr8_size, HPL.out]) (arr8_one _)) ?_; rw [← HWX.out])
        clear HC HB3 HK3 hs3 hmany
        gi_loopw [38] (fun c wy => ∃ i : Nat, i ≤ 8 ∧ c = .int .i64 i ∧ Blk wy wr.heap.size 44 (arr8 (setLen (zb 64) (bitsOf bs) i)) ∧ Keeps (· = wr.heap.size) wx wy) (fun c _ => 8 - (intOf c).toNat)
        case atStart => exact ⟨0, by omega, rfl, hbx.out, Keeps.refl _ _⟩
        case round =>
          obtain ⟨i, hi, rfl, hbi, hki⟩ := hrel
          have hsl : (setLen (zb 64) (bitsOf bs) i).length = 64 := by rw [setLen_length]; exact (by simp)
          by_cases hlt8 : i < 8
          · have hci := hbi.cell (63 - i)
            rw [arr8_get _ _ (by rw [hsl]; omega)] at hci
            have hfi := hbi.frozen (63 - i)
            have hby := byte_of (bitsOf bs) i hlt8
            have HBI := Lib.hid hbi
            have HKI := Lib.hid hki
            have HSL := Lib.hid hsl
            clear hbi hki hsl
            gi_wp2
            go_roundw
            case rel =>
              have hn := HBI.out.set_ (63 - i) (vU8 (shB (bitsOf bs) i))
              rw [arr8_set] at hn
              exact ⟨i + 1, by omega, by go_num, hn, HKI.out.trans (Keeps.setCell _ _ _ rfl)⟩
            case measure => simp [intOf]; omega
          · obtain rfl : i = 8 := by omega
            rename World => wy
            have HL9 := Lib.hid (hbi.load (P := Tryd.prog) 44 64 _ Tryd.underlying44 size64u8 (by rw [arr8_size, hsl]) rfl)
            have hJ9 : J (k + 1) wy := HJ.out _ wx _ hJx.out hsx (hki.below (by omega) (fun k h => by omega))
            obtain ⟨fn9, tmps9, assign9, body9, hy9, hr9⟩ := HY.out (k + 1) _ _ htx.out hJ9 (by have := hki.size; omega)
            have he : enc64 (b64 (setLen (zb 64) (bitsOf bs) 8)) = #[.agg (arr8 (setLen (zb 64) (bitsOf bs) 8))] := by unfold enc64; rw [b64_val hsl]
            rw [he] at hy9
            clear he hbi hki hsl hJ9
            gi_wp2_with (refine wpListIn_run (fun _ => trivial) rfl (by intro c h; cases h) (exec_load 44 (.tmp 4) rfl _ rfl _ HL9.out) ?_)
            refine ⟨fun h => by simp [Fence.wide] at h, hr9.mono ?_⟩
            rintro e W9 ⟨rfl, hJ9, hk9⟩
            have HJ9 := Lib.hid hJ9
            clear hJ9 hk9 hy9 hr9
            gi_wp2
            go_end0
            exact ⟨⟨_, rfl⟩, by rw [hend.out]; exact HJ9.out⟩
      · have hx0 := htl.out 0 hrq.out
        rw [tails_small r _ (by rw [hrl'.out]; exact h56)] at hx0
        have hend : Hid ((chunks bs).length = k + 1) := by
          have := chunks_length bs
          rw [← hrq.out, ← HR.out, tails_small r _ (by rw [hrl'.out]; exact h56)] at this
          exact Lib.hid this
        have htx : Hid ((chunks bs)[k]? = some (b64 (setLen (pad64 r) (bitsOf bs) 8))) := Lib.hid hx0
        clear hx0
        gi_wp2_with (refine wpListIn_run (fun _ => trivial) rfl (by intro c h; cases h) (exec_copy (.tmp 21) (.tmp 22) 27 27 rfl _ _ rfl rfl _ _ (HC.out _)) ?_)
        obtain ⟨wx, hwx⟩ : ∃ wx, W3.setCell ⟨wr.heap.size, m, none⟩ (.int .u8 128) = wx := ⟨_, rfl⟩
        rw [hwx] at hcx4 hsx4 hlt4 hb4 hk4 hJ4 ⊢
        clear hwx hc3 hf3
        have hbx := hb4
        have hkx := hk4
        have hJx := hJ4
        have hsx := hsx4
        have hltx := hlt4
        clear hb4 hk4 hJ4
        clear HC HB3 HK3 hs3 hmany
        gi_loopw [38] (fun c wy => ∃ i : Nat, i ≤ 8 ∧ c = .int .i64 i ∧ Blk wy wr.heap.size 44 (arr8 (setLen (pad64 r) (bitsOf bs) i)) ∧ Keeps (· = wr.heap.size) wx wy) (fun c _ => 8 - (intOf c).toNat)
        case atStart => exact ⟨0, by omega, rfl, hbx.out, Keeps.refl _ _⟩
        case round =>
          obtain ⟨i, hi, rfl, hbi, hki⟩ := hrel
          have hsl : (setLen (pad64 r) (bitsOf bs) i).length = 64 := by rw [setLen_length]; exact HPL.out
          by_cases hlt8 : i < 8
          · have hci := hbi.cell (63 - i)
            rw [arr8_get _ _ (by rw [hsl]; omega)] at hci
            have hfi := hbi.frozen (63 - i)
            have hby := byte_of (bitsOf bs) i hlt8
            have HBI := Lib.hid hbi
            have HKI := Lib.hid hki
            have HSL := Lib.hid hsl
            clear hbi hki hsl
            gi_wp2
            go_roundw
            case rel =>
              have hn := HBI.out.set_ (63 - i) (vU8 (shB (bitsOf bs) i))
              rw [arr8_set] at hn
              exact ⟨i + 1, by omega, by go_num, hn, HKI.out.trans (Keeps.setCell _ _ _ rfl)⟩
            case measure => simp [intOf]; omega
          · obtain rfl : i = 8 := by omega
            rename World => wy
            have HL9 := Lib.hid (hbi.load (P := Tryd.prog) 44 64 _ Tryd.underlying44 size64u8 (by rw [arr8_size, hsl]) rfl)
            have hJ9 : J (k) wy := HJ.out _ wx _ hJx.out hsx (hki.below (by omega) (fun k h => by omega))
            obtain ⟨fn9, tmps9, assign9, body9, hy9, hr9⟩ := HY.out (k) _ _ htx.out hJ9 (by have := hki.size; omega)
            have he : enc64 (b64 (setLen (pad64 r) (bitsOf bs) 8)) = #[.agg (arr8 (setLen (pad64 r) (bitsOf bs) 8))] := by unfold enc64; rw [b64_val hsl]
            rw [he] at hy9
            clear he hbi hki hsl hJ9
            gi_wp2_with (refine wpListIn_run (fun _ => trivial) rfl (by intro c h; cases h) (exec_load 44 (.tmp 4) rfl _ rfl _ HL9.out) ?_)
            refine ⟨fun h => by simp [Fence.wide] at h, hr9.mono ?_⟩
            rintro e W9 ⟨rfl, hJ9, hk9⟩
            have HJ9 := Lib.hid hJ9
            clear hJ9 hk9 hy9 hr9
            gi_wp2
            go_end0
            exact ⟨⟨_, rfl⟩, by rw [hend.out]; exact HJ9.out⟩
end Go.Proofs.YtkchdhkpjnnliaaDoor
