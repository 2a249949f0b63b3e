/- The walk of sha.more. -/
import Derived.Test.YtkchdhkpjnnliaaDoorSha1
namespace Go.Proofs.YtkchdhkpjnnliaaDoor
open Go.RowKit
attribute [local go_sem] w32_xor w32_or w32_and w32_andNot w32_add

theorem zeroState (W : World) : (zeroValue 104).run Tryd.prog W = .ok (.agg (z32 8)) W := by kernel_rfl
theorem size8u32 : (Tryd.prog.info? 104).map (·.size) = some 8 := by kernel_rfl
theorem size1u32 : (Tryd.prog.info? 70).map (·.size) = some 1 := by kernel_rfl

set_option maxHeartbeats 1000000 in
set_option maxRecDepth 100000 in
theorem more_any (s : St) (b : List UInt8) (hb : b.length = 64) (w : World) (hk : LaidK 0 w) :
    Calls Tryd.prog 67 #[.agg (arr32 s.list), .agg (arr8 b)] w fun e w' => e = .returned (.agg (arr32 (moreOf s b).list)) ∧ Below w.heap.size w w' := by
  have hz := zeroWords
  have hz8 := zeroState
  have HB := Lib.hid hb
  have HK := Lib.hid hk
  clear hb hk
  go_enter Tryd.func67, Tryd.ntmps67
  go_upto_region 1 with (fail)
  obtain ⟨W1, hW1⟩ : ∃ W1 : World, (((w.alloc (.cells (arr32 s.list) 104)).alloc (.cells (arr8 b) 44)).alloc (.cells (z32 8) 104)) = W1 := ⟨_, rfl⟩
  have hB1 : Below w.heap.size w W1 := by subst hW1; exact (((Below.refl _ _).alloc (Nat.le_refl _) _).alloc (by simp) _).alloc (by simp; omega) _
  have hs1 : Hid (W1.heap.size = w.heap.size + 1 + 1 + 1) := by subst hW1; exact Lib.hid (by simp)
  have b1 : Blk W1 w.heap.size 104 (arr32 s.list) := by subst hW1; exact (((Blk.new _ _ _).alloc _).alloc _)
  have b2 : Blk W1 (w.heap.size + 1) 44 (arr8 b) := by subst hW1; exact ((Blk.new' _ _ _ (by simp)).alloc _)
  have b3 : Blk W1 (w.heap.size + 1 + 1) 104 (z32 8) := by subst hW1; exact (Blk.new' _ _ _ (by simp))
  rw [hW1]
  clear hW1
  have H1 := Lib.hid b1
  have H2 := Lib.hid b2
  have H3 := Lib.hid b3
  clear b1 b2 b3
  apply wp_region_lit
  refine wpList_loadA 44 64 _ Tryd.underlying44 size64u8 rfl _ rfl _ rfl _ (arr8 b) H2.out (by rw [arr8_size, HB.out]) rfl ?_
  go_wp2_with fail
  refine (words_any b HB.out _).mono ?_
  rintro e W2 ⟨rfl, hb2⟩
  have hs2 := hb2.size
  have hb2' := Lib.hid hb2
  clear hb2
  go_wp2_with (refine wpList_storeA 121 64 size64u32 rfl (.tmp 5) (.tmp 24) rfl _ rfl _ rfl _ (z32 64) (Blk.new' _ _ _ rfl) (by simp [wordsOf]) (by simp [z32]) (arr32_one _) (fun W3 hw3 hs3 => ?_))
  have HS3 := Lib.hid hs3
  clear hs3
  have hs1' := hs1.out
  have a1 := (((H1.out.below hb2'.out (by omega)).alloc (.cells (z32 64) 121)).setRow_far hw3.out (by omega))
  have a3 := (((H3.out.below hb2'.out (by omega)).alloc (.cells (z32 64) 121)).setRow_far hw3.out (by omega))
  have aw := (Blk.new W2 121 (z32 64)).setRow hw3.out
  have hB3 : Below w.heap.size w W3 := below_setRow ((hB1.trans (hb2'.out.mono (by omega))).alloc (by omega) _) hw3.out (by omega)
  have hK3 := HK.out.below hB3 HK.out.lt
  have hge : w.heap.size + 1 + 1 + 1 ≤ W2.heap.size := by omega
  clear hs1' hs1
  obtain ⟨Bw, hBw⟩ : ∃ Bw, Bw = W2.heap.size := ⟨_, rfl⟩
  rw [← hBw] at aw hge
  have c0 : W3.cell? ⟨w.heap.size, 0, none⟩ = some (vU32 s.a) := a1.cell 0
  have c1 : W3.cell? ⟨w.heap.size, 1, none⟩ = some (vU32 s.b) := a1.cell 1
  have c2 : W3.cell? ⟨w.heap.size, 2, none⟩ = some (vU32 s.c) := a1.cell 2
  have c3 : W3.cell? ⟨w.heap.size, 3, none⟩ = some (vU32 s.d) := a1.cell 3
  have c4 : W3.cell? ⟨w.heap.size, 4, none⟩ = some (vU32 s.e) := a1.cell 4
  have c5 : W3.cell? ⟨w.heap.size, 5, none⟩ = some (vU32 s.f) := a1.cell 5
  have c6 : W3.cell? ⟨w.heap.size, 6, none⟩ = some (vU32 s.g) := a1.cell 6
  have c7 : W3.cell? ⟨w.heap.size, 7, none⟩ = some (vU32 s.h) := a1.cell 7
  rw [← hBw]
  have HBw := Lib.hid hBw
  clear hBw hw3 HS3
  have A1 := Lib.hid a1
  have A3 := Lib.hid a3
  have AW := Lib.hid aw
  have HK3 := Lib.hid hK3
  clear a1 a3 aw hK3 hb2' hs2 H1 H2 H3 HK
  go_wp2_with fail
  go_quiet (fail)
  go_wp2_with fail
  go_quiet (fail)
  go_wp2_with fail
  clear c0 c1 c2 c3 c4 c5 c6 c7
  go_loopw [6, 7, 8, 9, 10, 11, 12, 13, 41] (fun xa xb xc xd xe xf xg xh c wr => ∃ t : Nat, t ≤ 64 ∧ c = .int .i64 t ∧ xa = vU32 (rnds s (wordsOf b) t).a ∧ xb = vU32 (rnds s (wordsOf b) t).b ∧ xc = vU32 (rnds s (wordsOf b) t).c ∧ xd = vU32 (rnds s (wordsOf b) t).d ∧ xe = vU32 (rnds s (wordsOf b) t).e ∧ xf = vU32 (rnds s (wordsOf b) t).f ∧ xg = vU32 (rnds s (wordsOf b) t).g ∧ xh = vU32 (rnds s (wordsOf b) t).h ∧ Drawn W3 wr)
    (fun _ _ _ _ _ _ _ _ c _ => 64 - (intOf c).toNat)
  case atStart =>
    exact ⟨0, by omega, rfl, rfl, rfl, rfl, rfl, rfl, rfl, rfl, rfl, Drawn.trans ⟨_, rfl⟩ ⟨_, rfl⟩⟩
  case round =>
    obtain ⟨t, ht, rfl, rfl, rfl, rfl, rfl, rfl, rfl, rfl, rfl, hd⟩ := hrel
    by_cases hlt : t < 64
    · have hrn : Hid (rnds s (wordsOf b) (t + 1) = rnd (rnds s (wordsOf b) t) (ix kt t) (ix (wordsOf b) t)) := Lib.hid rfl
      generalize rnds s (wordsOf b) t = r at hrn ⊢
      have ck := HK3.out t hlt
      have cw := AW.out.cell t
      rw [arr32_get _ _ (by simp [wordsOf]; omega)] at cw
      have ck' : wr.cell? ⟨0, t, none⟩ = some (vU32 (ix kt t)) := by obtain ⟨n, rfl⟩ := hd; exact ck
      have cw' : wr.cell? ⟨Bw, t, none⟩ = some (vU32 (ix (wordsOf b) t)) := by obtain ⟨n, rfl⟩ := hd; exact cw
      clear ck cw
      generalize ix kt t = kk at hrn ck' ⊢
      generalize ix (wordsOf b) t = ww at hrn cw' ⊢
      have hd' := Lib.hid hd
      clear hd
      go_wp2_with (go_at_call 85; refine (rotr_any _ _ (by omega) (by omega) _).mono ?_; rintro e w' ⟨rfl, rfl⟩)
      go_quiet (fail)
      go_wp2_with (go_at_call 85; refine (rotr_any _ _ (by omega) (by omega) _).mono ?_; rintro e w' ⟨rfl, rfl⟩)
      go_roundw
      case rel => exact ⟨t + 1, by omega, by go_num, by rw [hrn.out]; rfl, by rw [hrn.out]; rfl, by rw [hrn.out]; rfl, by rw [hrn.out]; rfl, by rw [hrn.out]; rfl, by rw [hrn.out]; rfl, by rw [hrn.out]; rfl, by rw [hrn.out]; rfl, hd'.out.trans ⟨_, rfl⟩⟩
      case measure => simp [intOf]; omega
    · obtain rfl : t = 64 := by omega
      have B1 := Lib.hid (hd.blk A1.out)
      have B3 := Lib.hid (hd.blk A3.out)
      have hB4 := hd.below hB3
      clear hd hB3 hlt
      have hfin : Hid (moreOf s b = s.add (rnds s (wordsOf b) 64)) := Lib.hid rfl
      generalize rnds s (wordsOf b) 64 = r at hfin ⊢
      obtain ⟨wo, hwo⟩ : ∃ wo : World, wo = wr := ⟨_, rfl⟩
      rw [← hwo] at B1 B3 hB4 ⊢
      clear hwo
      have hix : ∀ i : Nat, i < 8 → ∀ W, (Instr.index 104 (.agg #[vU32 r.a, vU32 r.b, vU32 r.c, vU32 r.d, vU32 r.e, vU32 r.f, vU32 r.g, vU32 r.h]) (.int .i64 i)).run Tryd.prog W = .ok (vU32 (ix r.list i)) W := fun i hi =>
        run_index_agg (P := Tryd.prog) 104 70 8 _ (arr32 r.list) .i64 i _ Tryd.underlying104 Tryd.underlying70 rfl hi (arr32_get r.list i (by simpa using hi)) size1u32
      have HIX := Lib.hid hix
      clear hix hz hz8
      go_wp2
      go_loopw [116] (fun c wr => ∃ i : Nat, i ≤ 8 ∧ c = .int .i64 i ∧ Blk wr w.heap.size 104 (arr32 (addTo s.list r.list i)) ∧ Blk wr (w.heap.size + 1 + 1) 104 (z32 8) ∧ Below w.heap.size w wr) (fun c _ => 8 - (intOf c).toNat)
      case atStart => exact ⟨0, by omega, rfl, B1.out, B3.out, hB4⟩
      case round =>
        clear B1 B3 hB4
        obtain ⟨i, hi, rfl, B1, B3, hB4⟩ := hrel
        by_cases hlt : i < 8
        · have hx := HIX.out i hlt
          have c1 := B1.cell i
          rw [arr32_get _ _ (by simpa using hlt)] at c1
          have hf := B1.frozen i
          have H1 := Lib.hid B1
          have H3 := Lib.hid B3
          clear B1 B3
          go_wp2
          go_roundw
          case rel => exact ⟨i + 1, by omega, by go_num, by have := H1.out.set_ i (vU32 (ix (addTo s.list r.list i) i + ix r.list i)); rw [arr32_set] at this; exact this, H3.out.far (by show _ ≠ w.heap.size; omega) _, hB4.setCell (Nat.le_refl _) _⟩
          case measure => simp [intOf]; omega
        · obtain rfl : i = 8 := by omega
          rw [addTo_all] at B1
          have H1 := Lib.hid B1
          have H3 := Lib.hid B3
          clear B1 B3
          go_wp2_with (first
            | (refine wpList_loadA 104 8 _ Tryd.underlying104 size8u32 rfl (.tmp 2) rfl _ rfl _ _ H1.out (by simp) rfl ?_)
            | (refine wpList_storeA 104 8 size8u32 rfl (.tmp 4) (.tmp 127) rfl _ rfl _ rfl _ _ H3.out (by simp) (by simp [z32]) (arr32_one _) (fun w3 hw3 hs3 => ?_)))
          have hR3 := H3.out.setRow hw3.out
          refine bodyPost_ret (results_cell_row rfl _ _ _ _ _ _ _ rfl hR3 Tryd.underlying104 rfl (by rw [arr32_size]; exact size8u32)) rfl ?_
          exact ⟨by rw [hfin.out], below_setRow hB4 hw3.out (by omega)⟩
end Go.Proofs.YtkchdhkpjnnliaaDoor
