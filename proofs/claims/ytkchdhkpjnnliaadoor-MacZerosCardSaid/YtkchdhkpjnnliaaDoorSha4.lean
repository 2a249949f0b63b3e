/- The walk of sha.Of. -/
import Derived.Test.YtkchdhkpjnnliaaDoorSha3
import Derived.Shelf.Abstract
namespace Go.Proofs.YtkchdhkpjnnliaaDoor
open Go.RowKit Go.Shelf
attribute [local go_sem] Oper.semAt_some
attribute [local irreducible] stateTo outTo shaOf chunks outByte

theorem zero32u8 (W : World) : (zeroValue 23).run Tryd.prog W = .ok (.agg (z8 32)) W := by kernel_rfl
theorem size32u8 : (Tryd.prog.info? 23).map (·.size) = some 32 := by kernel_rfl

set_option maxHeartbeats 1000000 in
set_option maxRecDepth 100000 in
theorem of_any (bs : List UInt8) (A : Option Addr) (c : Nat) (w : World) (hR : RdV w w.heap.size A (bs.map vU8)) (hm : bs.length ≤ 140737488355328) (hc : bs.length ≤ c) (hk : LaidK 0 w) :
    Calls Tryd.prog 29 #[.slice A bs.length c] w fun e w' => e = .returned (.agg (arr8 (shaOf bs))) ∧ Below w.heap.size w w' := by
  refine callsIn_wide (n := 5) |>.1 ?_
  refine callsIn_of_wp_marks Tryd.func29 rfl trivial ?_ rfl
  have hz := zero32u8
  have HR := Lib.hid hR
  have HK := Lib.hid hk
  clear hR hk
  simp only [Tryd.ntmps29, List.size_toArray, List.length_cons, List.length_nil, Nat.reduceAdd, Nat.reduceSub, Array.replicate_succ, Array.replicate_zero, List.push_toArray, List.append_toArray, List.nil_append, List.cons_append]
  gi_wp2
  refine ⟨trivial, (callsIn_wide.2 (blocks_any A bs.length c _)).mono ?_⟩
  rintro e w' ⟨rfl, rfl⟩
  obtain ⟨W1, hW1⟩ : ∃ W1 : World, (((w.alloc (.cells (z8 32) 23)).alloc (.cells (arr32 h0.list) 104)).alloc (.cells #[.slice A bs.length c] 27)) = W1 := ⟨_, rfl⟩
  have hB1 : Below w.heap.size w W1 := by subst hW1; exact (((Below.refl _ _).alloc (Nat.le_refl _) _).alloc (by simp) _).alloc (by simp; omega) _
  have hs1 : Hid (W1.heap.size = w.heap.size + 1 + 1 + 1) := by subst hW1; exact Lib.hid (by simp)
  have b1 : Hid (Blk W1 w.heap.size 23 (z8 32)) := by subst hW1; exact Lib.hid (((Blk.new _ _ _).alloc _).alloc _)
  have b2 : Hid (Blk W1 (w.heap.size + 1) 104 (arr32 h0.list)) := by subst hW1; exact Lib.hid ((Blk.new' _ _ _ (by simp)).alloc _)
  have b3 : Hid (W1.cell? ⟨w.heap.size + 1 + 1, 0, none⟩ = some (.slice A bs.length c)) := by subst hW1; exact Lib.hid ((Blk.new' (w := (w.alloc (.cells (z8 32) 23)).alloc (.cells (arr32 h0.list) 104)) 27 #[.slice A bs.length c] (by simp)).cell 0)
  gi_wp2
  have hW1' : (((w.alloc (.cells (z8 32) 23)).alloc (.cells #[Value.int IntKind.u32 1779033703, Value.int IntKind.u32 3144134277, Value.int IntKind.u32 1013904242,
            Value.int IntKind.u32 2773480762, Value.int IntKind.u32 1359893119, Value.int IntKind.u32 2600822924,
            Value.int IntKind.u32 528734635, Value.int IntKind.u32 1541459225] 104)).alloc (.cells #[.slice A bs.length c] 27)) = W1 := hW1
  show Code.wpIn _ _ _ _ _ _ (((w.alloc (.cells (z8 32) 23)).alloc (.cells #[Value.int IntKind.u32 1779033703, Value.int IntKind.u32 3144134277, Value.int IntKind.u32 1013904242,
            Value.int IntKind.u32 2773480762, Value.int IntKind.u32 1359893119, Value.int IntKind.u32 2600822924,
            Value.int IntKind.u32 528734635, Value.int IntKind.u32 1541459225] 104)).alloc (.cells #[.slice A bs.length c] 27))
  rw [hW1']
  clear hW1 hW1'
  have hs1' := hs1.out
  have hRW1 : RdV W1 w.heap.size A (bs.map vU8) := HR.out.below hB1
  have hlp : ∀ x : B64, (enc64 x).size = 1 := fun _ => rfl
  refine wpIn_rangeFunc_all (n := 5) (gf := 83) (lb := #[.pointer (some ⟨w.heap.size + 1 + 1, 0, none⟩)]) rfl (enters_of Tryd.func83 (by kernel_rfl) rfl)
    (iter_any 4 W1 bs A c (w.heap.size + 1 + 1) w.heap.size hm hc (by omega) (by omega) b3.out hRW1) (Below.refl _ _) (fun k hk => by omega) hlp (· = w.heap.size + 1) (fun k hk => ⟨by omega, by omega⟩)
    (fun i W => Blk W (w.heap.size + 1) 104 (arr32 (stateTo (chunks bs) i).list) ∧ Blk W w.heap.size 23 (z8 32) ∧ Below w.heap.size w W)
    (fun i A' B' ⟨h1, h2, h3⟩ hA hB => ⟨h1.below hB (by omega), h2.below hB (by omega), h3.trans (hB.mono (by omega))⟩) ⟨by rw [stateTo_zero]; exact b2.out, b1.out, hB1⟩
    (fun x a W => ∃ Bx, W1.heap.size + 1 < Bx ∧ Blk W Bx 44 (arr8 x.1) ∧ a = { tmps := #[.slice A bs.length c, undef, .pointer (some ⟨w.heap.size, 0, none⟩), .pointer (some ⟨w.heap.size + 1, 0, none⟩), .pointer (some ⟨Bx, 0, none⟩), undef, undef, .agg #[Value.int IntKind.u32 1779033703, Value.int IntKind.u32 3144134277, Value.int IntKind.u32 1013904242, Value.int IntKind.u32 2773480762, Value.int IntKind.u32 1359893119, Value.int IntKind.u32 2600822924, Value.int IntKind.u32 528734635, Value.int IntKind.u32 1541459225], .slice A bs.length c, .func (.func 83) #[] #[.pointer (some ⟨w.heap.size + 1 + 1, 0, none⟩)], .agg (arr8 x.1), undef, undef, undef, undef, undef, undef, undef, undef, undef, undef, undef, undef, undef, undef, undef, undef, undef, undef, undef, undef], defers := [] })
    (fun x a A' B' ⟨Bx, h1, h2, h3⟩ hk => ⟨Bx, h1, hk.blk h2 (by omega), h3⟩) ?assign ?body ?done
  case assign =>
    intro l i x W K hx hI hs hK
    have hz64 := zero64u8
    have hK' := Lib.hid hK
    have hI' := Lib.hid hI
    clear hK hI
    unfold enc64
    gi_wp2_with (refine wpListIn_runSkip (fun _ => trivial) rfl (by intro c h; cases h) (exec_storeA 44 64 size64u8 (.tmp 4) (.tmp 10) rfl _ rfl (arr8 x.1) rfl _ (z8 64) (Blk.new W _ _) (by rw [arr8_size, x.2]) (by simp [z8]) (arr8_one _)) ?_)
    exact hK'.out _ _ ⟨W.heap.size, by omega, (Blk.new W _ _).setRow rfl, rfl⟩ (Keeps.of_below (below_setRow ((Below.refl _ _).alloc (Nat.le_refl _) _) rfl (Nat.le_refl _)))
      (by
        obtain ⟨h1, h2, h3⟩ := hI'.out
        have hb := below_setRow (g := W.heap.size) (cs := arr8 x.1) ((Below.refl W.heap.size W).alloc (Nat.le_refl _) (.cells (z8 64) 44)) rfl (Nat.le_refl _)
        exact ⟨h1.below hb (by omega), h2.below hb (by omega), h3.trans (hb.mono (by omega))⟩)
  case body =>
    rintro l i x a W hx ⟨h1, h2, h3⟩ ⟨Bx, hBx, hbx, rfl⟩ hs
    have H1 := Lib.hid h1
    have H2 := Lib.hid h2
    have HX := Lib.hid hbx
    clear h1 h2 hbx
    gi_wp2_with (first
      | (refine wpListIn_run (fun _ => trivial) rfl (by intro c h; cases h) (exec_load 104 (.tmp 3) rfl _ rfl _ (H1.out.load 104 8 _ Tryd.underlying104 size8u32 (by simp) rfl)) ?_)
      | (refine wpListIn_run (fun _ => trivial) rfl (by intro c h; cases h) (exec_load 44 (.tmp 4) rfl _ rfl _ (HX.out.load 44 64 _ Tryd.underlying44 size64u8 (by rw [arr8_size, x.2]) rfl)) ?_))
    refine ⟨trivial, CallsIn.inRound l ((callsIn_wide.2 (more_any (stateTo (chunks bs) i) x.1 x.2 W (HK.out.below h3 HK.out.lt))).mono ?_)⟩
    rintro e W2 ⟨rfl, hb2⟩
    have hb2' := Lib.hid hb2
    have hs2 := hb2.size
    clear hb2
    have h1' := Lib.hid (H1.out.below hb2'.out (by omega))
    have hst : Hid (stateTo (chunks bs) (i + 1) = moreOf (stateTo (chunks bs) i) x.1) := Lib.hid (by
      rw [stateTo_succ]
      have : ix (chunks bs) i = x := by unfold ix; rw [List.getD_eq_getElem?_getD, hx]; rfl
      rw [this])
    gi_wp2_with (refine wpListIn_runSkip (fun _ => trivial) rfl (by intro c h; cases h) (exec_storeA 104 8 size8u32 (.tmp 3) (.tmp 13) rfl _ rfl _ rfl _ _ h1'.out (by simp) (by simp) (arr32_one _)) ?_)
    refine ⟨(Keeps.of_below hb2'.out).trans (Keeps.setRow _ rfl), ?_, ?_, ?_⟩
    · rw [hst.out]; exact h1'.out.setRow rfl
    · exact (H2.out.below hb2'.out (by omega)).setRow_far rfl (by omega)
    · exact below_setRow (h3.trans (hb2'.out.mono (by omega))) rfl (by omega)
  case done =>
    rintro D W hD ⟨h1, h2, h3⟩ hd
    have hsD : D < W.heap.size := (Array.getElem?_eq_some_iff.1 hd).1
    have hsW : w.heap.size + 1 + 1 + 1 ≤ W.heap.size := by omega
    have hDw : w.heap.size + 1 + 1 + 1 ≤ D := by omega
    obtain ⟨s, hs⟩ : ∃ s, s = stateTo (chunks bs) (chunks bs).length := ⟨_, rfl⟩
    rw [← hs] at h1
    have hfin : Hid (shaOf bs = outTo s 32) := Lib.hid (by rw [hs, shaOf_eq])
    have hb0 : Blk (W.alloc (.cells (z8 32) 23)) W.heap.size 23 (arr8 (outTo s 0)) := by rw [outTo_zero]; exact Blk.new _ _ _
    have HB0 := Lib.hid hb0
    have H1 := Lib.hid h1
    have H2 := Lib.hid h2
    have HD := Lib.hid hd
    have HBo := Lib.hid b1
    clear hb0 h1 h2 hd hs b1 b2 b3 HR HK hRW1 hs1 hs1' hB1 hlp
    have HM := Lib.hid hm
    have HC := Lib.hid hc
    clear hm hc
    gi_wp2
    gi_loopw [14] (fun c wr => ∃ i : Nat, i ≤ 32 ∧ c = .int .i64 i ∧ Blk wr W.heap.size 23 (arr8 (outTo s i)) ∧ Blk wr (w.heap.size + 1) 104 (arr32 s.list) ∧ Blk wr w.heap.size 23 (z8 32) ∧ Below w.heap.size w wr ∧ wr.heap[D]? = some (.deferred (some []))) (fun c _ => 32 - (intOf c).toNat)
    case atStart => exact ⟨0, by omega, rfl, HB0.out, H1.out.alloc _, H2.out.alloc _, h3.alloc (by omega) _, (Below.heap_alloc W _ D hsD).trans HD.out⟩
    case round =>
      clear HB0 H1 H2 HD h3
      obtain ⟨i, hi, rfl, hb0, h1, h2, h3, hd⟩ := hrel
      by_cases hlt : i < 32
      · have c4 := h1.cell (i / 4)
        rw [arr32_get _ _ (by simp; omega)] at c4
        have ci := hb0.cell i
        rw [arr8_get _ _ (by simp; omega)] at ci
        have fi := hb0.frozen i
        have HB0 := Lib.hid hb0
        have H1 := Lib.hid h1
        have H2 := Lib.hid h2
        have HD := Lib.hid hd
        have hout := Lib.hid (out_eq s i _ rfl)
        clear hb0 h1 h2 hd
        gi_wp2
        go_roundw
        case rel =>
          rw [hout.out]
          have hn := HB0.out.set_ i (vU8 (outByte s i))
          rw [arr8_set, ← outTo_succ] at hn
          exact ⟨i + 1, by omega, by go_num, hn, H1.out.far (by show _ ≠ W.heap.size; omega) _, H2.out.far (by show _ ≠ W.heap.size; omega) _, h3.setCell (by show _ ≤ W.heap.size; omega) _, (Below.heap_setCell wr _ _ D (by show D ≠ W.heap.size; omega)).trans HD.out⟩
        case measure => simp [intOf]; omega
      · obtain rfl : i = 32 := by omega
        have HB0 := Lib.hid hb0
        have H2 := Lib.hid h2
        have HD := Lib.hid hd
        have h3' := Lib.hid h3
        clear hb0 h1 h2 hd h3
        gi_wp2_with (first
          | (refine wpListIn_run (fun _ => trivial) rfl (by intro c h; cases h) (exec_load 23 (.tmp 5) rfl _ rfl _ (HB0.out.load 23 32 _ Tryd.underlying23 size32u8 (by simp) rfl)) ?_)
          | (refine wpListIn_runSkip (fun _ => trivial) rfl (by intro c h; cases h) (exec_storeA 23 32 size32u8 (.tmp 2) (.tmp 30) rfl _ rfl _ rfl _ _ H2.out (by simp) (by simp [z8]) (arr8_one _)) ?_))
        have hR3 := H2.out.setRow (w2 := wr.setRow w.heap.size (arr8 (outTo s 32))) rfl
        have hD3 : (wr.setRow w.heap.size (arr8 (outTo s 32))).heap[D]? = some (.deferred (some [])) := (setRow_other _ _ _ _ (by omega)).trans HD.out
        refine ⟨by simp, .inl ⟨_, _, rfl, run_takeDeferred hD3, ?_⟩⟩
        have hR4 : ((wr.setRow w.heap.size (arr8 (outTo s 32))).putObj D (.deferred none)).heap[w.heap.size]? = some (.cells (arr8 (outTo s 32)) 23 (0, 0)) := (World.putObj_heap_other (by omega)).trans hR3
        refine ⟨_, results_cell_row rfl _ _ _ _ _ _ _ rfl hR4 Tryd.underlying23 rfl (by rw [arr8_size, outTo_length]; exact size32u8), by rw [hfin.out], ?_⟩
        exact (Keeps.putObj (own := (· = D)) _ D _ rfl).below (by have := h3'.out.size; simp; omega) (fun k e => by omega) |> (below_setRow h3'.out rfl (Nat.le_refl _)).trans
end Go.Proofs.YtkchdhkpjnnliaaDoor
