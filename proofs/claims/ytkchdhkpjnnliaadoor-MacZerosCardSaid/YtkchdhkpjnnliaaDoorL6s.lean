/- The walk of law 6's 'sure'. -/
import Derived.Test.YtkchdhkpjnnliaaDoorL6k
import Derived.Lib.SlBytesConst
import Derived.Lib.SmallJoins
namespace Go.Proofs.YtkchdhkpjnnliaaDoor
open Go.RowKit
theorem conv_const (w : World) (C : Array Value) (n c g : Nat) (hg : g = w.heap.size) :
    (convert 27 27 (.slice (some ⟨g, 0, none⟩) n c)).run Tryd.prog (w.alloc (.cells C 5)) = .ok (.slice (some ⟨g, 0, none⟩) n c) (w.alloc (.cells C 5 (C.size, C.size + 1))) := by
  subst hg; exact Lib.run_convert_bytes_const w _ _ C n c Tryd.underlying27 Tryd.underlying5
theorem RdV.of_cells {w : World} {g B : Nat} {t : TypeId} {l : List UInt8} {fr : Nat × Nat} (h : w.heap[g]? = some (.cells (arr8 l) t fr)) (hB : g < B) : RdV w B (some ⟨g, 0, none⟩) (l.map vU8) := fun _ => ⟨g, 0, rfl, hB, fun j u hu => by rw [Nat.zero_add, cell_of_row w g j _ t fr h]; simpa [arr8] using hu⟩
/-- The two literals, laid one behind the other. -/
def lit2 (w : World) : World := (w.alloc (.cells (arr8 jefe) 5 (4, 5))).alloc (.cells (arr8 what) 5 (28, 29))
theorem lit2_size (w : World) : (lit2 w).heap.size = w.heap.size + 1 + 1 := by simp [lit2]
theorem lit2_below (w : World) {B : Nat} {w0 : World} (h : Below B w0 w) (hB : B ≤ w.heap.size) : Below B w0 (lit2 w) := (h.alloc hB _).alloc (by simp; omega) _
theorem lit2_jefe (w : World) : RdV (lit2 w) (lit2 w).heap.size (some ⟨w.heap.size, 0, none⟩) (jefe.map vU8) := RdV.of_cells (fr := (4, 5)) (t := 5) (by unfold lit2; rw [Below.heap_alloc _ _ _ (by simp)]; exact heap_alloc_new w _) (by rw [lit2_size]; omega)
theorem lit2_what (w : World) : RdV (lit2 w) (lit2 w).heap.size (some ⟨w.heap.size + 1, 0, none⟩) (what.map vU8) := RdV.of_cells (fr := (28, 29)) (t := 5) (by unfold lit2; have := heap_alloc_new (w.alloc (.cells (arr8 jefe) 5 (4, 5))) (.cells (arr8 what) 5 (28, 29)); simpa using this) (by rw [lit2_size]; omega)
theorem none_sum' : (decide (macOf [] [] = List.replicate 32 0)) = false := none_sum
attribute [local irreducible] macOf textTo zb

set_option maxHeartbeats 6000000 in
set_option maxRecDepth 100000 in
theorem sure06_any (w : World) (hk : LaidK 0 w) :
    Calls Tryd.prog 23 #[] w fun e w' => e = .returned (.bool true) ∧ Below w.heap.size w w' := by
  have hz := zero32u8
  have HK := Lib.hid hk
  clear hk
  go_enter Tryd.func23, Tryd.ntmps23
  have c1 : (convert 27 27 (.slice (some ⟨w.heap.size, 0, none⟩) 4 4)).run Tryd.prog (w.alloc (.cells #[Value.int IntKind.u8 74, Value.int IntKind.u8 101, Value.int IntKind.u8 102, Value.int IntKind.u8 101] 5)) = .ok (.slice (some ⟨w.heap.size, 0, none⟩) 4 4) (w.alloc (.cells #[Value.int IntKind.u8 74, Value.int IntKind.u8 101, Value.int IntKind.u8 102, Value.int IntKind.u8 101] 5 (4, 5))) := conv_const w #[Value.int IntKind.u8 74, Value.int IntKind.u8 101, Value.int IntKind.u8 102, Value.int IntKind.u8 101] 4 4 _ rfl
  have c2 : (convert 27 27 (.slice (some ⟨w.heap.size + 1, 0, none⟩) 28 28)).run Tryd.prog ((w.alloc (.cells #[Value.int IntKind.u8 74, Value.int IntKind.u8 101, Value.int IntKind.u8 102, Value.int IntKind.u8 101] 5 (4, 5))).alloc (.cells #[Value.int IntKind.u8 119, Value.int IntKind.u8 104, Value.int IntKind.u8 97, Value.int IntKind.u8 116, Value.int IntKind.u8 32, Value.int IntKind.u8 100, Value.int IntKind.u8 111, Value.int IntKind.u8 32, Value.int IntKind.u8 121, Value.int IntKind.u8 97, Value.int IntKind.u8 32, Value.int IntKind.u8 119, Value.int IntKind.u8 97, Value.int IntKind.u8 110, Value.int IntKind.u8 116, Value.int IntKind.u8 32, Value.int IntKind.u8 102, Value.int IntKind.u8 111, Value.int IntKind.u8 114, Value.int IntKind.u8 32, Value.int IntKind.u8 110, Value.int IntKind.u8 111, Value.int IntKind.u8 116, Value.int IntKind.u8 104, Value.int IntKind.u8 105, Value.int IntKind.u8 110, Value.int IntKind.u8 103, Value.int IntKind.u8 63] 5)) = .ok (.slice (some ⟨w.heap.size + 1, 0, none⟩) 28 28) (lit2 w) := conv_const (w.alloc (.cells #[Value.int IntKind.u8 74, Value.int IntKind.u8 101, Value.int IntKind.u8 102, Value.int IntKind.u8 101] 5 (4, 5))) #[Value.int IntKind.u8 119, Value.int IntKind.u8 104, Value.int IntKind.u8 97, Value.int IntKind.u8 116, Value.int IntKind.u8 32, Value.int IntKind.u8 100, Value.int IntKind.u8 111, Value.int IntKind.u8 32, Value.int IntKind.u8 121, Value.int IntKind.u8 97, Value.int IntKind.u8 32, Value.int IntKind.u8 119, Value.int IntKind.u8 97, Value.int IntKind.u8 110, Value.int IntKind.u8 116, Value.int IntKind.u8 32, Value.int IntKind.u8 102, Value.int IntKind.u8 111, Value.int IntKind.u8 114, Value.int IntKind.u8 32, Value.int IntKind.u8 110, Value.int IntKind.u8 111, Value.int IntKind.u8 116, Value.int IntKind.u8 104, Value.int IntKind.u8 105, Value.int IntKind.u8 110, Value.int IntKind.u8 103, Value.int IntKind.u8 63] 28 28 _ (by simp)
  go_wp2_with fail
  clear c1 c2
  have hs1 := lit2_size w
  have HB1 := Lib.hid (lit2_below w (Below.refl w.heap.size w) (Nat.le_refl _))
  have hmc : Calls Tryd.prog 27 #[.slice (some ⟨w.heap.size, 0, none⟩) 4 4, .slice (some ⟨w.heap.size + 1, 0, none⟩) 28 28] (lit2 w) _ := macOf_any jefe _ 4 what _ 28 (lit2 w) (lit2_jefe w) (by decide) (by decide) (lit2_what w) (by decide) (HK.out.below HB1.out HK.out.lt)
  generalize lit2 w = W1 at hs1 HB1 hmc ⊢
  refine hmc.mono ?_
  rintro e W2 ⟨rfl, hb2⟩
  have hs2 := hb2.size
  have HB2 := Lib.hid (HB1.out.trans (hb2.mono (by omega)))
  clear hb2 hmc
  obtain ⟨m, hm⟩ : ∃ m, m = macOf jefe what := ⟨_, rfl⟩
  have HM := Lib.hid hm
  have hml : Hid (m.length = 32) := Lib.hid (by rw [hm]; exact macOf_length _ _)
  rw [← hm]
  clear hm
  go_upto_region 2 with (refine wpList_storeA 23 32 size32u8 rfl (.tmp 1) (.tmp 6) rfl _ rfl _ rfl _ _ (Blk.new W2 _ _) (by rw [arr8_size, hml.out]) (by simp [z8]) (arr8_one _) (fun W3 hw3 hs3 => ?_))
  have H13 := Lib.hid ((Blk.new W2 23 (z8 32)).setRow hw3.out)
  have HB3 := Lib.hid (below_setRow (HB2.out.alloc (by omega) (.cells (z8 32) 23)) hw3.out (by omega))
  rw [show (W2.alloc (.cells (z8 32) 23)).heap.size = W2.heap.size + 1 from by simp] at hs3
  clear hw3 HB2
  apply wp_region_lit
  refine wpList_loadA 23 32 _ Tryd.underlying23 size32u8 rfl _ rfl _ rfl _ _ H13.out (by rw [arr8_size, hml.out]) rfl ?_
  go_wp2_with fail
  refine (text_any m hml.out W3).mono ?_
  rintro e W4 ⟨rfl, hb4⟩
  have hs4 := hb4.size
  have H14 := Lib.hid (H13.out.below hb4 (by omega))
  have HB4 := Lib.hid (HB3.out.trans (hb4.mono (by omega)))
  clear hb4 H13 HB3
  have htx : bstr (textTo m 32) = { data := #[53, 98, 100, 99, 99, 49, 52, 54, 98, 102, 54, 48, 55, 53, 52, 101, 54, 97, 48, 52, 50, 52, 50, 54, 48, 56, 57, 53, 55, 53, 99, 55, 53, 97, 48, 48, 51, 102, 48, 56, 57, 100, 50, 55, 51, 57, 56, 51, 57, 100, 101, 99, 53, 56, 98, 57, 54, 52, 101, 99, 51, 56, 52, 51] } := by rw [HM.out, jefe_sum]; rfl
  rw [htx]
  clear htx
  have d1 : (convert 27 27 (.slice (some ⟨W4.heap.size, 0, none⟩) 4 4)).run Tryd.prog (W4.alloc (.cells #[Value.int IntKind.u8 74, Value.int IntKind.u8 101, Value.int IntKind.u8 102, Value.int IntKind.u8 101] 5)) = .ok (.slice (some ⟨W4.heap.size, 0, none⟩) 4 4) (W4.alloc (.cells #[Value.int IntKind.u8 74, Value.int IntKind.u8 101, Value.int IntKind.u8 102, Value.int IntKind.u8 101] 5 (4, 5))) := conv_const W4 #[Value.int IntKind.u8 74, Value.int IntKind.u8 101, Value.int IntKind.u8 102, Value.int IntKind.u8 101] 4 4 _ rfl
  have d2 : (convert 27 27 (.slice (some ⟨W4.heap.size + 1, 0, none⟩) 28 28)).run Tryd.prog ((W4.alloc (.cells #[Value.int IntKind.u8 74, Value.int IntKind.u8 101, Value.int IntKind.u8 102, Value.int IntKind.u8 101] 5 (4, 5))).alloc (.cells #[Value.int IntKind.u8 119, Value.int IntKind.u8 104, Value.int IntKind.u8 97, Value.int IntKind.u8 116, Value.int IntKind.u8 32, Value.int IntKind.u8 100, Value.int IntKind.u8 111, Value.int IntKind.u8 32, Value.int IntKind.u8 121, Value.int IntKind.u8 97, Value.int IntKind.u8 32, Value.int IntKind.u8 119, Value.int IntKind.u8 97, Value.int IntKind.u8 110, Value.int IntKind.u8 116, Value.int IntKind.u8 32, Value.int IntKind.u8 102, Value.int IntKind.u8 111, Value.int IntKind.u8 114, Value.int IntKind.u8 32, Value.int IntKind.u8 110, Value.int IntKind.u8 111, Value.int IntKind.u8 116, Value.int IntKind.u8 104, Value.int IntKind.u8 105, Value.int IntKind.u8 110, Value.int IntKind.u8 103, Value.int IntKind.u8 63] 5)) = .ok (.slice (some ⟨W4.heap.size + 1, 0, none⟩) 28 28) (lit2 W4) := conv_const (W4.alloc (.cells #[Value.int IntKind.u8 74, Value.int IntKind.u8 101, Value.int IntKind.u8 102, Value.int IntKind.u8 101] 5 (4, 5))) #[Value.int IntKind.u8 119, Value.int IntKind.u8 104, Value.int IntKind.u8 97, Value.int IntKind.u8 116, Value.int IntKind.u8 32, Value.int IntKind.u8 100, Value.int IntKind.u8 111, Value.int IntKind.u8 32, Value.int IntKind.u8 121, Value.int IntKind.u8 97, Value.int IntKind.u8 32, Value.int IntKind.u8 119, Value.int IntKind.u8 97, Value.int IntKind.u8 110, Value.int IntKind.u8 116, Value.int IntKind.u8 32, Value.int IntKind.u8 102, Value.int IntKind.u8 111, Value.int IntKind.u8 114, Value.int IntKind.u8 32, Value.int IntKind.u8 110, Value.int IntKind.u8 111, Value.int IntKind.u8 116, Value.int IntKind.u8 104, Value.int IntKind.u8 105, Value.int IntKind.u8 110, Value.int IntKind.u8 103, Value.int IntKind.u8 63] 28 28 _ (by simp)
  have hs5 := lit2_size W4
  have HB5 := Lib.hid (lit2_below W4 HB4.out (by omega))
  have H15 := Lib.hid (H14.out.below (lit2_below W4 (Below.refl W4.heap.size W4) (Nat.le_refl _)) (by omega))
  have hld := H15.out.load (P := Tryd.prog) 23 32 _ Tryd.underlying23 size32u8 (by rw [arr8_size, hml.out]) rfl
  go_wp2_with (refine wpList_runG (exec_load 23 (.tmp 1) rfl _ rfl _ hld) (by rfl) ?_)
  clear hld d1 d2
  have hck : Calls Tryd.prog 28 #[.slice (some ⟨W4.heap.size, 0, none⟩) 4 4, .slice (some ⟨W4.heap.size + 1, 0, none⟩) 28 28, .agg (arr8 m)] (lit2 W4) _ := check_any jefe _ 4 what _ 28 m hml.out (lit2 W4) (lit2_jefe W4) (by decide) (by decide) (lit2_what W4) (by decide) (HK.out.below HB5.out HK.out.lt)
  rw [← HM.out, show (decide (m = m)) = true from by simp] at hck
  clear H14 H15
  generalize lit2 W4 = W5 at hck hs5 HB5 ⊢
  refine hck.mono ?_
  rintro e W6 ⟨rfl, hb6⟩
  have HB6 := Lib.hid (HB5.out.trans (hb6.mono (by have := HB5.out.size; omega)))
  clear hb6 hck HB5
  go_wp2_with fail
  have hck2 : Calls Tryd.prog 28 #[.slice none 0 0, .slice none 0 0, .agg (z8 32)] W6 _ := check_any [] none 0 [] none 0 (List.replicate 32 0) (by simp) W6 RdV.nil_ (by decide) (by decide) RdV.nil_ (by decide) (HK.out.below HB6.out HK.out.lt)
  rw [none_sum'] at hck2
  refine hck2.mono ?_
  rintro e W7 ⟨rfl, hb7⟩
  have HB7 := Lib.hid (HB6.out.trans (hb7.mono (by have := HB6.out.size; omega)))
  clear hb7 hck2 HB6
  go_wp2
  go_ret
  exact ⟨rfl, HB7.out⟩
end Go.Proofs.YtkchdhkpjnnliaaDoor
