/- An error's number (law 24's num): nil's is nought, an Errno's is its own. -/
import Derived.Test.YtohnlajccfnecaaDoorAs
import Derived.Test.YtohnlajccfnecaaDoorBase
import Derived.Test.YtohnlajccfnecaaDoorTy
namespace Go.Proofs.YtohnlajccfnecaaDoor
open Go.RowKit Go.Extern.Stop Go.Stop Go.Extern
def Handle (w : World) : Prop := w.cell? ⟨0, 0, none⟩ = some (.iface 115 (.agg #[.pointer (some ⟨6, 53, none⟩)]))
theorem Handle.below {w w' : World} {B : Nat} (h : Handle w) (hb : Below B w w') (hB : w.heap.size ≤ B) : Handle w' := by
  have hlt : 0 < w.heap.size := block_lt_of_cell h
  exact (hb.cell (p := ⟨0, 0, none⟩) (Nat.lt_of_lt_of_le hlt hB)).trans h
theorem num24_nil (w : World) : Calls Tryd.prog 22 #[.nilIface] w fun e w' => e = .returned (.int .i64 0) ∧ Below w.heap.size w w' := by
  go_enter Tryd.func22, Tryd.ntmps22
  go_wp2
  go_ret
  exact ⟨rfl, (Below.refl _ _).alloc (Nat.le_refl _) _⟩
set_option maxRecDepth 100000 in
set_option maxHeartbeats 4000000 in
theorem num24_err (n : Int) (w : World) (hg : Handle w) : Calls Tryd.prog 22 #[.iface 74 (.int .i64 n)] w fun e w' => e = .returned (.int .i64 n) ∧ Below w.heap.size w w' := by
  have hlt : 0 < w.heap.size := block_lt_of_cell hg
  have hgA : (w.alloc (.cells #[.int .i64 0] 74)).cell? ⟨0, 0, none⟩ = some (.iface 115 (.agg #[.pointer (some ⟨6, 53, none⟩)])) := by
    rw [World.cell?_alloc_lt _ _ ⟨0, 0, none⟩ hlt]; exact hg
  have htA : (w.alloc (.cells #[.int .i64 0] 74)).cell? ⟨w.heap.size, 0, none⟩ = some (.int .i64 0) := by simp
  have hfA : (w.alloc (.cells #[.int .i64 0] 74)).frozen? ⟨w.heap.size, 0, none⟩ = false := by simp
  go_enter Tryd.func22, Tryd.ntmps22
  go_wp2_with (go_at_call 36; refine (as_hit n _ (.int .i64 0) _ hgA htA hfA).mono ?_; rintro e w' ⟨rfl, rfl⟩)
  go_ret
  refine ⟨rfl, ?_⟩
  exact (((((Below.refl w.heap.size w).alloc (Nat.le_refl _) _).alloc (by simp) _).alloc (by simp; omega) _).alloc (by simp; omega) _).alloc (by simp; omega) _
theorem handle_sat {w0 : World} {hp : List Res} {γ : List Nm} {w : World} (h : Handle w0) (hS : Sat w0 No γ hp w) : Handle w := h.below (keeps_below hS.keeps) (Nat.le_refl _)
theorem numOK24 {w0 : World} {hp : List Res} (n : Int) (hg : Handle w0) : CallOK Tryd.prog w0 No 22 [.x (.a (.v (.iface 74 (.int .i64 n))))] hp (.x (.a (.v (.int .i64 n)))) hp := callOK_v fun _ w hS => num24_err n w (handle_sat hg hS)
end Go.Proofs.YtohnlajccfnecaaDoor
