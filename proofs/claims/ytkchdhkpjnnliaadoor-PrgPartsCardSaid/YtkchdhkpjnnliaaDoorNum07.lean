/- An error's number (law 7's num): nil's is nought, an Errno's is its own. -/
import Derived.Test.YtkchdhkpjnnliaaDoorNum5
import Derived.Test.YtkchdhkpjnnliaaDoorPg4
namespace Go.Proofs.YtkchdhkpjnnliaaDoor
open Go.RowKit Go.Extern.Stop Go.Stop Go.Extern
theorem num07_nil (w : World) : Calls Tryd.prog 43 #[.nilIface] w fun e w' => e = .returned (.int .i64 0) ∧ Below w.heap.size w w' := by
  go_enter Tryd.func43, Tryd.ntmps43
  go_wp2
  go_ret
  exact ⟨rfl, (Below.refl _ _).alloc (Nat.le_refl _) _⟩
set_option maxRecDepth 100000 in
set_option maxHeartbeats 4000000 in
theorem num07_err (n : Int) (w : World) (hg : Handle w) : Calls Tryd.prog 43 #[.iface 95 (.int .i64 n)] w fun e w' => e = .returned (.int .i64 n) ∧ Below w.heap.size w w' := by
  have hlt : 1 < w.heap.size := block_lt_of_cell hg
  have hgA : (w.alloc (.cells #[.int .i64 0] 95)).cell? ⟨1, 0, none⟩ = some (.iface 137 (.agg #[.pointer (some ⟨2, 30, none⟩)])) := by
    rw [World.cell?_alloc_lt _ _ ⟨1, 0, none⟩ hlt]; exact hg
  have htA : (w.alloc (.cells #[.int .i64 0] 95)).cell? ⟨w.heap.size, 0, none⟩ = some (.int .i64 0) := by simp
  have hfA : (w.alloc (.cells #[.int .i64 0] 95)).frozen? ⟨w.heap.size, 0, none⟩ = false := by simp
  go_enter Tryd.func43, Tryd.ntmps43
  go_wp2_with (go_at_call 70; refine (as_hit n _ (.int .i64 0) _ hgA htA hfA).mono ?_; rintro e w' ⟨rfl, rfl⟩)
  go_ret
  refine ⟨rfl, ?_⟩
  exact (((((Below.refl w.heap.size w).alloc (Nat.le_refl _) _).alloc (by simp) _).alloc (by simp; omega) _).alloc (by simp; omega) _).alloc (by simp; omega) _
theorem handle_sat {w0 : World} {hp : List Res} {γ : List Nm} {w : World} (h : Handle w0) (hS : Sat w0 No γ hp w) : Handle w := h.below (keeps_below hS.keeps) (Nat.le_refl _)
theorem numOK07 {w0 : World} {hp : List Res} (n : Int) (hg : Handle w0) : CallOK Tryd.prog w0 No 43 [.x (.a (.v (.iface 95 (.int .i64 n))))] hp (.x (.a (.v (.int .i64 n)))) hp := callOK_v fun _ w hS => num07_err n w (handle_sat hg hS)
end Go.Proofs.YtkchdhkpjnnliaaDoor
