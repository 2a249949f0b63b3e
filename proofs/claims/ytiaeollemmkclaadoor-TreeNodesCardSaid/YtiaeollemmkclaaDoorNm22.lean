/- An error's number (law 22's num): nil's is nought, an Errno's is its own. -/
import Derived.Test.YtiaeollemmkclaaDoorHnd
namespace Go.Proofs.YtiaeollemmkclaaDoor
open Go.RowKit Go.Extern.Stop Go.Stop Go.Extern
theorem nm22_nil (w : World) : Calls Tryd.prog 83 #[.nilIface] w fun e w' => e = .returned (.int .i64 0) ∧ Below w.heap.size w w' := by
  go_enter Tryd.func83, Tryd.ntmps83
  go_wp2
  go_ret
  exact ⟨rfl, (Below.refl _ _).alloc (Nat.le_refl _) _⟩
set_option maxRecDepth 220000 in
set_option maxHeartbeats 4000000 in
theorem nm22_err (n : Int) (w : World) (hg : Handle w) : Calls Tryd.prog 83 #[.iface 137 (.int .i64 n)] w fun e w' => e = .returned (.int .i64 n) ∧ Below w.heap.size w w' := by
  have hlt : 0 < w.heap.size := block_lt_of_cell hg
  have hgA : (w.alloc (.cells #[.int .i64 0] 137)).cell? ⟨0, 0, none⟩ = some (.iface 229 (.agg #[.pointer (some ⟨9, 41, none⟩)])) := by
    rw [World.cell?_alloc_lt _ _ ⟨0, 0, none⟩ hlt]; exact hg
  have htA : (w.alloc (.cells #[.int .i64 0] 137)).cell? ⟨w.heap.size, 0, none⟩ = some (.int .i64 0) := by simp
  have hfA : (w.alloc (.cells #[.int .i64 0] 137)).frozen? ⟨w.heap.size, 0, none⟩ = false := by simp
  go_enter Tryd.func83, Tryd.ntmps83
  go_wp2_with (go_at_call 70; refine (as_hit n _ (.int .i64 0) _ hgA htA hfA).mono ?_; rintro e w' ⟨rfl, rfl⟩)
  go_ret
  refine ⟨rfl, ?_⟩
  exact (((((Below.refl w.heap.size w).alloc (Nat.le_refl _) _).alloc (by simp) _).alloc (by simp; omega) _).alloc (by simp; omega) _).alloc (by simp; omega) _
theorem nmOK22 {w0 : World} {hp : List Res} (n : Int) (hg : Handle w0) : CallOK Tryd.prog w0 No 83 [.x (.a (.v (.iface 137 (.int .i64 n))))] hp (.x (.a (.v (.int .i64 n)))) hp := callOK_v fun _ w hS => nm22_err n w (handle_sat hg hS)
/-- Of an error that may be none. -/
theorem nm22OK {w0 : World} {hp : List Res} (n : Int) (hg : Handle w0) : CallOK Tryd.prog w0 No 83 [.x (.a (.v (erV n)))] hp (.x (.a (.v (.int .i64 n)))) hp := callOK_v fun _ w hS => by
  show Calls _ _ #[erV n] w _
  unfold erV
  split
  · rename_i h
    rw [h]
    exact nm22_nil w
  · exact nm22_err n w (handle_sat hg hS)
end Go.Proofs.YtiaeollemmkclaaDoor
