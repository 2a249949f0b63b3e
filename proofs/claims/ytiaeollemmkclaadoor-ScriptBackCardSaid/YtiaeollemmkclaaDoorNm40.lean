import Derived.Test.YtiaeollemmkclaaDoorHnd
/- An error's number (law 40's num): nil's is nought, an Errno's is its own. -/
namespace Go.Proofs.YtiaeollemmkclaaDoor
open Go.RowKit Go.Extern.Stop Go.Stop Go.Extern
theorem nm40_nil (w : World) : Calls Tryd.prog 103 #[.nilIface] w fun e w' => e = .returned (.int .i64 0) ∧ Below w.heap.size w w' := by
  go_enter Tryd.func103, Tryd.ntmps103
  go_wp2
  go_ret
  exact ⟨rfl, (Below.refl _ _).alloc (Nat.le_refl _) _⟩
set_option maxRecDepth 100000 in
set_option maxHeartbeats 4000000 in
theorem nm40_err (n : Int) (w : World) (hg : Handle w) : Calls Tryd.prog 103 #[.iface 137 (.int .i64 n)] w fun e w' => e = .returned (.int .i64 n) ∧ Below w.heap.size w w' := by
  have hlt : 0 < w.heap.size := block_lt_of_cell hg
  have hgA : (w.alloc (.cells #[.int .i64 0] 137)).cell? ⟨0, 0, none⟩ = some (.iface 229 (.agg #[.pointer (some ⟨9, 41, none⟩)])) := by
    rw [World.cell?_alloc_lt _ _ ⟨0, 0, none⟩ hlt]; exact hg
  have htA : (w.alloc (.cells #[.int .i64 0] 137)).cell? ⟨w.heap.size, 0, none⟩ = some (.int .i64 0) := by simp
  have hfA : (w.alloc (.cells #[.int .i64 0] 137)).frozen? ⟨w.heap.size, 0, none⟩ = false := by simp
  go_enter Tryd.func103, Tryd.ntmps103
  go_wp2_with (go_at_call 70; refine (as_hit n _ (.int .i64 0) _ hgA htA hfA).mono ?_; rintro e w' ⟨rfl, rfl⟩)
  go_ret
  refine ⟨rfl, ?_⟩
  exact (((((Below.refl w.heap.size w).alloc (Nat.le_refl _) _).alloc (by simp) _).alloc (by simp; omega) _).alloc (by simp; omega) _).alloc (by simp; omega) _
/-- Of an error that may be none. -/
theorem nm40OK {w0 : World} {hp : List Res} (n : Int) (hg : Handle w0) : CallOK Tryd.prog w0 No 103 [.x (.a (.v (erV n)))] hp (.x (.a (.v (.int .i64 n)))) hp := callOK_v fun _ w hS => by
  show Calls _ _ #[erV n] w _
  unfold erV
  split
  · rename_i h
    rw [h]
    exact nm40_nil w
  · exact nm40_err n w (handle_sat hg hS)
end Go.Proofs.YtiaeollemmkclaaDoor
