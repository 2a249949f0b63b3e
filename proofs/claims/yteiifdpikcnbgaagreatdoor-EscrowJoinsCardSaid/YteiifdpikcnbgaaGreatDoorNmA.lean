/- NmA: Nm04, Nm25, joined. -/
import Derived.Test.YteiifdpikcnbgaaGreatDoorHnd
/- An error's number (law 25's num): nil's is nought, an Errno's is its own. -/
namespace Go.Proofs.YteiifdpikcnbgaaGreatDoor
open Go.RowKit Go.Extern.Stop Go.Stop Go.Extern
end Go.Proofs.YteiifdpikcnbgaaGreatDoor
/- An error's number (law 25's num): nil's is nought, an Errno's is its own. -/
namespace Go.Proofs.YteiifdpikcnbgaaGreatDoor
open Go.RowKit Go.Extern.Stop Go.Stop Go.Extern
theorem nm25_nil (w : World) : Calls Tryz.prog 16 #[.nilIface] w fun e w' => e = .returned (.int .i64 0) ∧ Below w.heap.size w w' := by
  go_enter Tryz.func16, Tryz.ntmps16
  go_wp2
  go_ret
  exact ⟨rfl, (Below.refl _ _).alloc (Nat.le_refl _) _⟩
set_option maxRecDepth 250000 in
set_option maxHeartbeats 4000000 in
theorem nm25_err (n : Int) (w : World) (hg : Handle w) : Calls Tryz.prog 16 #[.iface 75 (.int .i64 n)] w fun e w' => e = .returned (.int .i64 n) ∧ Below w.heap.size w w' := by
  have hlt : 0 < w.heap.size := block_lt_of_cell hg
  have hgA : (w.alloc (.cells #[.int .i64 0] 75)).cell? ⟨0, 0, none⟩ = some (.iface 155 (.agg #[.pointer (some ⟨5, 36, none⟩)])) := by
    rw [World.cell?_alloc_lt _ _ ⟨0, 0, none⟩ hlt]; exact hg
  have htA : (w.alloc (.cells #[.int .i64 0] 75)).cell? ⟨w.heap.size, 0, none⟩ = some (.int .i64 0) := by simp
  have hfA : (w.alloc (.cells #[.int .i64 0] 75)).frozen? ⟨w.heap.size, 0, none⟩ = false := by simp
  go_enter Tryz.func16, Tryz.ntmps16
  go_wp2_with (go_at_call 40; refine (as_hit n _ (.int .i64 0) _ hgA htA hfA).mono ?_; rintro e w' ⟨rfl, rfl⟩)
  go_ret
  refine ⟨rfl, ?_⟩
  exact (((((Below.refl w.heap.size w).alloc (Nat.le_refl _) _).alloc (by simp) _).alloc (by simp; omega) _).alloc (by simp; omega) _).alloc (by simp; omega) _
theorem nmOK25 {w0 : World} {hp : List Res} (n : Int) (hg : Handle w0) : CallOK Tryz.prog w0 No 16 [.x (.a (.v (.iface 75 (.int .i64 n))))] hp (.x (.a (.v (.int .i64 n)))) hp := callOK_v fun _ w hS => nm25_err n w (handle_sat hg hS)
/-- Of an error that may be none. -/
theorem nm25OK {w0 : World} {hp : List Res} (n : Int) (hg : Handle w0) : CallOK Tryz.prog w0 No 16 [.x (.a (.v (erV n)))] hp (.x (.a (.v (.int .i64 n)))) hp := callOK_v fun _ w hS => by
  show Calls _ _ #[erV n] w _
  unfold erV
  split
  · rename_i h
    rw [h]
    exact nm25_nil w
  · exact nm25_err n w (handle_sat hg hS)
end Go.Proofs.YteiifdpikcnbgaaGreatDoor
