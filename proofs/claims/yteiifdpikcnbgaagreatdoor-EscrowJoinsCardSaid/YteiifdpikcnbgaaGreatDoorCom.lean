/- What many walks use: what came in reads as it did later on; the sums, by the program and by the document, as contracts. -/
import Derived.Test.YteiifdpikcnbgaaGreatDoorRd
import Derived.Test.YteiifdpikcnbgaaGreatDoorRef7
import Derived.Test.YteiifdpikcnbgaaGreatDoorShaW
namespace Go.Proofs.YteiifdpikcnbgaaGreatDoor
open Go.RowKit
set_option linter.unusedSimpArgs false
section
variable {w0 : World} {hp : List Res}
theorem laid_later {γ : List Nm} {w : World} {G : Nat} (h : LaidK G w0) (hS : Sat w0 No γ hp w) : LaidK G w := h.below (keeps_below hS.keeps) h.lt
theorem shaOK_own {e : TypeId} (k : Nat) (l : List UInt8) (hr : hp[k]? = some (.own e (.u8 l))) (hm : l.length ≤ 80000) (hk : LaidK 4 w0) : CallOK Tryz.prog w0 No 116 [.x (.a (.o k))] hp (.x (.a8 (shaOf l))) hp := callOK_v fun γ w hS => by
  obtain ⟨A, cap, h1, h2, h3, h4⟩ := hS.rdOwn hr
  have h5 : RdV w w.heap.size A (l.map vU8) := h4
  have := of_any l A cap w h5 (by omega) h2 (laid_later hk hS)
  have e1 : nmS γ k = .slice A l.length cap := h1
  show Calls _ _ #[nmS γ k] w _
  rw [e1]
  exact this
end
theorem shaOK {w0 : World} {hp : List Res} (key : List UInt8) (A : Option Addr) (c : Nat) (hR : RdV w0 w0.heap.size A (key.map vU8)) (hm : key.length ≤ 80000) (hc : key.length ≤ c) (hk : LaidK 4 w0) :
    CallOK Tryz.prog w0 No 116 [.x (.a (.v (.slice A key.length c)))] hp (.x (.a8 (shaOf key))) hp := callOK_v fun _ w hS => of_any key A c w (rd_later hR hS) (by omega) hc (laid_later hk hS)
theorem shaOK_lit {w0 : World} {hp : List Res} {e : TypeId} (k n : Nat) (l : List UInt8) (hr : hp[k]? = some (.lit e (.u8 l))) (hn : l.length = n) (hm : n ≤ 80000) (hk : LaidK 4 w0) : CallOK Tryz.prog w0 No 116 [.x (.a (.s k 0 n n))] hp (.x (.a8 (shaOf l))) hp :=
  callOK_v fun γ w hS => by
    subst hn
    exact of_any l _ l.length w (hS.rdLit hr 0) (by omega) (Nat.le_refl _) (laid_later hk hS)
end Go.Proofs.YteiifdpikcnbgaaGreatDoor
