/- Bytes as a string. No program in sight. -/
import Derived.Test.YtkchdhkpjnnliaaDoorM
import Derived.Laws.BytesArg
namespace Go.Proofs.YtkchdhkpjnnliaaDoor
open Go.RowKit
def bstr (l : List UInt8) : ByteArray := ⟨l.toArray⟩
theorem strOfNums_n8 (l : List UInt8) : strOfNums (l.map n8) = bstr l := by
  unfold strOfNums bstr
  congr 2
  rw [List.map_map]
  conv => rhs; rw [← List.map_id l]
  apply List.map_congr_left
  intro x _
  simp [n8]
theorem conv_str {P : Program} {w : World} {B : Nat} {A : Option Addr} (l : List UInt8) (c : Nat) (src e : TypeId) (hs : P.underlying src = some (.slice e)) (he : P.underlying e = some (.int .u8)) (hR : RdV w B A (l.map vU8)) (dst : TypeId) (hd : P.underlying dst = some .string) :
    (convert src dst (.slice A l.length c)).run P w = .ok (.string (bstr l)) w := by
  by_cases h0 : l = []
  · subst h0
    rw [show ([] : List UInt8).length = 0 from rfl, run_convert_bytes_string w src dst e A 0 c hs he hd]
    cases A <;> simp [Conv.bytesToString, loadCells, bstr]
    all_goals rfl
  · obtain ⟨b, off, rfl, _, hc⟩ := hR (by simpa using List.length_pos_iff.2 h0)
    have := run_convert_bytes_arg (P := P) w src e hs he b off l.length c (l.map n8) (by simp) (fun i hi => by
      have := hc i (vU8 l[i]) (by simp [hi])
      rw [this]
      simp [vU8, List.getD_eq_getElem?_getD, hi]) dst hd
    rw [this, strOfNums_n8]
end Go.Proofs.YtkchdhkpjnnliaaDoor
