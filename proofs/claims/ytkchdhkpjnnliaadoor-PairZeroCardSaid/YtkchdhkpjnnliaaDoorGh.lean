/- A nil slice told as an empty one of the call's own, whose elements have several cells. No program in sight. -/
import Derived.Test.YtkchdhkpjnnliaaDoorHand
namespace Go.Proofs.YtkchdhkpjnnliaaDoor
open Go.RowKit
section
variable {P : Program} {w0 : World} {ow : Nat → Prop} {n : Nat}
theorem fits_ghostN {s : S} {a : Act} {w : World} (t : Nat) (e : TypeId) (m : Nat) (c : Cont) (hm : 0 < m) (ht : Fr.get s.fr t = some (.x (.a (.v (.slice none 0 0))))) (hc : c.len = 0) (hb : s.bnd) (hf : Fits w0 ow n s a w) :
    Fits w0 ow n ⟨Fr.put s.fr t (.x (.a (.o s.hp.length))), s.hp ++ [.onn e m c]⟩ a w := by
  obtain ⟨γ, hf⟩ := hf
  have hl := hf.sat.len
  have hv : c.vals (γ ++ [Nm.s (.slice none 0 0)]) = [] := List.eq_nil_of_length_eq_zero (by rw [Cont.len_vals, hc])
  have hS : Sat w0 ow (γ ++ [.s (.slice none 0 0)]) (s.hp ++ [.onn e m c]) w := by
    refine hf.sat.push (X := fun _ => False) (Keeps.refl _ _) (fun b h => h.elim) hb.2 ⟨by rw [get_last hl, nmS_last hl], ?_⟩ ?_
    · rw [nmS_last hl, hv]
      exact ⟨hm, 0, World.ownsRow_nil w 0 e m⟩
    · intro b hb
      simp only [Res.has, nmS_last hl, Value.ownBlock] at hb
      cases hb
  refine ⟨_, hS, hf.defers, hf.size, fun u sv hu => ?_⟩
  rw [Fr.get_put] at hu
  split at hu
  · rename_i htu
    subst htu
    cases hu
    rw [hf.at_ t _ ht]
    simp [Sv.val, Sc.val, At.val, nmS_last hl]
  · rw [hf.at_ u sv hu]
    exact (Sv.ext (by rw [hl]; exact hb.1 _ (Fr.get_mem hu))).symm
theorem loop_ghostN {c : Code} {s : S} {K : Exit → S → Prop} (t : Nat) (e : TypeId) (m : Nat) (k : Cont) (hm : 0 < m) (ht : Fr.get s.fr t = some (.x (.a (.v (.slice none 0 0))))) (hc : k.len = 0) (hb : s.bnd)
    (h : LoopG P w0 ow n c ⟨Fr.put s.fr t (.x (.a (.o s.hp.length))), s.hp ++ [.onn e m k]⟩ K) : LoopG P w0 ow n c s K :=
  fun a w hf => h a w (fits_ghostN t e m k hm ht hc hb hf)
end
end Go.Proofs.YtkchdhkpjnnliaaDoor
