import Derived.Test.YtiaeollemmkclaaDoorTr3
import Derived.Test.YtiaeollemmkclaaDoorDrT
import Derived.Test.YtiaeollemmkclaaDoorAbs
/- Rows of structs that were built, as lists of values; groups and their clients told as one thing. No program in sight, but its types. -/
namespace Go.Proofs.YtiaeollemmkclaaDoor
open Go.RowKit
set_option linter.unusedSimpArgs false
set_option linter.unusedVariables false
/-! ### Values, as what a state holds -/
def vC (vs : List Value) : List At := vs.map At.v
theorem vC_nil : vC [] = [] := rfl
theorem vC_app (a b : List Value) : vC (a ++ b) = vC a ++ vC b := List.map_append
theorem vC_len (vs : List Value) : (vC vs).length = vs.length := List.length_map ..
theorem vC_val (γ : List Nm) (vs : List Value) : (vC vs).map (At.val γ) = vs := by
  unfold vC
  rw [List.map_map]
  exact List.map_id' vs
theorem vC_ren (ρ : List Nat) (vs : List Value) : (vC vs).map (At.ren ρ) = vC vs := by unfold vC; rw [List.map_map]; rfl
theorem vC_sub (j : Nat) (v : Value) (vs : List Value) : (vC vs).map (At.sub j v) = vC vs := by unfold vC; rw [List.map_map]; rfl
theorem vC_forall {Q : At → Prop} (vs : List Value) : (∀ x ∈ vC vs, Q x) = ∀ v ∈ vs, Q (.v v) := propext List.forall_mem_map
attribute [push_cast] vC_nil vC_len vC_val vC_ren vC_sub vC_forall
/-- A nil slice of structs in a variable, told as an empty one of the call's own. -/
theorem Sat.ghostN {w0 w : World} {ow : Nat → Prop} {γ : List Nm} {hp : List Res} {k i : Nat} {t e : TypeId} {m : Nat} {l : List At} {c : Cont} (hm : 0 < m) (hS : Sat w0 ow γ hp w) (hr : bview hp[k]? = some (t, .c l)) (hi : l[i]? = some (.v (.slice none 0 0))) (hc : c.len = 0) (hbr : ∀ r ∈ hp, Res.bnd hp.length r) :
    Sat w0 ow (γ ++ [.s (.slice none 0 0)]) ((hp.set k (bput hp[k]? t (.c (l.set i (.o hp.length))))) ++ [.onn e m c]) w := by
  have hl := hS.len
  have hcv : c.vals (γ ++ [Nm.s (.slice none 0 0)]) = [] := by
    rw [← List.length_eq_zero_iff, Cont.len_vals, hc]
  have h1 : Sat w0 ow (γ ++ [.s (.slice none 0 0)]) (hp ++ [.onn e m c]) w := by
    refine hS.push (X := fun _ => False) (Keeps.refl _ _) (fun b h => h.elim) hbr ⟨by rw [get_last hl, nmS_last hl], ?_⟩ ?_
    · rw [nmS_last hl, hcv]
      exact ⟨hm, 0, World.ownsRow_nil w 0 e m⟩
    · intro b hb
      simp only [Res.has, nmS_last hl, Value.ownBlock] at hb
      cases hb
  obtain ⟨hn, hbk, r0, hr0, hbl, hbl2, hput⟩ := hS.bv hr
  have hkl := lt_of_get hr0
  have hk2 : (hp ++ [Res.onn e m c])[k]? = hp[k]? := List.getElem?_append_left hkl
  have hr2 : bview (hp ++ [Res.onn e m c])[k]? = some (t, .c l) := by rw [hk2]; exact hr
  obtain ⟨hn2, hbk2, r1, hr1, hbl3, hbl4, hput2⟩ := h1.bv hr2
  have hv : (Cont.c (l.set i (.o hp.length))).vals (γ ++ [Nm.s (.slice none 0 0)]) = (Cont.c l).vals (γ ++ [Nm.s (.slice none 0 0)]) := by
    simp only [Cont.vals, List.map_set]
    have e1 : At.val (γ ++ [Nm.s (.slice none 0 0)]) (.o hp.length) = .slice none 0 0 := nmS_last hl _
    rw [e1]
    apply List.ext_getElem?
    intro j
    by_cases hj : i = j
    · subst hj
      rw [List.getElem?_set]
      have hil := lt_of_get hi
      simp only [if_true, List.length_map]
      rw [if_pos hil, List.getElem?_map, hi]
      rfl
    · rw [List.getElem?_set_ne hj]
  have := h1.update (r' := bput (hp ++ [Res.onn e m c])[k]? t (.c (l.set i (.o hp.length)))) hr1 (b := nmB _ k) (by rw [hbl3]) (Keeps.refl _ _) (hput2 _ _ (by rw [hv]; exact hbk2)) (.inl (hbl4 _))
  rw [hk2, List.set_append_left _ _ hkl] at this
  exact this
theorem loop_ghostCN {P : Program} {w0 : World} {ow : Nat → Prop} {n : Nat} {c : Code} {s : S} {K : Exit → S → Prop} (k i : Nat) (t e : TypeId) (m : Nat) (l : List At) (ct : Cont) (hm : 0 < m) (hr : bview s.hp[k]? = some (t, .c l)) (hi : l[i]? = some (.v (.slice none 0 0))) (hc : ct.len = 0) (hb : s.bnd)
    (h : LoopG P w0 ow n c ⟨s.fr, s.hp.set k (bput s.hp[k]? t (.c (l.set i (.o s.hp.length)))) ++ [.onn e m ct]⟩ K) : LoopG P w0 ow n c s K := fun a w ⟨γ, hf⟩ =>
  h a w ⟨_, hf.sat.ghostN hm hr hi hc hb.2, hf.defers, hf.size, fun u sv hu => by
    rw [hf.at_ u sv hu]
    exact (Sv.ext (by rw [hf.sat.len]; exact hb.1 _ (Fr.get_mem hu))).symm⟩
/-! ### Groups, and their clients -/
def idsFct (g : GrR) : Fct := ⟨g.ids.val, g.ids.l.length, g.ids.l.map (Value.int .i64)⟩
def GrH (gs : List GrS) (v : Value) (B : Nat → Prop) (w : World) : Prop := ∃ (gR : List GrR) (A : Option Addr) (c : Nat), gR.map GrR.gr = gs ∧ v = .slice A gR.length c ∧ Fct.ok ⟨v, gR.length, gR.flatMap grV⟩ B w ∧ ∀ g ∈ gR, (idsFct g).ok B w
def GrRep (gs : List GrS) : Rep where
  H := GrH gs
  one h := by obtain ⟨gR, A, c, _, rfl, _⟩ := h; exact ⟨rfl, trivial⟩
  keep h hb hk hn := by
    obtain ⟨gR, A, c, h1, h2, h3, h4⟩ := h
    exact ⟨gR, A, c, h1, h2, h3.keep hb hk hn, fun g hg => (h4 g hg).keep hb hk hn⟩
theorem Fct.ok.rd {f : Fct} {B : Nat → Prop} {w : World} {A : Option Addr} {c : Nat} (h : f.ok B w) (hv : f.v = .slice A f.n c) (hB : ∀ b, B b → b < w.heap.size) : f.n ≤ c ∧ RdV w w.heap.size A f.vs := by
  obtain ⟨A', c', h1, h2, h3, h4⟩ := h
  rw [hv] at h1
  injection h1 with e1 _ e3
  subst e1 e3
  refine ⟨h2, fun hp => ?_⟩
  obtain ⟨b, off, e, hb, h5⟩ := h4 hp
  exact ⟨b, off, e, hB b hb, h5⟩
/-- A slice of structs of the call's own, as a fact. -/
theorem fct_onn {w0 w : World} {ow : Nat → Prop} {γ : List Nm} {hp : List Res} {j m : Nat} {e : TypeId} {c : Cont} {vs : List Value} {n : Nat} (hS : Sat w0 ow γ hp w) (hj : hp[j]? = some (.onn e m c)) (hv : c.vals γ = vs) (hn : vs.length = n * m) :
    ∃ A cap, nmS γ j = .slice A n cap ∧ n ≤ cap ∧ Fct.ok ⟨.slice A n cap, n, vs⟩ (fun b => (nmS γ j).ownBlock = some b) w := by
  have h := (hS.holds j _ hj).2
  rw [hv] at h
  have hm := h.1
  obtain ⟨A, n', cap, h1, h2, h3, h4, h5, h6, h7⟩ := h.rd
  have : n' = n := Nat.eq_of_mul_eq_mul_right hm (by rw [← h2, hn])
  subst this
  refine ⟨A, cap, h1, h3, A, cap, rfl, h3, h4, fun hp => ?_⟩
  obtain ⟨b, off, rfl, _, h8⟩ := h5 hp
  exact ⟨b, off, rfl, (h6 _ rfl).2.2, h8⟩
/-- What giveConf leaves, with its groups told as one thing. -/
theorem sat_groups {w0 w : World} {ow : Nat → Prop} {γ : List Nm} {e1 e2 : TypeId} {vs : List Value} {gR : List GrR} {Fs : List Fct} (hS : Sat w0 ow γ [.onn e1 3 (.c (vC vs)), .onn e2 3 (.c (vC (gR.flatMap grV))), .abs (fctRep Fs)] w) (hF : ∀ g ∈ gR, idsFct g ∈ Fs) :
    ∃ γ', nmS γ' 0 = nmS γ 0 ∧ nmS γ' 1 = nmS γ 1 ∧ Sat w0 ow γ' [.onn e1 3 (.c (vC vs)), .abs (GrRep (gR.map GrR.gr))] w := by
  have hl := hS.len
  have hbr : ∀ r ∈ [Res.onn e1 3 (.c (vC vs)), .onn e2 3 (.c (vC (gR.flatMap grV))), .abs (fctRep Fs)], Res.bnd [Res.onn e1 3 (.c (vC vs)), .onn e2 3 (.c (vC (gR.flatMap grV))), .abs (fctRep Fs)].length r := by
    intro r hr
    simp only [List.mem_cons, List.not_mem_nil, or_false] at hr
    rcases hr with rfl | rfl | rfl
    · show ∀ x ∈ vC _, x.bnd 3
      rw [vC_forall]; exact fun v _ => trivial
    · show ∀ x ∈ vC _, x.bnd 3
      rw [vC_forall]; exact fun v _ => trivial
    · trivial
  obtain ⟨A, cap, h1, h2, h3⟩ := fct_onn (n := gR.length) hS (j := 1) rfl (vC_val γ _) (by rw [flat_len grV_len])
  obtain ⟨_, hlt, hv, hall⟩ := hS.holds 2 _ rfl
  let B : Nat → Prop := fun b => (nmS γ 1).ownBlock = some b ∨ nmM γ 2 b
  have hH : (GrRep (gR.map GrR.gr)).H (nmS γ 1) B w := ⟨gR, A, cap, rfl, h1, by rw [h1]; exact h3.mono fun b hb => .inl hb, fun g hg => (hall _ (hF g hg)).mono fun b hb => .inr hb⟩
  have h4 := hS.pack [1, 2] hbr (R := GrRep (gR.map GrR.gr)) (x := nmS γ 1) (B := B) (fun b hb => by
    rcases hb with hb | hb
    · exact ⟨1, _, by simp, rfl, hb⟩
    · exact ⟨2, _, by simp, rfl, hb⟩) hH
  have hle : leHp [0, 3] (goneAll [1, 2] [Res.onn e1 3 (.c (vC vs)), .onn e2 3 (.c (vC (gR.flatMap grV))), .abs (fctRep Fs)] ++ [Res.abs (GrRep (gR.map GrR.gr))]) [0, 3] [.onn e1 3 (.c (vC vs)), .abs (GrRep (gR.map GrR.gr))] := by
    simp only [push_cast, ↓Int.toNat_natCast, ↓Int.cast_ofNat_Int, Int.cast_ofNat_Int, ↓reduceIte, reduceCtorEq, Nat.reduceEqDiff, Nat.reduceLT, Nat.reduceLeDiff, Nat.reduceAdd, Nat.reduceSub, Nat.reduceMul, Int.reduceNeg, Int.reduceLE, Int.reduceLT, Int.reduceToNat, Int.reduceAdd, Int.reduceSub, Int.reduceMul, Int.reduceEq]
  obtain ⟨h5, _⟩ := h4.sel hle (by simp only [push_cast, ↓Int.toNat_natCast, ↓Int.cast_ofNat_Int, Int.cast_ofNat_Int, ↓reduceIte, reduceCtorEq, Nat.reduceEqDiff, Nat.reduceLT, Nat.reduceLeDiff, Nat.reduceAdd, Nat.reduceSub, Nat.reduceMul, Int.reduceNeg, Int.reduceLE, Int.reduceLT, Int.reduceToNat, Int.reduceAdd, Int.reduceSub, Int.reduceMul, Int.reduceEq]) (by
    intro r hr
    simp only [List.mem_cons, List.not_mem_nil, or_false] at hr
    rcases hr with rfl | rfl
    · show ∀ x ∈ vC _, x.bnd 2
      rw [vC_forall]; exact fun v _ => trivial
    · trivial)
  have hl3 : γ.length = 3 := hl
  refine ⟨_, ?_, ?_, h5⟩
  · show nmS (reγ [0, 3] _) 0 = _
    rw [re_nmS (by intro k hk; rcases k with _ | _ | k <;> simp [rn, hl3] at hk ⊢) (by decide)]
    show nmS (γ ++ [_]) 0 = _
    exact nmS_ext (by omega)
  · show nmS (reγ [0, 3] _) 1 = _
    rw [re_nmS (by intro k hk; rcases k with _ | _ | k <;> simp [rn, hl3] at hk ⊢) (by decide)]
    show nmS (γ ++ [_]) 3 = _
    unfold nmS
    rw [← hl3]
    simp
end Go.Proofs.YtiaeollemmkclaaDoor
