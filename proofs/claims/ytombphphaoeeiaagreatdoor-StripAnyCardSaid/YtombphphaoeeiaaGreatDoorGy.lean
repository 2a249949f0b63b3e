import Derived.Test.YtombphphaoeeiaaGreatDoorSr9
import Derived.Test.YtombphphaoeeiaaGreatDoorEsA
/- giveGroup as a call. No code in sight. -/
namespace Go.Proofs.YtombphphaoeeiaaGreatDoor
open Go.RowKit
set_option linter.unusedSimpArgs false
set_option linter.unusedVariables false
attribute [local irreducible] Callable CallOK CallG CallM DrawG LoopG symR symM
def grSv (k : Nat) (G : Grp) : Sv := .x (.g [.v (.slice G.pA G.ps.length G.pc), .v (.slice G.cA G.cm.length G.cc), .v (.int .i64 G.nd), .o k])
theorem giveGC {w0 : World} {hp : List Res} {r : RfG} {sv : Sv} (hsv : ∀ γ, sv.val γ = .agg r.vals.toArray) (hr : r.Ok w0) (hf : r.few) (hbr : ∀ q ∈ hp, Res.bnd hp.length q) : ∀ γ w, Sat w0 No γ hp w → Calls Tryz.prog 6 ([sv].map (Sv.val γ)).toArray w fun e w' =>
    ∃ (x : Grp × List Fct) (δ : List Nm), GivOk x.2 x.1 ∧ e = .returned ((grSv hp.length x.1).val (γ ++ δ)) ∧ Sat w0 No (γ ++ δ) (hp ++ [.mp .i64 (mclE x.1.gv), .abs (fctRep x.2)]) w' := fun γ w hS => by
  have e0 : ([sv].map (Sv.val γ)).toArray = (List.map (Sv.val []) [.x (.g r.cells)]).toArray := by
    rw [List.map_cons, List.map_nil, hsv γ]
    rfl
  rw [e0]
  refine (giveG_any r w (hr.later hS) hf).mono ?_
  rintro e w' ⟨x, γ1, hx, he, h1⟩
  refine ⟨x, γ1, hx, ?_, ?_⟩
  · have hl := hS.len
    have hl1 := h1.len
    rw [he]
    have e1 : nmS (γ ++ γ1) hp.length = nmS γ1 0 := by
      unfold nmS
      rw [← hl, List.getElem?_append_right (Nat.le_refl _), Nat.sub_self]
    show Ending.returned (Value.agg #[_, _, _, nmS γ1 0]) = Ending.returned (Value.agg #[_, _, _, nmS (γ ++ γ1) hp.length])
    rw [e1]
    rfl
  · have := hS.back (X := No) (γ1 := γ1) (hp1 := [.mp .i64 (mclE x.1.gv), .abs (fctRep x.2)]) [] (fun b h => h.elim) h1 hbr (by
      have bL := fun n => mclE_bnd n x.1.gv
      simp only [bL, push_cast, Nat.reduceAdd])
    have rL := fun ρ => mclE_ren ρ x.1.gv
    simp only [goneAll, rL, push_cast, Nat.reduceAdd] at this
    exact this
end Go.Proofs.YtombphphaoeeiaaGreatDoor
/- In a region that draws its order, with forks: calls whose answer is one of several. No program in sight. -/
namespace Go.Proofs.YtombphphaoeeiaaGreatDoor
open Go.RowKit
set_option linter.unusedSimpArgs false
set_option linter.unusedVariables false
set_option linter.unusedSectionVars false
theorem drawVX_rule {ι : Type} {P : Program} {w0 : World} {ow : Nat → Prop} {n id : Nat} {ops : List Oper} {s : S} {K : Exit → S → Prop} (Q : ι → Prop) (m : Nat) (G : List Nat) (k : Nat) (p : Pl) (s1 : ι → S) (hm : P.follows .mixedOrders = true) (hB : plTailB .any ops.toArray k p = true)
    (hml : m ≤ s.hp.length) (h : symQ P w0 ow n m G ops (fun s' => ∃ i, Q i ∧ Leads w0 ow n s' (s1 i)) p s) (hk : ∀ i, Q i → symR P w0 ow n ops (ops.drop k) (s1 i) (K .normal)) : DrawG P w0 ow n id ops s K := by
  rintro a w ⟨γ, hf⟩
  refine wp_region_plT k p hm hB (fun x => Sat w0 ow γ (visR m G s.hp) x) fun w2 hd => ?_
  have hf2 := Fits.drawn hf hd.out
  refine ⟨hf2.sat.vis hml, wpPl_mono (fun a' w' hq => ?_) _ _ _ _ (symQ_sound p s γ a w2 h hf2 hml)⟩
  obtain ⟨s', h1, i, hi, h2⟩ := hq
  refine wpList_mono (fun e a'' w'' hq => ?_) _ _ _ (symR_sound _ (s1 i) a' w' (hk i hi) (h2 _ _ h1))
  obtain ⟨rfl, s'', h3, h4⟩ := hq
  exact ⟨s'', h3, h4⟩
section
variable {P : Program} {w0 : World} {ow : Nat → Prop} {n : Nat}
theorem callQ_ex {ι : Type} {m : Nat} {G : List Nat} (Q : ι → Prop) (sv : ι → Sv) (hq : ι → List Res) {ops : List Oper} {o : Oper} {p : Pl} {f : FuncId} {xs : List Operand} {tys : Array TypeId} {s : S} {svs : List Sv} {K : S → Prop} (ho : o.op = .call { callee := .value (.func f), args := xs.toArray, argTypes := tys })
    (hcb : Callable P f) (hev : evs s.fr xs = some svs) (hc : ∀ γ w, Sat w0 ow γ s.hp w → Calls P f (svs.map (Sv.val γ)).toArray w fun e w' => ∃ i δ, Q i ∧ e = .returned ((sv i).val (γ ++ δ)) ∧ Sat w0 ow (γ ++ δ) (s.hp ++ hq i) w') (hd : dOk n o.dst) (hb : s.bnd) (he : ∀ i, (maskR G (s.hp ++ hq i)).take m = (maskR G s.hp).take m)
    (h : ∀ i, Q i → symQ P w0 ow n m G ops K p (S.put ⟨s.fr, s.hp ++ hq i⟩ o.dst (sv i))) : CallQ P w0 ow n m G ops o p s K := by
  intro γ a w hf hml
  unfold Oper.wp
  rw [run_call ho rfl hcb (args := (svs.map (Sv.val γ)).toArray) (by rw [List.map_toArray, evs_val hf hev])]
  simp only [Oper.upon]
  refine (hc γ w hf.sat).mono ?_
  rintro e w' ⟨i, δ, hi, rfl, hS'⟩
  have hfit := hf.put (d := o.dst) hS' (fun t sv' ht => Sv.ext (by rw [hf.sat.len]; exact hb.1 _ (Fr.get_mem ht))) hd (v := sv i) rfl
  have hhp : (S.put ⟨s.fr, s.hp ++ hq i⟩ o.dst (sv i)).hp = s.hp ++ hq i := by cases o.dst <;> rfl
  have hlen : (s.hp ++ hq i).length = s.hp.length + (hq i).length := List.length_append
  have h2 := symQ_sound p _ _ _ _ (h i hi) hfit (by rw [hhp]; omega)
  rw [hhp] at h2
  refine ⟨_, hS'.vis (by omega), fun x hx => ?_, h2⟩
  have e : visR m G (s.hp ++ hq i) = visR m G s.hp ++ gones (hq i).length := by
    unfold visR gones
    rw [he i, hlen, show s.hp.length + (hq i).length - m = (s.hp.length - m) + (hq i).length from by omega, List.append_assoc, List.replicate_append_replicate]
  have hx : Sat w0 ow (γ ++ δ) (visR m G (s.hp ++ hq i)) x := hx
  rw [e] at hx
  have hl := visR_length m G s.hp hml
  exact hx.front (by rw [hl]; exact hf.sat.len) (by rw [hl]; exact visR_bnd hb.2)
end
end Go.Proofs.YtombphphaoeeiaaGreatDoor
