import Derived.Test.YtiaeollemmkclaaDoorMgA
import Derived.Test.YtiaeollemmkclaaDoorDrT
import Derived.Test.YtiaeollemmkclaaDoorAbs
/- Layer 16: msg.read, as Decode sees it; a message of the call's own shows what is said. -/
namespace Go.Proofs.YtiaeollemmkclaaDoor
open Go.RowKit
set_option linter.unusedSimpArgs false
set_option linter.unusedVariables false
section
variable {w0 w : World} {ow : Nat → Prop} {γ : List Nm} {hp : List Res}
theorem has_bview {k : Nat} {t : TypeId} {c : Cont} (h : bview hp[k]? = some (t, c)) : ∃ r, hp[k]? = some r ∧ r.has γ k = fun b => some (nmB γ k) = some b := by
  cases hq : hp[k]? with
  | none => rw [hq] at h; cases h
  | some r =>
    rw [hq] at h
    refine ⟨r, rfl, ?_⟩
    cases r <;> first | rfl | cases h
/-- Two variables handed over, and what else there is. -/
theorem Sat.hand2 {k k2 : Nat} {t t2 : TypeId} {c c2 : Cont} {ρ : List Nat} {hp0 : List Res} (hS : Sat w0 ow γ hp w) (hr : bview hp[k]? = some (t, c)) (hr2 : bview hp[k2]? = some (t2, c2)) (hne : k ≠ k2)
    (hle : leHp ρ ((hp.set k (.pin (nmB γ k) t c)).set k2 (.pin (nmB γ k2) t2 c2)) ρ hp0) (hn : ndup ρ) (hb : ∀ r ∈ hp0, Res.bnd hp0.length r) :
    Sat w (Owns (reγ ρ γ) hp0) (reγ ρ γ) hp0 w ∧ (∀ b, Owns (reγ ρ γ) hp0 b → ∃ (k' : Nat) (r : Res), k' ∈ ρ ∧ hp[k']? = some r ∧ r.has γ k' b) ∧ ∀ sv : Sv, sv.bnd ρ.length → sv.val (reγ ρ γ) = (sv.ren ρ).val γ := by
  have hT := hS.topin' hr
  have hr2' : bview (hp.set k (.pin (nmB γ k) t c))[k2]? = some (t2, c2) := by rw [List.getElem?_set_ne hne]; exact hr2
  obtain ⟨a1, a2, a3⟩ := hT.hand hr2' hle hn hb
  refine ⟨a1, fun b hbb => ?_, a3⟩
  obtain ⟨k', r, h1, h2, h3⟩ := a2 b hbb
  by_cases e : k = k'
  · subst e
    obtain ⟨r0, hr0, hh⟩ := has_bview (γ := γ) hr
    refine ⟨k, r0, h1, hr0, ?_⟩
    rw [List.getElem?_set_self (lt_of_get hr0)] at h2
    cases h2
    rw [hh]
    exact h3
  · rw [List.getElem?_set_ne e] at h2
    exact ⟨k', r, h1, h2, h3⟩
/-- A message of the call's own. -/
theorem showsMg_own {m : MgS} {a b c d : Nat} (hf : m.Few) (ha : hp[a]? = some (.own 3 (.i64 m.ids))) (hb : hp[b]? = some (.own 27 (.u64 m.ns))) (hc : hp[c]? = some (.onn 160 2 (.c (pcs m.ps)))) (hd : hp[d]? = some (.own 136 (.u32 m.xs))) :
    ShowsMg w0 hp (.x (.g (mgO m a b c d))) m := fun γ w hS => by
  obtain ⟨A1, c1, e1, b1, q1⟩ := shows_own (vs := m.ids.map (Value.int .i64)) ha (fun _ => rfl) γ w hS
  obtain ⟨A2, c2, e2, b2, q2⟩ := shows_own (vs := m.ns.map vU64) hb (fun _ => rfl) γ w hS
  obtain ⟨A3, c3, e3, b3, q3⟩ := showsR_pcs hc γ w hS
  obtain ⟨A4, c4, e4, b4, q4⟩ := shows_own (vs := m.xs.map vU32) hd (fun _ => rfl) γ w hS
  rw [List.length_map] at e1 e2 e4 b1 b2 b4
  refine ⟨⟨m.k, m.pl, m.ot, m.cl, m.ge, m.nu, m.sm, ⟨A1, c1, m.ids⟩, ⟨A2, c2, m.ns⟩, ⟨A3, c3, m.ps⟩, ⟨A4, c4, m.xs⟩, m.re⟩, ?_, ⟨hf.sm, ⟨b1, hf.ids, q1⟩, ⟨b2, hf.ns, q2⟩, ⟨b3, hf.ps, q3⟩, ⟨b4, hf.xs, q4⟩⟩, rfl⟩
  have e1 : At.val γ (.o a) = .slice A1 m.ids.length c1 := e1
  have e2 : At.val γ (.o b) = .slice A2 m.ns.length c2 := e2
  have e3 : At.val γ (.o c) = .slice A3 m.ps.length c3 := e3
  have e4 : At.val γ (.o d) = .slice A4 m.xs.length c4 := e4
  show Value.agg _ = _
  unfold mgO
  rw [mgL_val, e1, e2, e3, e4]
  rfl
end
theorem ghost_mg (y : UInt8) (a b c d : Nat) : ((((mgA { zeroR with k := y }).set 38 (.o a)).set 39 (.o b)).set 40 (.o c)).set 41 (.o d) = mgO { zeroM with k := y } a b c d := rfl
theorem zeroR_set (y : UInt8) : (mgA zeroR).set 0 (.v (vU8 y)) = mgA { zeroR with k := y } := rfl
theorem ghost_at (y : UInt8) : (mgA { zeroR with k := y })[38]? = some (.v (.slice none 0 0)) ∧ (mgA { zeroR with k := y })[39]? = some (.v (.slice none 0 0)) ∧ (mgA { zeroR with k := y })[40]? = some (.v (.slice none 0 0)) ∧ (mgA { zeroR with k := y })[41]? = some (.v (.slice none 0 0)) := ⟨rfl, rfl, rfl, rfl⟩
attribute [local irreducible] Callable CallOK CallG CallM DrawG LoopG symR symM
attribute [local irreducible] mgO mgA wiM chkS may chI okV mayErr intsU numS numsOfS rowOfS sumOfS idsQ pubQ zipQ formS
section
variable {w : World} {s t : RS} {m m' : MgS} {A : Option Addr} {vs : List Value} {n cp : Nat} {Fs : List Fct} {k c : UInt8} {i : Nat} {b : Bool}
set_option maxRecDepth 100000 in
theorem readD (h : s.From A vs) (hf : ⟨.slice A n cp, n, vs⟩ ∈ Fs) (hR : ∀ X w, s.Ok X w → RdM c s t m m' b X w) :
    CallOK Tryd.prog w No 93 [.x (.a (.p 1 0)), .x (.a (.p 2 0)), .x (.a (.v (.int .i32 (chI c))))] [.blk 89 (.c (mgA zeroR)), .blk 132 (.c [.v (.slice s.A s.l.length s.c), .v (.bool s.bad)]), .blk 89 (.c (mgO m 3 4 5 6)), .own 3 (.i64 m.ids), .own 27 (.u64 m.ns), .onn 160 2 (.c (pcs m.ps)), .own 136 (.u32 m.xs), .abs (fctRep Fs), .it (formS k) i] (.x (.a (.v (.bool b)))) (p2S [.blk 89 (.c (mgA zeroR)), .blk 132 (.c [.v (.slice s.A s.l.length s.c), .v (.bool s.bad)]), .blk 89 (.c (mgO m 3 4 5 6)), .own 3 (.i64 m.ids), .own 27 (.u64 m.ns), .onn 160 2 (.c (pcs m.ps)), .own 136 (.u32 m.xs), .abs (fctRep Fs), .it (formS k) i] [1, 2, 3, 4, 5, 6] 1 2 132 89 (.c [.v (.slice t.A t.l.length t.c), .v (.bool t.bad)]) (.c (mgO m' 2 3 4 5)) [.own 3 (.i64 m'.ids), .own 27 (.u64 m'.ns), .onn 160 2 (.c (pcs m'.ps)), .own 136 (.u32 m'.xs)] 0 0) := by
  have ob := fun (m : MgS) a b c d n => mgO_bnd m a b c d n
  have zb := fun n => mgA_bnd zeroR n
  simp only [At.bnd] at ob zb
  refine callOK_pin2 [1, 2, 3, 4, 5, 6] 1 2 (.c [.v (.slice t.A t.l.length t.c), .v (.bool t.bad)]) (.c (mgO m' 2 3 4 5)) [.own 3 (.i64 m'.ids), .own 27 (.u64 m'.ns), .onn 160 2 (.c (pcs m'.ps)), .own 136 (.u32 m'.xs)] _ rfl rfl (by simp (config := { maxSteps := 1000000 }) only [ob, zb, pcs_forall, push_cast, Nat.reduceLT, Nat.reduceAdd]) (fun g g2 => by simp (config := { maxSteps := 1000000 }) only [ob, pcs_forall, push_cast, Nat.reduceLT, Nat.reduceAdd]) (fun g g2 => by simp (config := { maxSteps := 1000000 }) only [ob, zb, pcs_ren, pcs_forall, ↓mgO_cren, push_cast, ↓reduceIte, Nat.reduceLT, Nat.reduceAdd]) (fun g g2 => by simp (config := { maxSteps := 1000000 }) only [ob, zb, pcs_ren, pcs_forall, ↓mgO_cren, ↓mgA_cren, push_cast, ↓reduceIte, Nat.reduceEqDiff, Nat.reduceLT, Nat.reduceAdd]) (by simp (config := { maxSteps := 1000000 }) only [push_cast, Nat.reduceAdd]) (by simp (config := { maxSteps := 1000000 }) only [mgO_ren, ↓mgO_cbnd, ↓mgO_cren, push_cast, ↓reduceIte, Nat.reduceEqDiff, Nat.reduceLT, Nat.reduceAdd]) (fun _ _ => rfl) (fun _ _ => rfl) (fun _ _ => rfl) (fun _ _ => rfl) (fun _ _ => rfl) fun γ w' hS => ?_
  obtain ⟨g1, g2, g3⟩ := hS.hand2 (k := 1) (k2 := 2) (ρ := [1, 2, 3, 4, 5, 6]) (hp0 := [.pin (nmB γ 1) 132 (.c [.v (.slice s.A s.l.length s.c), .v (.bool s.bad)]), .pin (nmB γ 2) 89 (.c (mgO m 2 3 4 5)), .own 3 (.i64 m.ids), .own 27 (.u64 m.ns), .onn 160 2 (.c (pcs m.ps)), .own 136 (.u32 m.xs)]) rfl rfl (by decide) (by simp (config := { maxSteps := 1000000 }) only [pcs_ren, ↓mgO_cren, push_cast]) (by simp (config := { maxSteps := 1000000 }) only [push_cast, Nat.reduceEqDiff]) (by simp (config := { maxSteps := 1000000 }) only [ob, pcs_forall, push_cast, Nat.reduceLT, Nat.reduceAdd])
  refine ⟨_, g2, ?_⟩
  have hok : s.Ok _ w' := h _ w' (fct_fw hS (k := 7) rfl hf (Sub.refl A vs) [1, 2, 3, 4, 5, 6] (by decide) g2)
  have := hR _ w' hok (nmB γ 1) (nmB γ 2) _ g1
  rw [show List.map (Sv.val (reγ [1, 2, 3, 4, 5, 6] γ)) [.x (.a (.p 0 0)), .x (.a (.p 1 0)), .x (.a (.v (.int .i32 (chI c))))] = List.map (Sv.val γ) [.x (.a (.p 1 0)), .x (.a (.p 2 0)), .x (.a (.v (.int .i32 (chI c))))] from by
    simp only [List.map_cons, List.map_nil]; rw [g3 (.x (.a (.p 0 0))) (by show (0 : Nat) < 6; omega), g3 (.x (.a (.p 1 0))) (by show (1 : Nat) < 6; omega)]; rfl] at this
  exact this
end
end Go.Proofs.YtiaeollemmkclaaDoor
/- A nil slice of structs in a variable, told as one of the call's own. No program in sight. -/
namespace Go.Proofs.YtiaeollemmkclaaDoor
open Go.RowKit
set_option linter.unusedSimpArgs false
set_option linter.unusedVariables false
/-- A nil slice of structs in a variable, told as an empty one of the call's own. -/
theorem Sat.ghostN {w0 w : World} {ow : Nat → Prop} {γ : List Nm} {hp : List Res} {k i : Nat} {t e : TypeId} {m : Nat} {l : List At} {c : Cont} (hm : 0 < m) (hS : Sat w0 ow γ hp w) (hr : bview hp[k]? = some (t, .c l)) (hi : l[i]? = some (.v (.slice none 0 0))) (hc : c.len = 0) (hbr : ∀ r ∈ hp, Res.bnd hp.length r) :
    Sat w0 ow (γ ++ [.s (.slice none 0 0)]) ((hp.set k (bput hp[k]? t (.c (l.set i (.o hp.length))))) ++ [.onn e m c]) w := by
  have hl := hS.len
  have hcv : c.vals (γ ++ [Nm.s (.slice none 0 0)]) = [] := by
    rw [← List.length_eq_zero_iff, Cont.len_vals, hc]
  have h1 : Sat w0 ow (γ ++ [.s (.slice none 0 0)]) (hp ++ [.onn e m c]) w := by
    refine hS.push (X := fun _ => False) (Keeps.refl _ _) (fun b h => h.elim) hbr ⟨by rw [get_last hl, nmS_last hl], ?_⟩ ?_
    · rw [nmS_last hl, hcv]
      exact ⟨hm, 0, World.ownsRow_nil w 0 e m⟩
    · intro b hb
      simp only [Res.has, nmS_last hl, Value.ownBlock] at hb
      cases hb
  obtain ⟨hn, hbk, r0, hr0, hbl, hbl2, hput⟩ := hS.bv hr
  have hkl := lt_of_get hr0
  have hk2 : (hp ++ [Res.onn e m c])[k]? = hp[k]? := List.getElem?_append_left hkl
  have hr2 : bview (hp ++ [Res.onn e m c])[k]? = some (t, .c l) := by rw [hk2]; exact hr
  obtain ⟨hn2, hbk2, r1, hr1, hbl3, hbl4, hput2⟩ := h1.bv hr2
  have hv : (Cont.c (l.set i (.o hp.length))).vals (γ ++ [Nm.s (.slice none 0 0)]) = (Cont.c l).vals (γ ++ [Nm.s (.slice none 0 0)]) := by
    simp only [Cont.vals, List.map_set]
    have e1 : At.val (γ ++ [Nm.s (.slice none 0 0)]) (.o hp.length) = .slice none 0 0 := nmS_last hl _
    rw [e1]
    apply List.ext_getElem?
    intro j
    by_cases hj : i = j
    · subst hj
      rw [List.getElem?_set]
      have hil := lt_of_get hi
      simp only [if_true, List.length_map]
      rw [if_pos hil, List.getElem?_map, hi]
      rfl
    · rw [List.getElem?_set_ne hj]
  have := h1.update (r' := bput (hp ++ [Res.onn e m c])[k]? t (.c (l.set i (.o hp.length)))) hr1 (b := nmB _ k) (by rw [hbl3]) (Keeps.refl _ _) (hput2 _ _ (by rw [hv]; exact hbk2)) (.inl (hbl4 _))
  rw [hk2, List.set_append_left _ _ hkl] at this
  exact this
theorem loop_ghostCN {P : Program} {w0 : World} {ow : Nat → Prop} {n : Nat} {c : Code} {s : S} {K : Exit → S → Prop} (k i : Nat) (t e : TypeId) (m : Nat) (l : List At) (ct : Cont) (hm : 0 < m) (hr : bview s.hp[k]? = some (t, .c l)) (hi : l[i]? = some (.v (.slice none 0 0))) (hc : ct.len = 0) (hb : s.bnd)
    (h : LoopG P w0 ow n c ⟨s.fr, s.hp.set k (bput s.hp[k]? t (.c (l.set i (.o s.hp.length)))) ++ [.onn e m ct]⟩ K) : LoopG P w0 ow n c s K := fun a w ⟨γ, hf⟩ =>
  h a w ⟨_, hf.sat.ghostN hm hr hi hc hb.2, hf.defers, hf.size, fun u sv hu => by
    rw [hf.at_ u sv hu]
    exact (Sv.ext (by rw [hf.sat.len]; exact hb.1 _ (Fr.get_mem hu))).symm⟩
end Go.Proofs.YtiaeollemmkclaaDoor
