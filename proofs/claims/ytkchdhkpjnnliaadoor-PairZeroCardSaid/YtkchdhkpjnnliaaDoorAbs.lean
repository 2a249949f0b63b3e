/- Facts on values that nobody turns any more: what they read, in blocks that the call owns. No program in sight. -/
import Derived.Test.YtkchdhkpjnnliaaDoorGh
namespace Go.Proofs.YtkchdhkpjnnliaaDoor
open Go.RowKit
set_option linter.unusedSimpArgs false
/-- A slice of so many elements, and the cells that it reads. -/
structure Fct where
  v : Value
  n : Nat
  vs : List Value
def Fct.ok (f : Fct) (B : Nat → Prop) (w : World) : Prop :=
  ∃ A c, f.v = .slice A f.n c ∧ f.n ≤ c ∧ c ≤ maxLen ∧ (0 < f.vs.length → ∃ b off, A = some ⟨b, off, none⟩ ∧ B b ∧ ∀ j u, f.vs[j]? = some u → w.cell? ⟨b, off + j, none⟩ = some u)
theorem cell_block {w w' : World} {p : Addr} (h : w'.heap[p.block]? = w.heap[p.block]?) : w'.cell? p = w.cell? p := by unfold World.cell?; rw [h]
theorem Fct.ok.keep {f : Fct} {B own : Nat → Prop} {w w' : World} (h : f.ok B w) (hb : ∀ b, B b → b < w.heap.size) (hk : Keeps own w w') (hn : ∀ b, B b → ¬ own b) : f.ok B w' := by
  obtain ⟨A, c, h1, h2, h3, h4⟩ := h
  refine ⟨A, c, h1, h2, h3, fun hp => ?_⟩
  obtain ⟨b, off, e, hB, h5⟩ := h4 hp
  exact ⟨b, off, e, hB, fun j u hu => (cell_block (p := ⟨b, off + j, none⟩) (hk.block b (hb b hB) (hn b hB))).trans (h5 j u hu)⟩
theorem Fct.ok.mono {f : Fct} {B B' : Nat → Prop} {w : World} (h : f.ok B w) (hB : ∀ b, B b → B' b) : f.ok B' w := by
  obtain ⟨A, c, h1, h2, h3, h4⟩ := h
  refine ⟨A, c, h1, h2, h3, fun hp => ?_⟩
  obtain ⟨b, off, e, hb, h5⟩ := h4 hp
  exact ⟨b, off, e, hB b hb, h5⟩
def fctRep (l : List Fct) : Rep where
  H v B w := v = .bool true ∧ ∀ f ∈ l, f.ok B w
  one h := by obtain ⟨rfl, _⟩ := h; exact ⟨rfl, trivial⟩
  keep h hb hk hn := ⟨h.1, fun f hf => (h.2 f hf).keep hb hk hn⟩
/-! ### One name's value, written out -/
section
variable (j : Nat) (v : Value)
def At.sub : At → At
  | .o k => if k = j then .v v else .o k
  | x => x
def Sc.sub : Sc → Sc
  | .a x => .a (x.sub j v)
  | .g l => .g (l.map (At.sub j v))
  | x => x
def Sv.sub : Sv → Sv
  | .x s => .x (s.sub j v)
  | .t l => .t (l.map (Sc.sub j v))
  | .f fn caps => .f fn (caps.map (At.sub j v))
def Cont.sub : Cont → Cont
  | .c l => .c (l.map (At.sub j v))
  | x => x
def Res.sub : Res → Res
  | .blk t c => .blk t (c.sub j v)
  | .own t c => .own t (c.sub j v)
  | .lit t c => .lit t (c.sub j v)
  | .str t c => .str t (c.sub j v)
  | .pin g t c => .pin g t (c.sub j v)
  | .onn t m c => .onn t m (c.sub j v)
  | x => x
def subFr : Fr → Fr
  | [] => []
  | (k, x) :: r => (k, x.sub j v) :: subFr r
end
section
variable {j : Nat} {v : Value} {γ : List Nm} (h : nmS γ j = v)
include h
theorem At.sub_val (x : At) : (x.sub j v).val γ = x.val γ := by
  cases x <;> simp only [At.sub]
  split
  · rename_i k hk
    subst hk
    simp only [At.val, h]
  · rfl
theorem mapAt_sub (l : List At) : (l.map (At.sub j v)).map (At.val γ) = l.map (At.val γ) := by
  rw [List.map_map]
  exact List.map_congr_left fun x _ => At.sub_val h x
theorem Sc.sub_val (x : Sc) : (x.sub j v).val γ = x.val γ := by
  cases x <;> simp only [Sc.sub, Sc.val]
  · exact At.sub_val h _
  · rw [mapAt_sub h]
theorem Sv.sub_val (x : Sv) : (x.sub j v).val γ = x.val γ := by
  cases x <;> simp only [Sv.sub, Sv.val]
  · exact Sc.sub_val h _
  · rename_i l
    rw [List.map_map]
    congr 2
    exact List.map_congr_left fun x _ => Sc.sub_val h x
  · rw [mapAt_sub h]
theorem Cont.sub_vals (c : Cont) : (c.sub j v).vals γ = c.vals γ := by
  cases c <;> simp only [Cont.sub, Cont.vals]
  exact mapAt_sub h _
omit h in
theorem Res.sub_has (r : Res) (k : Nat) : (r.sub j v).has γ k = r.has γ k := by cases r <;> rfl
theorem Res.sub_holds {r : Res} {k : Nat} {w : World} (hr : r.holds γ k w) : (r.sub j v).holds γ k w := by
  cases r <;> simp only [Res.sub, Res.holds, Cont.sub_vals h] at hr ⊢ <;> exact hr
theorem Sat.sub {w0 w : World} {ow : Nat → Prop} {hp : List Res} (hS : Sat w0 ow γ hp w) : Sat w0 ow γ (hp.map (Res.sub j v)) w := by
  have get : ∀ (k : Nat) (r : Res), (hp.map (Res.sub j v))[k]? = some r → ∃ q, hp[k]? = some q ∧ r = q.sub j v := by
    intro k r hr
    rw [List.getElem?_map] at hr
    cases hq : hp[k]? with
    | none => rw [hq] at hr; cases hr
    | some q => rw [hq] at hr; exact ⟨q, rfl, (Option.some.inj hr).symm⟩
  refine ⟨hS.keeps, by rw [List.length_map]; exact hS.len, ?_, ?_, ?_⟩
  · intro k r hr
    obtain ⟨q, hq, rfl⟩ := get k r hr
    exact Res.sub_holds h (hS.holds k q hq)
  · intro k r b hr hb
    obtain ⟨q, hq, rfl⟩ := get k r hr
    rw [Res.sub_has] at hb
    exact hS.mine k q b hq hb
  · intro i k r r' b hr hr' hik hb
    obtain ⟨q, hq, rfl⟩ := get i r hr
    obtain ⟨q', hq', rfl⟩ := get k r' hr'
    rw [Res.sub_has] at hb ⊢
    exact hS.apart i k q q' b hq hq' hik hb
end
theorem subFr_get {j : Nat} {v : Value} : ∀ {fr : Fr} {t : Nat} {sv : Sv}, Fr.get (subFr j v fr) t = some sv → ∃ x, Fr.get fr t = some x ∧ sv = x.sub j v
  | [], t, sv, h => by cases h
  | (k, x) :: r, t, sv, h => by
    simp only [subFr, Fr.get] at h ⊢
    split
    · rename_i hk
      rw [if_pos hk] at h
      exact ⟨x, rfl, (Option.some.inj h).symm⟩
    · rename_i hk
      rw [if_neg hk] at h
      exact subFr_get h
/-! ### A slice of the call's own becomes a fact -/
section
variable {w0 w : World} {ow : Nat → Prop} {γ : List Nm} {hp : List Res} {j k : Nat} {e : TypeId} {c : Cont} {l : List Fct} {vs : List Value}
theorem val_same {γ γ' : List Nm} (h1 : nmB γ' = nmB γ) (h2 : nmS γ' = nmS γ) (x : At) : x.val γ' = x.val γ := by
  cases x <;> simp only [At.val, h1, h2]
theorem vals_same {γ γ' : List Nm} (h1 : nmB γ' = nmB γ) (h2 : nmS γ' = nmS γ) (c : Cont) : c.vals γ' = c.vals γ := by
  cases c <;> simp only [Cont.vals]
  exact List.map_congr_left fun x _ => val_same h1 h2 x
theorem sc_same {γ γ' : List Nm} (h1 : nmB γ' = nmB γ) (h2 : nmS γ' = nmS γ) (x : Sc) : x.val γ' = x.val γ := by
  cases x <;> simp only [Sc.val]
  · exact val_same h1 h2 _
  · congr 2; exact List.map_congr_left fun x _ => val_same h1 h2 x
theorem sv_same {γ γ' : List Nm} (h1 : nmB γ' = nmB γ) (h2 : nmS γ' = nmS γ) (x : Sv) : x.val γ' = x.val γ := by
  cases x <;> simp only [Sv.val]
  · exact sc_same h1 h2 _
  · congr 2; exact List.map_congr_left fun x _ => sc_same h1 h2 x
  · congr 2; exact List.map_congr_left fun x _ => val_same h1 h2 x
/-- What resource j owns goes over to the facts. -/
theorem Sat.absorb (hS : Sat w0 ow γ hp w) {r : Res} (hj : hp[j]? = some r) (hr : ∀ b, r.has γ j b = ((nmS γ j).ownBlock = some b)) (hk : hp[k]? = some (.abs (fctRep l))) (hjk : j ≠ k) {f : Fct} (hf : f.ok (fun b => (nmS γ j).ownBlock = some b) w) :
    ∃ γ', nmB γ' = nmB γ ∧ nmS γ' = nmS γ ∧ Sat w0 ow γ' ((hp.set j .gone).set k (.abs (fctRep (l ++ [f])))) w := by
  obtain ⟨hn, hlt, hv, hall⟩ := hS.holds k _ hk
  have hkl := lt_of_get hk
  have hgl : k < γ.length := by rw [hS.len]; exact hkl
  let B' : Nat → Prop := fun b => nmM γ k b ∨ (nmS γ j).ownBlock = some b
  have g1 : ∀ i, i ≠ k → (γ.set k (.m (.bool true) B'))[i]? = γ[i]? := fun i hi => List.getElem?_set_ne fun e => hi e.symm
  have g2 : (γ.set k (.m (.bool true) B'))[k]? = some (.m (.bool true) B') := List.getElem?_set_self hgl
  have eB : nmB (γ.set k (.m (.bool true) B')) = nmB γ := by
    funext i
    by_cases hi : i = k
    · subst hi; unfold nmB; rw [g2, hn]
    · unfold nmB; rw [g1 i hi]
  have eS : nmS (γ.set k (.m (.bool true) B')) = nmS γ := by
    funext i
    by_cases hi : i = k
    · subst hi; rw [hv]; unfold nmS; rw [g2]
    · unfold nmS; rw [g1 i hi]
  have eM : ∀ i, i ≠ k → nmM (γ.set k (.m (.bool true) B')) i = nmM γ i := fun i hi => by unfold nmM; rw [g1 i hi]
  have eMk : nmM (γ.set k (.m (.bool true) B')) k = B' := by unfold nmM; rw [g2]
  have hhas : ∀ (q : Res) (i : Nat), i ≠ k → q.has (γ.set k (.m (.bool true) B')) i = q.has γ i := fun q i hi => by
    cases q <;> simp only [Res.has, eB, eS, eM i hi]
  have hholds : ∀ (q : Res) (i : Nat), i ≠ k → q.holds γ i w → q.holds (γ.set k (.m (.bool true) B')) i w := fun q i hi hq => by
    cases q <;> simp only [Res.holds, eB, eS, eM i hi, g1 i hi, vals_same eB eS] at hq ⊢ <;> exact hq
  have get : ∀ (i : Nat) (q : Res), ((hp.set j .gone).set k (.abs (fctRep (l ++ [f]))))[i]? = some q → (i = k ∧ q = .abs (fctRep (l ++ [f]))) ∨ (i ≠ k ∧ i = j ∧ q = .gone) ∨ (i ≠ k ∧ i ≠ j ∧ hp[i]? = some q) := by
    intro i q hq
    by_cases hi : i = k
    · subst hi
      rw [List.getElem?_set_self (by rw [List.length_set]; exact hkl)] at hq
      exact .inl ⟨rfl, (Option.some.inj hq).symm⟩
    · rw [List.getElem?_set_ne (fun e => hi e.symm)] at hq
      by_cases hi2 : i = j
      · subst hi2
        rw [List.getElem?_set_self (lt_of_get hj)] at hq
        exact .inr (.inl ⟨hi, rfl, (Option.some.inj hq).symm⟩)
      · rw [List.getElem?_set_ne (fun e => hi2 e.symm)] at hq
        exact .inr (.inr ⟨hi, hi2, hq⟩)
  have hB : ∀ b, B' b → ∃ (i : Nat) (q : Res), hp[i]? = some q ∧ q.has γ i b ∧ (i = k ∨ i = j) := by
    rintro b (hb | hb)
    · exact ⟨k, _, hk, hb, .inl rfl⟩
    · exact ⟨j, r, hj, by rw [hr]; exact hb, .inr rfl⟩
  refine ⟨γ.set k (.m (.bool true) B'), eB, eS, hS.keeps, by simp [hS.len], ?_, ?_, ?_⟩
  · intro i q hq
    rcases get i q hq with ⟨rfl, rfl⟩ | ⟨_, _, rfl⟩ | ⟨h1, h2, h3⟩
    · refine ⟨by rw [g2, eS, hv, eMk], ?_, by rw [eS]; exact hv, ?_⟩
      · intro b hb
        rw [eMk] at hb
        obtain ⟨i, q, h1, h2, _⟩ := hB b hb
        exact (hS.mine i q b h1 h2).2
      · rw [eMk]
        intro g hg
        rcases List.mem_append.1 hg with hg | hg
        · exact (hall g hg).mono fun b hb => .inl hb
        · rw [List.mem_singleton.1 hg]
          exact hf.mono fun b hb => .inr hb
    · trivial
    · exact hholds q i h1 (hS.holds i q h3)
  · intro i q b hq hb
    rcases get i q hq with ⟨rfl, rfl⟩ | ⟨_, _, rfl⟩ | ⟨h1, h2, h3⟩
    · have hb : B' b := by rw [← eMk]; exact hb
      obtain ⟨i, q, h1, h2, _⟩ := hB b hb
      exact hS.mine i q b h1 h2
    · exact hb.elim
    · rw [hhas q i h1] at hb
      exact hS.mine i q b h3 hb
  · intro i i' q q' b hq hq' hne hb hb'
    rcases get i q hq with ⟨e1, rfl⟩ | ⟨_, _, rfl⟩ | ⟨h1, h2, h3⟩
    · rcases get i' q' hq' with ⟨e2, rfl⟩ | ⟨_, _, rfl⟩ | ⟨h4, h5, h6⟩
      · exact hne (e1.trans e2.symm)
      · exact hb'
      · have hb : B' b := by subst e1; rw [← eMk]; exact hb
        rw [hhas q' i' h4] at hb'
        obtain ⟨m, q2, h7, h8, h9⟩ := hB b hb
        refine hS.apart m i' q2 q' b h7 h6 ?_ h8 hb'
        rcases h9 with rfl | rfl
        · exact fun e => h4 e.symm
        · exact fun e => h5 e.symm
    · exact hb
    · rw [hhas q i h1] at hb
      rcases get i' q' hq' with ⟨e2, rfl⟩ | ⟨_, _, rfl⟩ | ⟨h4, h5, h6⟩
      · have hb' : B' b := by subst e2; rw [← eMk]; exact hb'
        obtain ⟨m, q2, h7, h8, h9⟩ := hB b hb'
        refine hS.apart i m q q2 b h3 h7 ?_ hb h8
        rcases h9 with rfl | rfl
        · exact h1
        · exact h2
      · exact hb'
      · rw [hhas q' i' h4] at hb'
        exact hS.apart i i' q q' b h3 h6 hne hb hb'
theorem fct_own (hS : Sat w0 ow γ hp w) (hj : hp[j]? = some (.own e c)) (hv : ∀ γ, c.vals γ = vs) : ∃ A cap, nmS γ j = .slice A vs.length cap ∧ vs.length ≤ cap ∧ cap ≤ maxLen ∧ Fct.ok ⟨.slice A vs.length cap, vs.length, vs⟩ (fun b => (nmS γ j).ownBlock = some b) w := by
  have h := (hS.own hj).2
  rw [hv γ] at h
  obtain ⟨A, cap, h1, h2, h3, h4, h5⟩ := h.rd
  refine ⟨A, cap, h1, h2, h3, A, cap, rfl, h2, h3, fun hp => ?_⟩
  obtain ⟨b, off, rfl, _, h6⟩ := h4 hp
  obtain ⟨_, _, _, h7⟩ := h5 _ rfl
  exact ⟨b, off, rfl, h7, h6⟩
end
section
variable {P : Program} {w0 : World} {ow : Nat → Prop} {n : Nat} {s : S} {j k : Nat} {e : TypeId} {c : Cont} {l : List Fct} {vs : List Value}
/-- The state behind: the name is written out. -/
def absS (j k : Nat) (v : Value) (l : List Fct) (s : S) : S := ⟨subFr j v s.fr, ((s.hp.map (Res.sub j v)).set j .gone).set k (.abs (fctRep l))⟩
theorem fits_absorb {a : Act} {w : World} (hj : s.hp[j]? = some (.own e c)) (hv : ∀ γ, c.vals γ = vs) (hk : s.hp[k]? = some (.abs (fctRep l))) (hjk : j ≠ k) (hf : Fits w0 ow n s a w) :
    ∃ A cap, vs.length ≤ cap ∧ cap ≤ maxLen ∧ Fits w0 ow n (absS j k (.slice A vs.length cap) (l ++ [⟨.slice A vs.length cap, vs.length, vs⟩]) s) a w := by
  obtain ⟨γ, hf⟩ := hf
  obtain ⟨A, cap, h1, h2, h3, h4⟩ := fct_own hf.sat hj hv
  have hT := hf.sat.sub h1
  obtain ⟨γ', eB, eS, hS'⟩ := hT.absorb (j := j) (r := .own e (c.sub j _)) (by rw [List.getElem?_map, hj]; rfl) (fun b => rfl) (by rw [List.getElem?_map, hk]; rfl) hjk h4
  refine ⟨A, cap, h2, h3, γ', hS', hf.defers, hf.size, fun t sv ht => ?_⟩
  obtain ⟨x, hx, rfl⟩ := subFr_get ht
  rw [sv_same eB eS, Sv.sub_val h1]
  exact hf.at_ t x hx
theorem callG_absorb {ops rest : List Oper} {o : Oper} {K : S → Prop} (j k : Nat) (hj : s.hp[j]? = some (.own e c)) (hv : ∀ γ, c.vals γ = vs) (hk : s.hp[k]? = some (.abs (fctRep l))) (hjk : j ≠ k)
    (h : ∀ A cap, vs.length ≤ cap → cap ≤ maxLen → CallG P w0 ow n ops o rest (absS j k (.slice A vs.length cap) (l ++ [⟨.slice A vs.length cap, vs.length, vs⟩]) s) K) : CallG P w0 ow n ops o rest s K := fun a w hf => by
  obtain ⟨A, cap, h1, h2, h3⟩ := fits_absorb hj hv hk hjk hf
  exact h A cap h1 h2 a w h3
theorem loop_absorb {b : Code} {K : Exit → S → Prop} (j k : Nat) (hj : s.hp[j]? = some (.own e c)) (hv : ∀ γ, c.vals γ = vs) (hk : s.hp[k]? = some (.abs (fctRep l))) (hjk : j ≠ k)
    (h : ∀ A cap, vs.length ≤ cap → cap ≤ maxLen → LoopG P w0 ow n b (absS j k (.slice A vs.length cap) (l ++ [⟨.slice A vs.length cap, vs.length, vs⟩]) s) K) : LoopG P w0 ow n b s K := fun a w hf => by
  obtain ⟨A, cap, h1, h2, h3⟩ := fits_absorb hj hv hk hjk hf
  exact h A cap h1 h2 a w h3
theorem draw_absorb {id : Nat} {ops : List Oper} {K : Exit → S → Prop} (j k : Nat) (hj : s.hp[j]? = some (.own e c)) (hv : ∀ γ, c.vals γ = vs) (hk : s.hp[k]? = some (.abs (fctRep l))) (hjk : j ≠ k)
    (h : ∀ A cap, vs.length ≤ cap → cap ≤ maxLen → DrawG P w0 ow n id ops (absS j k (.slice A vs.length cap) (l ++ [⟨.slice A vs.length cap, vs.length, vs⟩]) s) K) : DrawG P w0 ow n id ops s K := fun a w hf => by
  obtain ⟨A, cap, h1, h2, h3⟩ := fits_absorb hj hv hk hjk hf
  exact h A cap h1 h2 a w h3
/-- No fact as yet. -/
theorem fits_fct {a : Act} {w : World} (hb : s.bnd) (hf : Fits w0 ow n s a w) : Fits w0 ow n ⟨s.fr, s.hp ++ [.abs (fctRep [])]⟩ a w := by
  obtain ⟨γ, hf⟩ := hf
  have hl := hf.sat.len
  have e1 : (γ ++ [Nm.m (.bool true) (fun _ => False)])[s.hp.length]? = some (.m (.bool true) (fun _ => False)) := by rw [← hl]; simp
  have e2 : nmS (γ ++ [Nm.m (.bool true) (fun _ => False)]) s.hp.length = .bool true := by unfold nmS; rw [e1]
  have e3 : nmM (γ ++ [Nm.m (.bool true) (fun _ => False)]) s.hp.length = fun _ => False := by unfold nmM; rw [e1]
  have hS : Sat w0 ow (γ ++ [.m (.bool true) (fun _ => False)]) (s.hp ++ [.abs (fctRep [])]) w := by
    refine hf.sat.push (X := fun _ => False) (Keeps.refl _ _) (fun b h => h.elim) hb.2 ⟨by rw [e1, e2, e3], fun b h => by rw [e3] at h; exact h.elim, by rw [e2]; exact ⟨rfl, fun f h => by cases h⟩⟩ ?_
    intro b hb
    simp only [Res.has, e3] at hb
  refine ⟨_, hS, hf.defers, hf.size, fun u sv hu => ?_⟩
  rw [hf.at_ u sv hu]
  exact (Sv.ext (by rw [hl]; exact hb.1 _ (Fr.get_mem hu))).symm
theorem loop_fct {b : Code} {K : Exit → S → Prop} (hb : s.bnd) (h : LoopG P w0 ow n b ⟨s.fr, s.hp ++ [.abs (fctRep [])]⟩ K) : LoopG P w0 ow n b s K := fun a w hf => h a w (fits_fct hb hf)
theorem callG_fct {ops rest : List Oper} {o : Oper} {K : S → Prop} (hb : s.bnd) (h : CallG P w0 ow n ops o rest ⟨s.fr, s.hp ++ [.abs (fctRep [])]⟩ K) : CallG P w0 ow n ops o rest s K := fun a w hf => h a w (fits_fct hb hf)
/-- What a fact says to whom is called. -/
theorem fct_rd {hp : List Res} {γ : List Nm} {w : World} (hS : Sat w0 ow γ hp w) (hk : hp[k]? = some (.abs (fctRep l))) {f : Fct} (hf : f ∈ l) : ∃ A c, f.v = .slice A f.n c ∧ f.n ≤ c ∧ c ≤ maxLen ∧ RdV w w.heap.size A f.vs := by
  obtain ⟨_, hlt, _, hall⟩ := hS.holds k _ hk
  obtain ⟨A, c, h1, h2, h3, h4⟩ := hall f hf
  refine ⟨A, c, h1, h2, h3, fun hp => ?_⟩
  obtain ⟨b, off, e, hB, h5⟩ := h4 hp
  exact ⟨b, off, e, hlt b hB, h5⟩
end
/-- Where a slice shows the values of a list, told one by one. -/
structure FM {α : Type} [Inhabited α] (f : α → Value) (w0 : World) (ow : Nat → Prop) (A : Option Addr) (l : List α) : Prop where
  some_ : 0 < l.length → A.isSome = true
  cell : ∀ i, i < l.length → cellOf w0 (pAdd A i) = f (ix l i)
  ok : ∀ i, i < l.length → rawOk w0 ow (pAdd A i)
theorem FM.of {α : Type} [Inhabited α] {f : α → Value} {w0 : World} {A : Option Addr} {l : List α} (h : RdV w0 w0.heap.size A (l.map f)) : FM f w0 No A l :=
  ⟨fun hp => (FV.no h).some_ (by simpa using hp), fun i hi => ((FV.no h).cell (ix_map f l i hi)).1, fun i hi => ((FV.no h).cell (ix_map f l i hi)).2⟩
/-- A row of numbers, as it lies there. -/
structure Rw where
  A : Option Addr
  c : Nat
  l : List UInt32
deriving Inhabited
def Rw.val (r : Rw) : Value := .slice r.A r.l.length r.c
def Rw.fct (r : Rw) : Fct := ⟨.slice r.A r.l.length r.c, r.l.length, r.l.map vU32⟩
theorem mapV_sub (j : Nat) (v : Value) {α : Type} (f : α → Value) (l : List α) : (l.map fun x => At.v (f x)).map (At.sub j v) = l.map fun x => At.v (f x) := by rw [List.map_map]; rfl
theorem mapV_ren (ρ : List Nat) {α : Type} (f : α → Value) (l : List α) : (l.map fun x => At.v (f x)).map (At.ren ρ) = l.map fun x => At.v (f x) := by rw [List.map_map]; rfl
theorem mapV_forall {Q : At → Prop} {α : Type} (f : α → Value) (l : List α) : (∀ x ∈ l.map fun x => At.v (f x), Q x) = ∀ x ∈ l, Q (.v (f x)) := propext List.forall_mem_map
attribute [push_cast] mapV_sub mapV_ren mapV_forall
attribute [push_cast] absS subFr At.sub Sc.sub Sv.sub Cont.sub Res.sub
end Go.Proofs.YtkchdhkpjnnliaaDoor
