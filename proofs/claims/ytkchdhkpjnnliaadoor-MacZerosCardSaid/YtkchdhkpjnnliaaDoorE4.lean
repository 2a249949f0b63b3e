/- The engine's memory: what becomes of it when a block is made, written, read. No program in sight. -/
import Derived.Test.YtkchdhkpjnnliaaDoorE3
namespace Go.Proofs.YtkchdhkpjnnliaaDoor
open Go.RowKit

/-! ### Names that are added do not turn what is spelled without them -/
section
variable {γ δ : List Nm} {k n : Nat}
theorem getElem?_ext (h : k < γ.length) : (γ ++ δ)[k]? = γ[k]? := List.getElem?_append_left h
theorem nmB_ext (h : k < γ.length) : nmB (γ ++ δ) k = nmB γ k := by unfold nmB; rw [getElem?_ext h]
theorem nmS_ext (h : k < γ.length) : nmS (γ ++ δ) k = nmS γ k := by unfold nmS; rw [getElem?_ext h]
theorem At.ext {x : At} (h : x.bnd γ.length) : x.val (γ ++ δ) = x.val γ := by
  cases x <;> simp only [At.bnd] at h <;> simp only [At.val]
  · rw [nmB_ext h]
  · rw [nmB_ext h]
  · rw [nmS_ext h]
  · rw [nmS_ext h]
  · rw [nmS_ext h]
theorem mapAt_ext {l : List At} (h : ∀ x ∈ l, x.bnd γ.length) : l.map (At.val (γ ++ δ)) = l.map (At.val γ) := List.map_congr_left fun x hx => At.ext (h x hx)
theorem Sc.ext {x : Sc} (h : x.bnd γ.length) : x.val (γ ++ δ) = x.val γ := by
  cases x <;> simp only [Sc.bnd] at h <;> simp only [Sc.val]
  · exact At.ext h
  · rw [mapAt_ext h]
theorem Sv.ext {x : Sv} (h : x.bnd γ.length) : x.val (γ ++ δ) = x.val γ := by
  cases x <;> simp only [Sv.bnd] at h <;> simp only [Sv.val]
  · exact Sc.ext h
  · rename_i l
    rw [show l.map (Sc.val (γ ++ δ)) = l.map (Sc.val γ) from List.map_congr_left fun x hx => Sc.ext (h x hx)]
  · rw [mapAt_ext h]
theorem Cont.ext {c : Cont} (h : c.bnd γ.length) : c.vals (γ ++ δ) = c.vals γ := by
  cases c <;> simp only [Cont.bnd] at h <;> simp only [Cont.vals]
  exact mapAt_ext h
theorem Cont.len_vals (c : Cont) : (c.vals γ).length = c.len := by cases c <;> simp [Cont.vals, Cont.len]
theorem ix_map {α : Type} [Inhabited α] (f : α → Value) (l : List α) (i : Nat) (h : i < l.length) : (l.map f)[i]? = some (f (ix l i)) := by
  simp [ix, List.getD_eq_getElem?_getD, List.getElem?_eq_getElem h]
theorem Cont.get_val {c : Cont} {i : Nat} (h : i < c.len) : (c.vals γ)[i]? = some ((c.get i).val γ) := by
  cases c <;> simp only [Cont.len] at h <;> simp only [Cont.vals, Cont.get]
  · rename_i l
    rw [List.getElem?_map, List.getElem?_eq_getElem h, List.getD_eq_getElem?_getD, List.getElem?_eq_getElem h]
    rfl
  · exact ix_map _ _ _ h
  · exact ix_map _ _ _ h
  · exact ix_map _ _ _ h
  · exact ix_map _ _ _ h
  · rename_i l
    simp [ix, List.getD_eq_getElem?_getD, List.getElem?_eq_getElem h, At.val]
theorem toU8_val {n : Int} (h : inU8 n) : n8 (toU8 n) = n := by
  unfold inU8 at h
  unfold n8 toU8
  rw [UInt8.toNat_ofNat']
  omega
theorem toU32_val {n : Int} (h : inU32 n) : n32 (toU32 n) = n := by
  unfold inU32 at h
  unfold n32 toU32
  rw [UInt32.toNat_ofNat']
  omega
theorem toU64_val {n : Int} (h : inU64 n) : n64 (toU64 n) = n := by
  unfold inU64 at h
  unfold n64 toU64
  rw [UInt64.toNat_ofNat']
  omega
theorem Cont.set_val {c c' : Cont} {i : Nat} {x : At} {h : Prop} (hs : c.set i x = some (h, c')) (hh : h) : c'.vals γ = (c.vals γ).set i (x.val γ) ∧ c'.len = c.len := by
  unfold Cont.set at hs
  split at hs <;> first | (simp at hs; done) | (simp only [Option.some.injEq, Prod.mk.injEq] at hs; obtain ⟨rfl, rfl⟩ := hs)
  · exact ⟨by simp [Cont.vals, List.map_set], by simp [Cont.len]⟩
  · exact ⟨by simp only [Cont.vals, List.map_set, At.val, vU8, toU8_val hh], by simp [Cont.len]⟩
  · exact ⟨by simp only [Cont.vals, List.map_set, At.val, vU32, toU32_val hh], by simp [Cont.len]⟩
  · exact ⟨by simp only [Cont.vals, List.map_set, At.val, vU64, toU64_val hh], by simp [Cont.len]⟩
  · exact ⟨by simp only [Cont.vals, List.map_set, At.val], by simp [Cont.len]⟩
  · exact ⟨by simp only [Cont.vals, At.val], by simp [Cont.len]⟩
end

/-! ### The memory that the call owns -/
section
variable {w0 w w' : World} {ow X : Nat → Prop} {γ : List Nm} {hp : List Res} {k : Nat} {r : Res} {nm : Nm}
theorem Res.holds_keep {Y : Nat → Prop} (h : r.holds γ k w) (hk : Keeps Y w w') (hn : ∀ b, r.block γ k = some b → ¬ Y b) : r.holds γ k w' := by
  cases r with
  | gone => trivial
  | blk t c =>
    obtain ⟨h1, h2⟩ := h
    exact ⟨h1, hk.blk h2 (hn _ rfl)⟩
  | own e c =>
    obtain ⟨h1, h2⟩ := h
    exact ⟨h1, h2.keep hk fun b hb => hn b hb⟩
theorem Res.holds_ext {δ : List Nm} (hk : k < γ.length) (hb : r.bnd γ.length) (h : r.holds γ k w) : r.holds (γ ++ δ) k w := by
  cases r with
  | gone => trivial
  | blk t c => simp only [Res.holds, nmB_ext hk, getElem?_ext hk]; rw [Cont.ext hb]; exact h
  | own e c => simp only [Res.holds, nmS_ext hk, getElem?_ext hk]; rw [Cont.ext hb]; exact h
theorem Res.block_ext {δ : List Nm} (hk : k < γ.length) : r.block (γ ++ δ) k = r.block γ k := by
  cases r <;> simp only [Res.block]
  · rw [nmB_ext hk]
  · rw [nmS_ext hk]
theorem lt_of_get {α : Type} {l : List α} {k : Nat} {x : α} (h : l[k]? = some x) : k < l.length := by
  rcases Nat.lt_or_ge k l.length with h1 | h1
  · exact h1
  · rw [List.getElem?_eq_none h1] at h; cases h
theorem Sat.init (w0 : World) (ow : Nat → Prop) : Sat w0 ow [] [] w0 := ⟨Keeps.refl _ _, rfl, by simp, by simp, by simp⟩
/-- The world behind a change of blocks that no name holds: all is as it was. -/
theorem Sat.keep (h : Sat w0 ow γ hp w) (hk : Keeps X w w') (hX : ∀ b, X b → Owned w0 ow b ∧ ∀ (k : Nat) (r : Res), hp[k]? = some r → r.block γ k ≠ some b) : Sat w0 ow γ hp w' := by
  refine ⟨?_, h.len, ?_, ?_, h.apart⟩
  · have hs := h.keeps.size
    refine ⟨hk.os.trans h.keeps.os, hk.tape.trans h.keeps.tape, hk.output.trans h.keeps.output, Nat.le_trans hs hk.size, fun i hi ho => ?_⟩
    refine (hk.block i (by omega) fun hx => ?_).trans (h.keeps.block i hi ho)
    rcases (hX i hx).1 with h1 | h1
    · exact ho h1
    · omega
  · exact fun k r hr => Res.holds_keep (h.holds k r hr) hk fun b hb hx => (hX b hx).2 k r hr hb
  · intro k r b hr hb
    have h1 := h.mine k r b hr hb
    have := hk.size
    exact ⟨h1.1, by omega⟩
theorem Sat.later (h : Sat w0 ow γ hp w) (hb : Below w.heap.size w w') : Sat w0 ow γ hp w' :=
  h.keep (X := fun _ => False) ⟨hb.os, hb.tape, hb.output, hb.size, fun k hk _ => hb.block k hk⟩ (fun _ h => h.elim)
theorem Sat.drawn (h : Sat w0 ow γ hp w) (hd : Drawn w w') : Sat w0 ow γ hp w' := by
  obtain ⟨n, rfl⟩ := hd
  exact h.later ⟨rfl, rfl, rfl, Nat.le_refl _, fun _ _ => rfl⟩
/-- One of the resources turned. -/
theorem Sat.update (h : Sat w0 ow γ hp w) {r' : Res} {b : Nat} (hr : hp[k]? = some r) (hb : r.block γ k = some b) (hk : Keeps (· = b) w w') (hr' : r'.holds γ k w') (hb' : r'.block γ k = some b ∨ r' = .gone) : Sat w0 ow γ (hp.set k r') w' := by
  have hm := h.mine k r b hr hb
  have hkl := lt_of_get hr
  refine ⟨?_, by simp [h.len], ?_, ?_, ?_⟩
  · have hs := h.keeps.size
    refine ⟨hk.os.trans h.keeps.os, hk.tape.trans h.keeps.tape, hk.output.trans h.keeps.output, Nat.le_trans hs hk.size, fun i hi ho => ?_⟩
    refine (hk.block i (by omega) fun hx => ?_).trans (h.keeps.block i hi ho)
    subst hx
    rcases hm.1 with h1 | h1
    · exact ho h1
    · omega
  · intro j q hq
    by_cases hj : j = k
    · subst hj
      rw [List.getElem?_set_self hkl] at hq
      cases hq
      exact hr'
    · rw [List.getElem?_set_ne (fun e => hj e.symm)] at hq
      exact Res.holds_keep (h.holds j q hq) hk fun c hc e => by subst e; exact h.apart j k q r c hq hr hj hc hb
  · intro j q c hq hc
    have := hk.size
    by_cases hj : j = k
    · subst hj
      rw [List.getElem?_set_self hkl] at hq
      cases hq
      rcases hb' with h1 | rfl
      · rw [h1] at hc; cases hc; exact ⟨hm.1, by omega⟩
      · cases hc
    · rw [List.getElem?_set_ne (fun e => hj e.symm)] at hq
      have := h.mine j q c hq hc
      exact ⟨this.1, by omega⟩
  · intro i j q q' c hq hq' hij hc
    have hgo : ∀ (m : Nat) (p : Res) (d : Nat), (hp.set k r')[m]? = some p → p.block γ m = some d → ∃ p0, hp[m]? = some p0 ∧ p0.block γ m = some d := by
      intro m p d hp1 hd
      by_cases hm : m = k
      · subst hm
        rw [List.getElem?_set_self hkl] at hp1
        cases hp1
        rcases hb' with h1 | rfl
        · exact ⟨r, hr, by rw [hb, ← hd, h1]⟩
        · cases hd
      · rw [List.getElem?_set_ne (fun e => hm e.symm)] at hp1
        exact ⟨p, hp1, hd⟩
    obtain ⟨p0, e1, e2⟩ := hgo i q c hq hc
    intro hcon
    obtain ⟨p1, e3, e4⟩ := hgo j q' c hq' hcon
    exact h.apart i j p0 p1 c e1 e3 hij e2 e4
/-- One that is given up. -/
theorem Sat.drop (h : Sat w0 ow γ hp w) (k : Nat) : Sat w0 ow γ (hp.set k .gone) w := by
  have hgo : ∀ (m : Nat) (p : Res) (d : Nat), (hp.set k .gone)[m]? = some p → p.block γ m = some d → hp[m]? = some p ∧ m ≠ k := by
    intro m p d hp1 hd
    by_cases hm : m = k
    · subst hm
      have hl := lt_of_get hp1
      rw [List.length_set] at hl
      rw [List.getElem?_set_self hl] at hp1
      cases hp1
      cases hd
    · rw [List.getElem?_set_ne (fun e => hm e.symm)] at hp1
      exact ⟨hp1, hm⟩
  refine ⟨h.keeps, by simp [h.len], ?_, ?_, ?_⟩
  · intro j q hq
    by_cases hj : j = k
    · subst hj
      have hl := lt_of_get hq
      rw [List.length_set] at hl
      rw [List.getElem?_set_self hl] at hq
      cases hq
      trivial
    · rw [List.getElem?_set_ne (fun e => hj e.symm)] at hq
      exact h.holds j q hq
  · exact fun j q c hq hc => h.mine j q c (hgo j q c hq hc).1 hc
  · exact fun i j q q' c hq hq' hij hc hcon => h.apart i j q q' c (hgo i q c hq hc).1 (hgo j q' c hq' hcon).1 hij hc hcon
/-- One more, in a block that is new or that nobody else holds. -/
theorem Sat.push (h : Sat w0 ow γ hp w) (hk : Keeps X w w') (hX : ∀ b, X b → Owned w0 ow b ∧ ∀ (k : Nat) (r : Res), hp[k]? = some r → r.block γ k ≠ some b)
    (hb : ∀ r ∈ hp, Res.bnd hp.length r) (hr : r.holds (γ ++ [nm]) hp.length w') (hbl : ∀ b, r.block (γ ++ [nm]) hp.length = some b → (X b ∨ w.heap.size ≤ b) ∧ b < w'.heap.size) : Sat w0 ow (γ ++ [nm]) (hp ++ [r]) w' := by
  have h' := h.keep hk hX
  have hl := h.len
  have at_ : ∀ (k : Nat) (q : Res), (hp ++ [r])[k]? = some q → (k < hp.length ∧ hp[k]? = some q) ∨ (k = hp.length ∧ q = r) := by
    intro k q hq
    rw [List.getElem?_append] at hq
    split at hq
    · exact .inl ⟨by assumption, hq⟩
    · have hlt := lt_of_get hq
      simp at hlt
      have : k = hp.length := by omega
      subst this
      simp at hq
      exact .inr ⟨rfl, hq.symm⟩
  have far : ∀ b, r.block (γ ++ [nm]) hp.length = some b → ∀ (k : Nat) (q : Res), hp[k]? = some q → q.block γ k ≠ some b := by
    intro b hb2 k q hq hcon
    rcases (hbl b hb2).1 with h1 | h1
    · exact (hX b h1).2 k q hq hcon
    · have := (h.mine k q b hq hcon).2; omega
  refine ⟨h'.keeps, by simp [hl], ?_, ?_, ?_⟩
  · intro k q hq
    rcases at_ k q hq with ⟨h1, h2⟩ | ⟨rfl, rfl⟩
    · exact Res.holds_ext (by omega) (by rw [hl]; exact hb q (List.mem_of_getElem? h2)) (h'.holds k q h2)
    · exact hr
  · intro k q b hq hb2
    rcases at_ k q hq with ⟨h1, h2⟩ | ⟨rfl, rfl⟩
    · rw [Res.block_ext (by omega)] at hb2
      exact h'.mine k q b h2 hb2
    · obtain ⟨h1, h2⟩ := hbl b hb2
      refine ⟨?_, h2⟩
      rcases h1 with h1 | h1
      · exact (hX b h1).1
      · have := h.keeps.size; exact .inr (by omega)
  · intro i j q q' b hq hq' hij hb2
    rcases at_ i q hq with ⟨h1, h2⟩ | ⟨rfl, rfl⟩
    · rw [Res.block_ext (by omega)] at hb2
      rcases at_ j q' hq' with ⟨h3, h4⟩ | ⟨rfl, rfl⟩
      · rw [Res.block_ext (by omega)]
        exact h.apart i j q q' b h2 h4 hij hb2
      · exact fun hcon => far b hcon i q h2 hb2
    · rcases at_ j q' hq' with ⟨h3, h4⟩ | ⟨rfl, rfl⟩
      · rw [Res.block_ext (by omega)]
        exact far b hb2 j q' h4
      · exact absurd rfl hij
end

/-! ### Reading and writing -/
section
variable {w0 w : World} {ow : Nat → Prop} {γ : List Nm} {hp : List Res} {k : Nat}
theorem Sat.blk {t : TypeId} {c : Cont} (h : Sat w0 ow γ hp w) (hr : hp[k]? = some (.blk t c)) : γ[k]? = some (.b (nmB γ k)) ∧ Blk w (nmB γ k) t (c.vals γ).toArray := h.holds k _ hr
theorem Sat.own {e : TypeId} {c : Cont} (h : Sat w0 ow γ hp w) (hr : hp[k]? = some (.own e c)) : γ[k]? = some (.s (nmS γ k)) ∧ Own w 0 e (nmS γ k) (c.vals γ) := h.holds k _ hr
theorem Sat.cell {t : TypeId} {c : Cont} (h : Sat w0 ow γ hp w) (hr : hp[k]? = some (.blk t c)) {i : Nat} (hi : i < c.len) : w.cell? ⟨nmB γ k, i, none⟩ = some ((c.get i).val γ) := by
  rw [(h.blk hr).2.cell i, List.getElem?_toArray, Cont.get_val hi]
theorem Own.shape {e : TypeId} {v : Value} {vs : List Value} (h : Own w 0 e v vs) (hn : 0 < vs.length) : ∃ g cap, v = .slice (some ⟨g, 0, none⟩) vs.length cap := by
  rcases h.2 with ⟨_, h0⟩ | ⟨g, cap, _, rfl, _⟩
  · omega
  · exact ⟨g, cap, rfl⟩
theorem Sat.raw (h : Sat w0 ow γ hp w) {A : Option Addr} (hA : rawOk w0 ow A) : ∃ a, A = some a ∧ w.cell? a = some (cellOf w0 A) := by
  obtain ⟨a, v, rfl, hlt, ho, hc⟩ := hA
  refine ⟨a, rfl, ?_⟩
  rw [World.cell?_of_block (h.keeps.block a.block hlt ho), hc]
  simp [cellOf, hc]
theorem Sat.rdv (h : Sat w0 ow γ hp w) {A : Option Addr} {vs : List Value} (hR : RdO w0 ow A vs) : RdV w w0.heap.size A vs := by
  intro hp'
  obtain ⟨b, off, hA, hb, hc⟩ := hR.1 hp'
  refine ⟨b, off, hA, hb, fun j u hu => ?_⟩
  rw [World.cell?_of_block (h.keeps.block b hb (hR.2 _ hA))]
  exact hc j u hu
end
end Go.Proofs.YtkchdhkpjnnliaaDoor
