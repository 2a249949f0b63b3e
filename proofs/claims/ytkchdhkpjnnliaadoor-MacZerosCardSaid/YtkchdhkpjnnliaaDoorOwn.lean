/- Slices that the call itself made: appended to, read, kept. No program in sight. -/
import Derived.Test.YtkchdhkpjnnliaaDoorM
import Derived.Maps.AppendAt
import Derived.OwnWalk
import Derived.Laws.OwnMore
namespace Go.Proofs.YtkchdhkpjnnliaaDoor
open Go.RowKit

/-- The slice value v holds the values vs, one cell each, in a block of the call's own (from base on), or is nil. -/
def Own (w : World) (base : Nat) (e : TypeId) (v : Value) (vs : List Value) : Prop := w.ownsRow base e 1 v vs.length vs
theorem keeps_of_grown {w w' : World} {row : Option Nat} (h : w.grownBy w' row) : Keeps (fun k => some k = row) w w' :=
  ⟨h.os, h.tape, h.output, h.size, fun k hk hn => h.block k hk hn⟩
theorem grown_of_keeps {own : Nat → Prop} {w w' : World} {row : Option Nat} (h : Keeps own w w') (ho : ∀ k, own k → some k = row) : w.grownBy w' row :=
  ⟨h.os, h.tape, h.output, h.size, fun k hk hn => h.block k hk (fun e => hn (ho k e))⟩
section
variable {w w' : World} {base : Nat} {e : TypeId} {v : Value} {vs : List Value} {own : Nat → Prop}
theorem Own.nil_ (w : World) (base : Nat) (e : TypeId) : Own w base e (.slice none 0 0) [] := World.ownsRow_nil w base e 1
theorem Own.lt (h : Own w base e v vs) : ∀ k, v.ownBlock = some k → base ≤ k ∧ k < w.heap.size := World.ownsRow.lt h
theorem Own.keep (h : Own w base e v vs) (hk : Keeps own w w') (hn : ∀ k, v.ownBlock = some k → ¬ own k) : Own w' base e v vs := by
  unfold Own at *
  rcases h with ⟨h0, h1 | ⟨g, cap, cur, rfl, hb, hh, r⟩⟩
  · exact ⟨h0, .inl h1⟩
  · refine ⟨h0, .inr ⟨g, cap, cur, rfl, hb, ?_, r⟩⟩
    have hlt : g < w.heap.size := (Array.getElem?_eq_some_iff.1 hh).1
    exact (hk.block g hlt (hn g rfl)).trans hh
theorem Own.below {B : Nat} (h : Own w base e v vs) (hb : Below B w w') (hB : ∀ k, v.ownBlock = some k → k < B) : Own w' base e v vs :=
  h.keep (own := fun k => B ≤ k) ⟨hb.os, hb.tape, hb.output, hb.size, fun k _ hn => hb.block k (by omega)⟩ (fun k hk h => by have := hB k hk; omega)
theorem Own.later (h : Own w base e v vs) (hb : Below w.heap.size w w') : Own w' base e v vs := h.below hb (fun k hk => (h.lt k hk).2)
theorem Own.drawn (h : Own w base e v vs) (hd : Drawn w w') : Own w' base e v vs := by obtain ⟨n, rfl⟩ := hd; exact h
/-- What it is, to a reader. -/
theorem Own.rd (h : Own w base e v vs) : ∃ A c, v = .slice A vs.length c ∧ vs.length ≤ c ∧ c ≤ maxLen ∧ RdV w w.heap.size A vs ∧ ∀ b, A = some b → b.spot = none ∧ b.off = 0 ∧ base ≤ b.block ∧ v.ownBlock = some b.block := by
  have h' := h
  rcases h with ⟨h0, ⟨rfl, h1⟩ | ⟨g, cap, cur, rfl, hb, hh, hnc, hc, hs, ht⟩⟩
  · have : vs = [] := List.eq_nil_of_length_eq_zero h1
    subst this
    exact ⟨none, 0, rfl, by simp, by simp, RdV.nil_, fun b hb => by cases hb⟩
  · have hlt : g < w.heap.size := (Array.getElem?_eq_some_iff.1 hh).1
    refine ⟨some ⟨g, 0, none⟩, cap, rfl, hnc, hc, fun _ => ⟨g, 0, rfl, hlt, fun j u hu => ?_⟩, fun b hb' => by cases hb'; exact ⟨rfl, rfl, hb, rfl⟩⟩
    have := World.ownsRow.cells h' (g := g) rfl j u hu
    rwa [add_plain] at this
end

/-- append onto a slice of the call's own, whatever is read: nil, empty or not. -/
theorem run_appendR {P : Program} (w : World) (base : Nat) (t e : TypeId) (bytes : Nat) (ht : P.underlying t = some (.slice e)) (z : Value) (hz : z.cells.size = 1)
    (hinfo : (P.info? e).map (fun i => (i.zero, i.size, i.bytes)) = some (some z, 1, bytes))
    (v : Value) (vs : List Value) (hown : Own w base e v vs) (A : Option Addr) (m c B : Nat) (news : List Value) (hR : RdV w B A news) (hm : news.length = m) (h1 : ∀ u ∈ news, u.oneCell' = true)
    (h63 : vs.length + m ≤ maxLen) (hbytes : (vs.length + m) * bytes ≤ 140737488355328) (hbase : base ≤ w.heap.size) :
    ∃ v' w', (∀ ty, (Builtin.append_ #[t, t] ty #[v, .slice A m c]).run P w = .ok v' w') ∧ Own w' base e v' (vs ++ news) ∧ Keeps (fun k => v.ownBlock = some k) w w' ∧
      (v'.ownBlock = v.ownBlock ∨ v'.ownBlock = some w.heap.size) := by
  obtain ⟨i, hi, hz0, hz1, hz2⟩ := info_parts hinfo
  by_cases hm0 : m = 0
  · subst hm0
    obtain rfl : news = [] := List.eq_nil_of_length_eq_zero hm
    refine ⟨v, w, fun ty => ?_, by simpa using hown, Keeps.refl _ _, .inl rfl⟩
    have hl : ∀ (x : Addr), (loadCells x 0).run P w = .ok #[] w := fun x => by simpa using run_loadCells_list (P := P) w x [] (by simp)
    rcases hown.2 with ⟨rfl, _⟩ | ⟨g, cap, cur, rfl, _, _, hnc, _⟩
    · cases A <;> simp [Builtin.append_, run_underlying ht, sizeOf, typeInfo, hi, Builtin.lenOf, Builtin.firstCells, hl]
    · cases A <;> simp [Builtin.append_, run_underlying ht, sizeOf, typeInfo, hi, hz1, Builtin.lenOf, Builtin.firstCells, hl, hnc, storeCells]
  · obtain ⟨b, off, rfl, _, hc⟩ := hR (by omega)
    obtain ⟨v', w', hrun, h2, h3, h4, h5⟩ := run_append_own_at (P := P) w base t 0 e i z 1 bytes ht hi hz0 hz1 hz2 hz (by decide) v vs.length vs hown ⟨b, off, none⟩ m c news (by omega)
      (fun j u hu => by rw [add_plain]; exact hc j u hu) h1 h63 hbytes hbase
    refine ⟨v', w', fun ty => hrun, ?_, ?_, h5⟩
    · unfold Own
      rw [List.length_append, hm]
      exact h2
    · exact (keeps_of_grown h3).mono (fun k h => h.symm)
theorem exec_append {P : Program} {w : World} {o : Oper} {ρ : Operand → Value} (s x : Operand) (t : TypeId) (ho : o.op = .call { callee := .builtin .append, args := #[s, x], argTypes := #[t, t] }) (vs vx : Value) (hs : ρ s = vs) (hx : ρ x = vx) (r : Value) (w2 : World)
    (h : (Builtin.append_ #[t, t] o.type #[vs, vx]).run P w = .ok r w2) : (execOp ρ o).run P w = .ok (.value r) w2 := by
  simp [execOp, ho, resolve, invoke, builtin, hs, hx, h, Result.andThen]
end Go.Proofs.YtkchdhkpjnnliaaDoor
