import Derived.Test.YtiaeollemmkclaaDoorSt2
import Derived.Test.YtiaeollemmkclaaDoorFlt
import Derived.Test.YtiaeollemmkclaaDoorDrA
/- Slices of structs and variables as they lie there; who there is (layer 21), as it lies there. -/
namespace Go.Proofs.YtiaeollemmkclaaDoor
open Go.RowKit
set_option linter.unusedSimpArgs false
set_option linter.unusedVariables false
/-- A slice as it lies there. -/
structure SlV (α : Type) where
  A : Option Addr
  c : Nat
  l : List α
def SlV.val {α : Type} (s : SlV α) : Value := .slice s.A s.l.length s.c
instance {α : Type} : Inhabited (SlV α) := ⟨⟨none, 0, []⟩⟩
theorem rawL_all {w : World} {A : Option Addr} : ∀ (n off : Nat) (vs : List Value), vs.length = n → (∀ k v, vs[k]? = some v → cellOf w (pAdd A (off + k)) = v) → rawL w A n off = vs.map At.v
  | 0, _, vs, h, _ => by
    obtain rfl := List.eq_nil_of_length_eq_zero h
    rfl
  | n + 1, off, v :: vs, h, hc => by
    rw [rawL, List.map_cons, rawL_all n (off + 1) vs (by simpa using h) (fun k u hu => by
      have := hc (k + 1) u (by simpa using hu)
      rwa [show off + (k + 1) = off + 1 + k by omega] at this)]
    have := hc 0 v rfl
    rw [Nat.add_zero] at this
    rw [this]
theorem rawOks_all {w : World} {ow : Nat → Prop} {A : Option Addr} : ∀ (n off : Nat), (∀ k, k < n → rawOk w ow (pAdd A (off + k))) → rawOks w ow A n off
  | 0, _, _ => trivial
  | n + 1, off, h => ⟨by have := h 0 (by omega); rwa [Nat.add_zero] at this, rawOks_all n (off + 1) fun k hk => by have := h (k + 1) (by omega); rwa [show off + (k + 1) = off + 1 + k by omega] at this⟩
/-- What the engine asks of a slice of structs, as it lies there. -/
structure FLm {α : Type} [Inhabited α] (m : Nat) (e : α → List Value) (w : World) (A : Option Addr) (l : List α) : Prop where
  some_ : 0 < l.length → A.isSome = true
  cell : ∀ i k v, i < l.length → (e (ix l i))[k]? = some v → cellOf w (pAdd A (i * m + k)) = v ∧ rawOk w No (pAdd A (i * m + k))
  whole : ∀ i, i < l.length → rawL w (pAdd A (i * m)) m 0 = (e (ix l i)).map At.v ∧ rawOks w No (pAdd A (i * m)) m 0
theorem FLm.of {α : Type} [Inhabited α] {m : Nat} {e : α → List Value} {w : World} {A : Option Addr} {l : List α} (hm : ∀ x, (e x).length = m) (h0 : 0 < m) (hR : RdV w w.heap.size A (l.flatMap e)) : FLm m e w A l := by
  have F := FV.no hR
  have hl : (l.flatMap e).length = l.length * m := flat_len hm l
  have hc : ∀ i k v, i < l.length → (e (ix l i))[k]? = some v → cellOf w (pAdd A (i * m + k)) = v ∧ rawOk w No (pAdd A (i * m + k)) := fun i k v hi hv => by
    have hk : k < m := by
      have := (List.getElem?_eq_some_iff.1 hv).1
      rwa [hm] at this
    exact F.cell (by rw [flat_get hm l i k hi hk]; exact hv)
  refine ⟨fun hp => F.some_ (by rw [hl]; exact Nat.mul_pos hp h0), hc, fun i hi => ?_⟩
  constructor
  · refine rawL_all m 0 _ (hm _) fun k v hv => ?_
    rw [pAdd_add, Nat.zero_add]
    exact (hc i k v hi hv).1
  · refine rawOks_all m 0 fun k hk => ?_
    rw [pAdd_add, Nat.zero_add]
    exact (hc i k _ hi (List.getElem?_eq_getElem (by rw [hm]; exact hk))).2
/-- A variable as it lies there. -/
structure Vr (w : World) (A : Option Addr) (vs : List Value) : Prop where
  some_ : A.isSome = true
  none_ : A.isNone = false
  cell : ∀ k v, vs[k]? = some v → cellOf w (pAdd A k) = v ∧ rawOk w No (pAdd A k)
theorem Vr.of {w : World} {g : Nat} {vs : List Value} (h : ∀ k v, vs[k]? = some v → w.cell? ⟨g, k, none⟩ = some v) : Vr w (some ⟨g, 0, none⟩) vs :=
  ⟨rfl, rfl, fun k v hv => by
    have hc := h k v hv
    have e : pAdd (some ⟨g, 0, none⟩) k = some ⟨g, k, none⟩ := by
      show some (Addr.add _ k) = _
      rw [add_plain, Nat.zero_add]
    rw [e]
    exact ⟨by simp [cellOf, hc], ⟨_, _, rfl, block_lt_of_cell hc, fun h => h, hc⟩⟩⟩
theorem Vr.whole {w : World} {A : Option Addr} {vs : List Value} (h : Vr w A vs) : rawL w A vs.length 0 = vs.map At.v ∧ rawOks w No A vs.length 0 :=
  ⟨rawL_all _ 0 _ rfl fun k v hv => by rw [Nat.zero_add]; exact (h.cell k v hv).1, rawOks_all _ 0 fun k hk => by rw [Nat.zero_add]; exact (h.cell k _ (List.getElem?_eq_getElem hk)).2⟩
theorem Vr.later {w w' : World} {A : Option Addr} {vs : List Value} (h : Vr w A vs) (hk : Keeps No w w') : Vr w' A vs :=
  ⟨h.some_, h.none_, fun k v hv => by
    obtain ⟨h1, a, x, h2, h3, _, h5⟩ := h.cell k v hv
    have hb := hk.block a.block h3 (fun h => h)
    have e : x = v := by rw [h2] at h1; simpa [cellOf, h5] using h1
    subst e
    have h6 : w'.cell? a = some x := by
      unfold World.cell? at h5 ⊢
      rw [hb]
      exact h5
    exact ⟨by rw [h2]; simp [cellOf, h6], ⟨a, x, h2, block_lt_of_cell h6, fun h => h, h6⟩⟩⟩
/-! ### Who there is -/
def plV (p : PlS) : List Value := [.int .i64 p.parent, .int .i64 p.spare, .int .i64 p.need]
structure GrR where
  place : Int
  ids : SlV Int
  need : Int
instance : Inhabited GrR := ⟨⟨0, default, 0⟩⟩
def grV (g : GrR) : List Value := [.int .i64 g.place, g.ids.val, .int .i64 g.need]
def GrR.gr (g : GrR) : GrS := ⟨g.place, g.ids.l, g.need⟩
structure GrR.Ok (g : GrR) (w : World) : Prop where
  len : g.ids.l.length ≤ g.ids.c
  few : g.ids.l.length ≤ 1000000
  rd : RdV w w.heap.size g.ids.A (g.ids.l.map (Value.int .i64))
structure CfR where
  dim : Int
  ps : SlV PlS
  gs : SlV GrR
  least : Int
  term : Int
def cfV (c : CfR) : List Value := [.int .i64 c.dim, c.ps.val, c.gs.val, .int .i64 c.least, .int .i64 c.term]
def CfR.cf (c : CfR) : CfS := ⟨c.dim, c.ps.l, c.gs.l.map GrR.gr, c.least, c.term⟩
structure CfR.Ok (c : CfR) (w : World) : Prop where
  plen : c.ps.l.length ≤ c.ps.c
  pfew : c.ps.l.length ≤ 1000000
  prd : RdV w w.heap.size c.ps.A (c.ps.l.flatMap plV)
  glen : c.gs.l.length ≤ c.gs.c
  gfew : c.gs.l.length ≤ 1000000
  grd : RdV w w.heap.size c.gs.A (c.gs.l.flatMap grV)
  ids : ∀ g ∈ c.gs.l, g.Ok w
theorem CfR.Ok.later {w0 w : World} {c : CfR} {γ : List Nm} {hp : List Res} (h : c.Ok w0) (hS : Sat w0 No γ hp w) : c.Ok w :=
  ⟨h.plen, h.pfew, rd_later h.prd hS, h.glen, h.gfew, rd_later h.grd hS, fun g hg => ⟨(h.ids g hg).len, (h.ids g hg).few, rd_later (h.ids g hg).rd hS⟩⟩
/-- The cells of one, in a state. -/
def cfA (c : CfR) : List At := [.v (.int .i64 c.dim), .v c.ps.val, .v c.gs.val, .v (.int .i64 c.least), .v (.int .i64 c.term)]
def grA (g : GrR) : List At := [.v (.int .i64 g.place), .v g.ids.val, .v (.int .i64 g.need)]
/-- One that lies there, by whatever names it is told. -/
def ShowsCf (w0 : World) (hp : List Res) (sv : Sv) (c : CfS) : Prop := ∀ γ w, Sat w0 No γ hp w → ∃ a : CfR, sv.val γ = .agg (cfV a).toArray ∧ a.Ok w ∧ a.cf = c
end Go.Proofs.YtiaeollemmkclaaDoor
