import Derived.Test.YtombphphaoeeiaaGreatDoorSr1
import Derived.Test.YtombphphaoeeiaaGreatDoorOpw
/- The document's groups, as they came in. No program in sight. -/
namespace Go.Proofs.YtombphphaoeeiaaGreatDoor
open Go.RowKit
set_option linter.unusedSimpArgs false
set_option linter.unusedVariables false
def gfV (e : GvE) : List Value := [.int .i64 e.id, e.val]
theorem gfV_len (e : GvE) : (gfV e).length = 2 := rfl
def gfVs (l : List GvE) : List Value := l.flatMap gfV
theorem gfVs_len (l : List GvE) : (gfVs l).length = l.length * 2 := flat_len gfV_len l
structure RfG where
  pA : Option Addr
  pc : Nat
  ps : List Pr
  cA : Option Addr
  cc : Nat
  cm : List Int
  nd : Int
  gA : Option Addr
  gc : Nat
  gs : List GvE
deriving Inhabited
def RfG.vals (g : RfG) : List Value := [.slice g.pA g.ps.length g.pc, .slice g.cA g.cm.length g.cc, .int .i64 g.nd, .slice g.gA g.gs.length g.gc]
theorem RfG.vals_len (g : RfG) : g.vals.length = 4 := rfl
def RfG.cells (g : RfG) : List At := [.v (.slice g.pA g.ps.length g.pc), .v (.slice g.cA g.cm.length g.cc), .v (.int .i64 g.nd), .v (.slice g.gA g.gs.length g.gc)]
def rfVs (l : List RfG) : List Value := l.flatMap RfG.vals
theorem rfVs_len (l : List RfG) : (rfVs l).length = l.length * 4 := flat_len RfG.vals_len l
structure RfG.Ok (w : World) (g : RfG) : Prop where
  pl : g.ps.length ≤ g.pc
  pR : RdV w w.heap.size g.pA (pvs g.ps)
  cl : g.cm.length ≤ g.cc
  cR : RdV w w.heap.size g.cA (g.cm.map vI64)
  gl : g.gs.length ≤ g.gc
  gR : RdV w w.heap.size g.gA (gfVs g.gs)
  e : ∀ e ∈ g.gs, e.l.length ≤ e.c ∧ RdV w w.heap.size e.A (e.l.map vU64)
/-- So few that they are looked at. -/
def RfG.few (g : RfG) : Prop := g.ps.length ≤ 12 ∧ g.cm.length ≤ 40 ∧ g.gs.length ≤ 20 ∧ ∀ e ∈ g.gs, e.l.length ≤ 40
theorem RfG.Ok.later {w0 w : World} {γ : List Nm} {hp : List Res} {g : RfG} (h : g.Ok w0) (hS : Sat w0 No γ hp w) : g.Ok w :=
  ⟨h.pl, rdV_later h.pR hS, h.cl, rdV_later h.cR hS, h.gl, rdV_later h.gR hS, fun e he => ⟨(h.e e he).1, rdV_later (h.e e he).2 hS⟩⟩
/-- What the engine asks of such rows. -/
structure FG (w0 : World) (A : Option Addr) (vs : List (List Value)) (m : Nat) : Prop where
  some_ : 0 < vs.length → A.isSome = true
  c : ∀ i, i < vs.length → ∀ j, j < m → cellOf w0 (pAdd A (i * m + j)) = (ix vs i).getD j default
  ok : ∀ i, i < vs.length → ∀ j, j < m → rawOk w0 No (pAdd A (i * m + j))
theorem flat_id {vs : List (List Value)} {m : Nat} (hm : ∀ v ∈ vs, v.length = m) {i j : Nat} (hi : i < vs.length) (hj : j < m) : vs.flatten[i * m + j]? = some ((ix vs i).getD j default) := by
  induction vs generalizing i with
  | nil => simp at hi
  | cons v r ih =>
    have hv := hm v (by simp)
    cases i with
    | zero =>
      rw [List.flatten_cons, Nat.zero_mul, Nat.zero_add, List.getElem?_append_left (by omega)]
      show v[j]? = some (v.getD j default)
      rw [List.getD_eq_getElem?_getD, List.getElem?_eq_getElem (by omega)]
      rfl
    | succ i =>
      rw [List.flatten_cons, List.getElem?_append_right (by rw [hv]; rw [Nat.succ_mul]; omega)]
      rw [show (i + 1) * m + j - v.length = i * m + j by rw [hv, Nat.succ_mul]; omega]
      rw [ih (fun x hx => hm x (by simp [hx])) (by simpa using hi)]
      rfl
theorem FG.of {w0 : World} {A : Option Addr} {vs : List (List Value)} {m : Nat} (h0 : 0 < m) (hm : ∀ v ∈ vs, v.length = m) (hR : RdV w0 w0.heap.size A vs.flatten) : FG w0 A vs m := by
  have h := FV.no hR
  have hl : vs.flatten.length = vs.length * m := by
    clear h hR
    induction vs with
    | nil => simp
    | cons v r ih => rw [List.flatten_cons, List.length_append, ih (fun x hx => hm x (by simp [hx])), hm v (by simp), List.length_cons, Nat.succ_mul]; omega
  exact ⟨fun hp => h.some_ (by rw [hl]; exact Nat.mul_pos hp h0), fun i hi j hj => (h.cell (flat_id hm hi hj)).1, fun i hi j hj => (h.cell (flat_id hm hi hj)).2⟩
end Go.Proofs.YtombphphaoeeiaaGreatDoor
/- What opens law 32's arguments: groups, and a row. -/
namespace Go.Proofs.YtombphphaoeeiaaGreatDoor
open Go.ChangeShapes Go.WideShapes Go.ChangeAt Go.WideMaps Go.WideElems Go.RowKit
section
variable {H : Type} {enc : TypeId × Value → H} {W : World}
set_option maxRecDepth 100000 in
theorem opnPr32 : Opn enc Tryz.prog W 80 pv (fun _ => True) := fun fuel cs y h => by
  obtain ⟨⟨a, b, _⟩, h1, _⟩ := (Opn.struct (m := 2) Tryz.underlying80 (by kernel_rfl) (OpnF.cons (k := 1) rfl (by kernel_rfl) (Opn.i64 Tryz.underlying3) (OpnF.cons (k := 1) rfl (by kernel_rfl) (Opn.u64 Tryz.underlying51) OpnF.nil))) fuel cs y h
  exact ⟨(a, b), h1, trivial⟩
set_option maxRecDepth 100000 in
theorem opnGf : Opn enc Tryz.prog W 50 gfV (fun e => e.l.length ≤ e.c ∧ RdV W W.heap.size e.A (e.l.map vU64)) := fun fuel cs y h => by
  obtain ⟨⟨a, s, _⟩, h1, _, ⟨s1, s2, s3, _⟩, _⟩ := (Opn.struct (m := 2) Tryz.underlying50 (by kernel_rfl) (OpnF.cons (k := 1) rfl (by kernel_rfl) (Opn.i64 Tryz.underlying3) (OpnF.cons (k := 1) rfl (by kernel_rfl) (Opn.ones Tryz.underlying48 (by kernel_rfl) (Opn.u64 Tryz.underlying51)) OpnF.nil))) fuel cs y h
  exact ⟨⟨a, s.A, s.c, s.l⟩, h1, s1, s3⟩
set_option maxRecDepth 100000 in
theorem opnRg : Opn enc Tryz.prog W 36 RfG.vals (fun g => g.Ok W) := fun fuel cs y h => by
  obtain ⟨⟨p, c, n, g, _⟩, h1, ⟨p1, p2, p3, _⟩, ⟨c1, c2, c3, _⟩, _, ⟨g1, g2, g3, g4⟩, _⟩ := (Opn.struct (m := 4) Tryz.underlying36 (by kernel_rfl)
    (OpnF.cons (k := 1) rfl (by kernel_rfl) (Opn.slice (m := 2) Tryz.underlying33 (by kernel_rfl) (by omega) pv_len opnPr32) (OpnF.cons (k := 1) rfl (by kernel_rfl) (Opn.ones Tryz.underlying28 (by kernel_rfl) (Opn.i64 Tryz.underlying3))
    (OpnF.cons (k := 1) rfl (by kernel_rfl) (Opn.i64 Tryz.underlying3) (OpnF.cons (k := 1) rfl (by kernel_rfl) (Opn.slice (m := 2) Tryz.underlying34 (by kernel_rfl) (by omega) gfV_len opnGf) OpnF.nil))))) fuel cs y h
  exact ⟨⟨p.A, p.c, p.l, c.A, c.c, c.l, n, g.A, g.c, g.l⟩, h1, ⟨p1, p3, c1, c3, g1, g3, g4⟩⟩
set_option maxRecDepth 100000 in
theorem openRgs {v : Value} {d : DataW H} {ps : List MemPlace} {r : Reach} {b : Nat} (hv : Value.okWide Tryz.prog W r b 22 v) (h : DataW.Trod enc Tryz.prog W 0 (fun _ => true) true 22 v d ps) :
    ∃ (A : Option Addr) (c : Nat) (l : List RfG), v = .slice A l.length c ∧ l.length ≤ c ∧ RdV W W.heap.size A (rfVs l) ∧ ∀ g ∈ l, g.Ok W := by
  obtain ⟨⟨A, c, l⟩, h1, h2, _, h4, h5⟩ := (Opn.slice (m := 4) Tryz.underlying22 (by kernel_rfl) (by omega) RfG.vals_len opnRg).useL Tryz.underlying22 hv h
  exact ⟨A, c, l, h1, h2, h4, h5⟩
set_option maxRecDepth 100000 in
theorem key2w : ArrKey Tryz.prog 24 23 2 := ⟨Tryz.underlying24, by kernel_rfl, by kernel_rfl, by kernel_rfl⟩
set_option maxRecDepth 100000 in
theorem openW2 {v : Value} {d : DataW H} {ps : List MemPlace} {r : Reach} {b : Nat} (hv : Value.okWide Tryz.prog W r b 24 v) (h : DataW.Trod enc Tryz.prog W 0 (fun _ => true) true 24 v d ps) : ∃ x : List UInt32, v = .agg (arr32 x) ∧ x.length = 2 :=
  (Opn.arr32 key2w Tryz.underlying23).useA key2w hv h
end
end Go.Proofs.YtombphphaoeeiaaGreatDoor
