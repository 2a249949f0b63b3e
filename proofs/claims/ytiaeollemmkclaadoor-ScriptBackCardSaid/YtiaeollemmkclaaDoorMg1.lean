import Derived.Test.YtiaeollemmkclaaDoorMg0
import Derived.Test.YtiaeollemmkclaaDoorCf0
/- Messages as they lie there; layer 16: msg.kindOf, Form, Name, within. -/
namespace Go.Proofs.YtiaeollemmkclaaDoor
open Go.RowKit
set_option linter.unusedSimpArgs false
set_option linter.unusedVariables false
structure MgR where
  k : UInt8
  pl : Int
  ot : Int
  cl : Int
  ge : Int
  nu : UInt64
  sm : List UInt8
  ids : SlV Int
  ns : SlV UInt64
  ps : SlV Pr
  xs : SlV UInt32
  re : Int
def MgR.mg (m : MgR) : MgS := ⟨m.k, m.pl, m.ot, m.cl, m.ge, m.nu, m.sm, m.ids.l, m.ns.l, m.ps.l, m.xs.l, m.re⟩
/-- The cells of one. -/
def mgL (k pl ot cl ge nu : At) (sm : List UInt8) (i n p x r : At) : List At := [k, pl, ot, cl, ge, nu] ++ (sm.map f8 ++ [i, n, p, x, r])
def mgV (m : MgR) : List Value := [vU8 m.k, .int .i64 m.pl, .int .i64 m.ot, .int .i64 m.cl, .int .i64 m.ge, vU64 m.nu] ++ (m.sm.map vU8 ++ [m.ids.val, m.ns.val, m.ps.val, m.xs.val, .int .i64 m.re])
def mgA (m : MgR) : List At := mgL (.v (vU8 m.k)) (.v (.int .i64 m.pl)) (.v (.int .i64 m.ot)) (.v (.int .i64 m.cl)) (.v (.int .i64 m.ge)) (.v (vU64 m.nu)) m.sm (.v m.ids.val) (.v m.ns.val) (.v m.ps.val) (.v m.xs.val) (.v (.int .i64 m.re))
structure SlV.Ok {α : Type} (s : SlV α) (vs : List Value) (w : World) : Prop where
  len : s.l.length ≤ s.c
  few : s.l.length ≤ 1000
  rd : RdV w w.heap.size s.A vs
structure MgR.Ok (m : MgR) (w : World) : Prop where
  s : m.sm.length = 32
  ids : m.ids.Ok (m.ids.l.map (Value.int .i64)) w
  ns : m.ns.Ok (m.ns.l.map vU64) w
  ps : m.ps.Ok (pvs m.ps.l) w
  xs : m.xs.Ok (m.xs.l.map vU32) w
theorem SlV.Ok.later {α : Type} {s : SlV α} {vs : List Value} {w0 w : World} {γ : List Nm} {hp : List Res} (h : s.Ok vs w0) (hS : Sat w0 No γ hp w) : s.Ok vs w := ⟨h.len, h.few, rd_later h.rd hS⟩
theorem MgR.Ok.later {m : MgR} {w0 w : World} {γ : List Nm} {hp : List Res} (h : m.Ok w0) (hS : Sat w0 No γ hp w) : m.Ok w :=
  ⟨h.s, h.ids.later hS, h.ns.later hS, h.ps.later hS, h.xs.later hS⟩
structure MgS.Few (m : MgS) : Prop where
  sm : m.sm.length = 32
  ids : m.ids.length ≤ 1000
  ns : m.ns.length ≤ 1000
  ps : m.ps.length ≤ 1000
  xs : m.xs.length ≤ 1000
theorem MgR.Ok.few {m : MgR} {w : World} (h : m.Ok w) : m.mg.Few := ⟨h.s, h.ids.few, h.ns.few, h.ps.few, h.xs.few⟩
/-- One that lies there, by whatever names it is told. -/
def ShowsMg (w0 : World) (hp : List Res) (sv : Sv) (m : MgS) : Prop := ∀ γ w, Sat w0 No γ hp w → ∃ a : MgR, sv.val γ = .agg (mgV a).toArray ∧ a.Ok w ∧ a.mg = m
def zeroR : MgR := ⟨0, 0, 0, 0, 0, 0, List.replicate 32 0, default, default, default, default, 0⟩
/-! ### Kinds -/
attribute [local irreducible] Callable CallOK CallG CallM DrawG LoopG symR symM
attribute [local irreducible] wiM
section
variable {w0 : World} {ow : Nat → Prop} {hp : List Res}
def kindV (k : UInt8) : List Sc := [.a (.v (.string (bstr (kindM k).1))), .a (.v (.string (bstr (kindM k).2)))]
def nameS (k : UInt8) : ByteArray := bstr (kindM k).1
def formS (k : UInt8) : ByteArray := bstr (formL k)
end
end Go.Proofs.YtiaeollemmkclaaDoor
