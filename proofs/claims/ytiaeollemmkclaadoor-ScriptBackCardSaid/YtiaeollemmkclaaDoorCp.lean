import Derived.Test.YtiaeollemmkclaaDoorShA
/- copy, as the engine sees it: onto a slice of the call's own, a part of one, or an array. No program in sight. -/
namespace Go.Proofs.YtiaeollemmkclaaDoor
open Go.RowKit
set_option linter.unusedSimpArgs false
section
variable {P : Program} {w0 w : World} {ow : Nat → Prop} {γ : List Nm} {hp hp' : List Res} {c : Prop} {v : Sv} {t : TypeId}
/-- The numbers of a row from a place on, replaced. -/
def Cont.lay (l : Nat) : Cont → Cont → Option Cont
  | .u8 a, .u8 b => some (.u8 (a.take l ++ (b ++ a.drop (l + b.length))))
  | .i64 a, .i64 b => some (.i64 (a.take l ++ (b ++ a.drop (l + b.length))))
  | _, _ => none
def Res.with (hp : List Res) (k : Nat) (c : Cont) : Res := match hp[k]? with
  | some (.own e _) => .own e c
  | some (.pin g t _) => .pin g t c
  | some (.blk t _) => .blk t c
  | _ => .gone
/-- Onto what is copied: which one, what it holds, from where on, and how many at most. -/
def dstS (hp : List Res) : Sv → Option (Nat × Cont × Nat × Nat)
  | .x (.a (.o k)) => match hp[k]? with | some (.own _ ct) => some (k, ct, 0, ct.len) | _ => none
  | .x (.a (.z k l m)) => match hp[k]? with | some (.own _ ct) => some (k, ct, l, m) | _ => none
  | .x (.a (.s k off m _)) => match hp[k]? with | some (.blk _ ct) => some (k, ct, off, m) | some (.pin _ _ ct) => some (k, ct, off, m) | _ => none
  | _ => none
def copyS (P : Program) (w0 : World) (ow : Nat → Prop) (t : TypeId) (hp : List Res) (b x : Sv) : R :=
  match P.underlying t with
  | some (.slice e) => match dstS hp b, srcS w0 ow hp (P.underlying e) x with
    | some (k, ct, off, m), some (h, q) => match q.cut 0 (min q.len m) with
      | some q' => match ct.lay off q' with
        | some c' => some (h ∧ off + m ≤ ct.len ∧ sz P e = 1, .x (.a (.v (.int .i64 ((min q.len m : Nat) : Int)))), hp.set k (Res.with hp k c'))
        | none => none
      | none => none
    | _, _ => none
  | _ => none
end
section
variable {P : Program} {w0 : World} {ow : Nat → Prop} {n : Nat} {s : S}
end
end Go.Proofs.YtiaeollemmkclaaDoor
