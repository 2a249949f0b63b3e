import Derived.Test.YtombphphaoeeiaaGreatDoorShA
/- copy, as the engine sees it: onto a slice of the call's own, a part of one, or an array. No program in sight. -/
namespace Go.Proofs.YtombphphaoeeiaaGreatDoor
open Go.RowKit
set_option linter.unusedSimpArgs false
section
variable {P : Program} {w0 w : World} {ow : Nat → Prop} {γ : List Nm} {hp hp' : List Res} {c : Prop} {v : Sv} {t : TypeId}
/-- The numbers of a row from a place on, replaced. -/
def Cont.lay (l : Nat) : Cont → Cont → Option Cont
  | .u8 a, .u8 b => some (.u8 (a.take l ++ (b ++ a.drop (l + b.length))))
  | .i64 a, .i64 b => some (.i64 (a.take l ++ (b ++ a.drop (l + b.length))))
  | _, _ => none
def Res.with (hp : List Res) (k : Nat) (c : Cont) : Res := match hp[k]? with
  | some (.own e _) => .own e c
  | some (.pin g t _) => .pin g t c
  | some (.blk t _) => .blk t c
  | _ => .gone
/-- Onto what is copied: which one, what it holds, from where on, and how many at most. -/
def dstS (hp : List Res) : Sv → Option (Nat × Cont × Nat × Nat)
  | .x (.a (.o k)) => match hp[k]? with | some (.own _ ct) => some (k, ct, 0, ct.len) | _ => none
  | .x (.a (.z k l m)) => match hp[k]? with | some (.own _ ct) => some (k, ct, l, m) | _ => none
  | .x (.a (.s k off m _)) => match hp[k]? with | some (.blk _ ct) => some (k, ct, off, m) | some (.pin _ _ ct) => some (k, ct, off, m) | _ => none
  | _ => none
def copyS (P : Program) (w0 : World) (ow : Nat → Prop) (t : TypeId) (hp : List Res) (b x : Sv) : R :=
  match P.underlying t with
  | some (.slice e) => match dstS hp b, srcS w0 ow hp (P.underlying e) x with
    | some (k, ct, off, m), some (h, q) => match q.cut 0 (min q.len m) with
      | some q' => match ct.lay off q' with
        | some c' => some (h ∧ off + m ≤ ct.len ∧ sz P e = 1, .x (.a (.v (.int .i64 ((min q.len m : Nat) : Int)))), hp.set k (Res.with hp k c'))
        | none => none
      | none => none
    | _, _ => none
  | _ => none
end
section
variable {P : Program} {w0 : World} {ow : Nat → Prop} {n : Nat} {s : S}
end
end Go.Proofs.YtombphphaoeeiaaGreatDoor
/- What a value stands for, put together of what the call owns; a variable that leads to such a thing, handed over and come back. No program in sight. -/
namespace Go.Proofs.YtombphphaoeeiaaGreatDoor
open Go.RowKit
set_option linter.unusedSimpArgs false
section
variable {P : Program} {w0 w w' : World} {ow : Nat → Prop} {γ : List Nm} {hp : List Res} {k : Nat}
end
/-! ### A slice, as a thing of its own -/
/-- It shows these values, that lie in these blocks. -/
def ShV (vs : List Value) (v : Value) (B : Nat → Prop) (w : World) : Prop := ∃ A c, v = .slice A vs.length c ∧ vs.length ≤ c ∧ c ≤ maxLen ∧ RdV w w.heap.size A vs ∧ ∀ a, A = some a → B a.block
theorem ShV.keep {vs : List Value} {v : Value} {B own : Nat → Prop} {w w' : World} (h : ShV vs v B w) (_hlt : ∀ b, B b → b < w.heap.size) (hk : Keeps own w w') (hn : ∀ b, B b → ¬ own b) : ShV vs v B w' := by
  obtain ⟨A, c, h1, h2, h3, h4, h5⟩ := h
  refine ⟨A, c, h1, h2, h3, fun hp => ?_, h5⟩
  obtain ⟨b, off, hA, hb, hc⟩ := h4 hp
  have hB := h5 _ hA
  exact ⟨b, off, hA, Nat.lt_of_lt_of_le hb hk.size, fun j u hu => (World.cell?_of_block (hk.block b hb (hn b hB))).trans (hc j u hu)⟩
def ShR (vs : List Value) : Rep where
  H v B w := ShV vs v B w
  one := fun {v B w} h => by obtain ⟨A, c, rfl, _⟩ := h; exact ⟨rfl, trivial⟩
  keep := fun h hlt hk hn => h.keep hlt hk hn
theorem ShV.nil_ (B : Nat → Prop) (w : World) : ShV [] (.slice none 0 0) B w := ⟨none, 0, rfl, Nat.le_refl _, Nat.zero_le _, RdV.nil_, fun a h => by cases h⟩
theorem ShV.more {vs : List Value} {v : Value} {B B' : Nat → Prop} {w : World} (h : ShV vs v B w) (hB : ∀ b, B b → B' b) : ShV vs v B' w := by
  obtain ⟨A, c, h1, h2, h3, h4, h5⟩ := h
  exact ⟨A, c, h1, h2, h3, h4, fun a ha => hB _ (h5 a ha)⟩
section
variable {P : Program} {w0 : World} {ow : Nat → Prop} {n : Nat} {s s' : S}
end
end Go.Proofs.YtombphphaoeeiaaGreatDoor
