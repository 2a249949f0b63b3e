/- The engine: code, run on terms; and what a term says of a frame and a world. No program in sight. -/
import Derived.Test.YtkchdhkpjnnliaaDoorE2
namespace Go.Proofs.YtkchdhkpjnnliaaDoor
open Go.RowKit

/-! ### What the terms say -/
def Owned (w0 : World) (ow : Nat → Prop) (b : Nat) : Prop := ow b ∨ w0.heap.size ≤ b
def Res.block (γ : List Nm) (k : Nat) : Res → Option Nat
  | .blk _ _ => some (nmB γ k)
  | .own _ _ => (nmS γ k).ownBlock
  | .gone => none
def Res.holds (γ : List Nm) (k : Nat) (w : World) : Res → Prop
  | .blk t c => γ[k]? = some (.b (nmB γ k)) ∧ Blk w (nmB γ k) t (c.vals γ).toArray
  | .own e c => γ[k]? = some (.s (nmS γ k)) ∧ Own w 0 e (nmS γ k) (c.vals γ)
  | .gone => True
structure Sat (w0 : World) (ow : Nat → Prop) (γ : List Nm) (hp : List Res) (w : World) : Prop where
  keeps : Keeps ow w0 w
  len : γ.length = hp.length
  holds : ∀ (k : Nat) (r : Res), hp[k]? = some r → r.holds γ k w
  mine : ∀ (k : Nat) (r : Res) (b : Nat), hp[k]? = some r → r.block γ k = some b → Owned w0 ow b ∧ b < w.heap.size
  apart : ∀ (j k : Nat) (r r' : Res) (b : Nat), hp[j]? = some r → hp[k]? = some r' → j ≠ k → r.block γ j = some b → r'.block γ k ≠ some b
structure FitsAt (w0 : World) (ow : Nat → Prop) (n : Nat) (γ : List Nm) (s : S) (a : Act) (w : World) : Prop where
  sat : Sat w0 ow γ s.hp w
  defers : a.defers = []
  size : a.tmps.size = n
  at_ : ∀ t sv, Fr.get s.fr t = some sv → a.tmps.getD t undef = sv.val γ
def Fits (w0 : World) (ow : Nat → Prop) (n : Nat) (s : S) (a : Act) (w : World) : Prop := ∃ γ, FitsAt w0 ow n γ s a w
def den (w0 : World) (ow : Nat → Prop) (n : Nat) (K : Exit → S → Prop) : Exit → Act → World → Prop := fun e a w => ∃ s, Fits w0 ow n s a w ∧ K e s

/-! ### One operation, a list of operations, code -/
def dOk (n : Nat) (d : Option Tmp) : Prop := match d with | some d => d < n | none => True
def stepO (P : Program) (w0 : World) (ow : Nat → Prop) (n : Nat) (o : Oper) (s : S) : Option (Prop × S) :=
  match op1 P w0 ow (Fr.ev s.fr) s.hp o.op with
  | some (c, v, hp) => some ((c ∧ dOk n o.dst) ∧ (s.hp.length < hp.length → s.bnd), S.put ⟨s.fr, hp⟩ o.dst v)
  | none => none
def isCall : Op → Bool
  | .call { callee := .builtin _, .. } => false
  | .call _ => true
  | _ => false
section
variable (P : Program) (w0 : World) (ow : Nat → Prop) (n : Nat)
/-- A call, and what stands behind it in its region. -/
def CallG (ops : List Oper) (o : Oper) (rest : List Oper) (s : S) (K : S → Prop) : Prop :=
  ∀ a w, Fits w0 ow n s a w → Region.wanted o (yielded ops.toArray a.tmps) = true → wpList P ops.toArray (fun e a' w' => e = .normal ∧ ∃ s', Fits w0 ow n s' a' w' ∧ K s') (o :: rest) a w
def LoopG (c : Code) (s : S) (K : Exit → S → Prop) : Prop := ∀ a w, Fits w0 ow n s a w → (Code.loop c).wp P (den w0 ow n K) a w
def DrawG (id : Nat) (ops : List Oper) (s : S) (K : Exit → S → Prop) : Prop := ∀ a w, Fits w0 ow n s a w → (Code.region id ops.toArray true).wp P (den w0 ow n K) a w
def yieldS (ops : List Oper) (fr : Fr) (j : Nat) : Option Bool :=
  match ops[j]? with
  | some o => match o.dst with
    | some d => match Fr.get fr d with
      | some (.x (.a (.v (.bool b)))) => some b
      | _ => none
    | none => none
  | none => none
def symR (ops : List Oper) : List Oper → S → (S → Prop) → Prop
  | [], s, K => K s
  | o :: rest, s, K =>
    if isCall o.op = true then (match o.guard with
      | none => CallG P w0 ow n ops o rest s K
      | some (j, b) => match yieldS ops s.fr j with
        | some c => if c = b then CallG P w0 ow n ops o rest s K else dOk n o.dst ∧ symR ops rest (s.put o.dst nil1) K
        | none => False)
    else match o.guard with
    | none => match stepO P w0 ow n o s with
      | some (c, s') => c ∧ symR ops rest s' K
      | none => False
    | some (j, b) => match yieldS ops s.fr j with
      | some c => if c = b then (match stepO P w0 ow n o s with | some (c, s') => c ∧ symR ops rest s' K | none => False) else dOk n o.dst ∧ symR ops rest (s.put o.dst nil1) K
      | none => False
def Then (f : S → (Exit → S → Prop) → Prop) (K : Exit → S → Prop) : Exit → S → Prop
  | .normal, s => f s K
  | e, s => K e s
def InB (id : Nat) (K : Exit → S → Prop) : Exit → S → Prop
  | .exit i, s => if i = id then K .normal s else K (.exit i) s
  | e, s => K e s
def symC : Code → S → (Exit → S → Prop) → Prop
  | .skip, s, K => K .normal s
  | .region id ops draw, s, K => if draw = true then DrawG P w0 ow n id ops.toList s K else symR P w0 ow n ops.toList ops.toList s (K .normal)
  | .seq a b, s, K => symC a s (Then (symC b) K)
  | .cond c x y, s, K => match Fr.ev s.fr c with
    | some (.x (.a (.v (.bool b)))) => if b = true then symC x s K else symC y s K
    | _ => False
  | .block id c, s, K => symC c s (InB id K)
  | .loop c, s, K => LoopG P w0 ow n c s K
  | .exit id, s, K => K (.exit id) s
  | .ret, s, K => K .ret s
  | _, _, _ => False
end
/-! ### The rules by which simp runs it -/
section
variable {P : Program} {w0 : World} {ow : Nat → Prop} {n : Nat} {s : S} {K : Exit → S → Prop} {K1 : S → Prop} {ops rest : List Oper} {o : Oper}
theorem symC_skip : symC P w0 ow n .skip s K = K .normal s := rfl
theorem symC_region {id : Nat} {l : List Oper} : symC P w0 ow n (.region id l.toArray false) s K = symR P w0 ow n l l s (K .normal) := rfl
theorem symC_draw {id : Nat} {l : List Oper} : symC P w0 ow n (.region id l.toArray true) s K = DrawG P w0 ow n id l s K := rfl
theorem symC_seq {a b : Code} : symC P w0 ow n (.seq a b) s K = symC P w0 ow n a s (Then (symC P w0 ow n b) K) := rfl
theorem symC_block {id : Nat} {c : Code} : symC P w0 ow n (.block id c) s K = symC P w0 ow n c s (InB id K) := rfl
theorem symC_loop {c : Code} : symC P w0 ow n (.loop c) s K = LoopG P w0 ow n c s K := rfl
theorem symC_exit {id : Nat} : symC P w0 ow n (.exit id) s K = K (.exit id) s := rfl
theorem symC_ret : symC P w0 ow n .ret s K = K .ret s := rfl
theorem symC_cond {c : Operand} {x y : Code} : symC P w0 ow n (.cond c x y) s K = (match Fr.ev s.fr c with | some (.x (.a (.v (.bool b)))) => if b = true then symC P w0 ow n x s K else symC P w0 ow n y s K | _ => False) := rfl
theorem then_normal {f : S → (Exit → S → Prop) → Prop} : Then f K .normal s = f s K := rfl
theorem then_exit {f : S → (Exit → S → Prop) → Prop} {i : Nat} : Then f K (.exit i) s = K (.exit i) s := rfl
theorem then_ret {f : S → (Exit → S → Prop) → Prop} : Then f K .ret s = K .ret s := rfl
theorem inB_normal {i : Nat} : InB i K .normal s = K .normal s := rfl
theorem inB_ret {i : Nat} : InB i K .ret s = K .ret s := rfl
theorem inB_exit {i j : Nat} : InB i K (.exit j) s = if j = i then K .normal s else K (.exit j) s := rfl
theorem symR_nil : symR P w0 ow n ops [] s K1 = K1 s := rfl
theorem symR_cons : symR P w0 ow n ops (o :: rest) s K1 = (if isCall o.op = true then (match o.guard with
      | none => CallG P w0 ow n ops o rest s K1
      | some (j, b) => match yieldS ops s.fr j with
        | some c => if c = b then CallG P w0 ow n ops o rest s K1 else dOk n o.dst ∧ symR P w0 ow n ops rest (s.put o.dst nil1) K1
        | none => False)
    else match o.guard with
    | none => match stepO P w0 ow n o s with
      | some (c, s') => c ∧ symR P w0 ow n ops rest s' K1
      | none => False
    | some (j, b) => match yieldS ops s.fr j with
      | some c => if c = b then (match stepO P w0 ow n o s with | some (c, s') => c ∧ symR P w0 ow n ops rest s' K1 | none => False) else dOk n o.dst ∧ symR P w0 ow n ops rest (s.put o.dst nil1) K1
      | none => False) := rfl
end
end Go.Proofs.YtkchdhkpjnnliaaDoor
