/- An engine for walks: values, frames and memory written as plain terms, and what one operation makes of them, as a function. No program in sight. -/
import Derived.Test.YtkchdhkpjnnliaaDoorMix
import Derived.Test.YtkchdhkpjnnliaaDoorOwn
import Derived.Test.YtkchdhkpjnnliaaDoorBs
import Derived.Test.YtkchdhkpjnnliaaDoorApz
namespace Go.Proofs.YtkchdhkpjnnliaaDoor
open Go.RowKit

/-! ### Values as terms: a value, or a place in what the call owns -/
inductive At where
  | v (x : Value)
  | p (k off : Nat)
  | s (k off len cap : Nat)
  | o (k : Nat)
  | q (k i : Nat)
  | z (k off len : Nat)
inductive Sc where
  | a (x : At)
  | a8 (l : List UInt8)
  | a32 (l : List UInt32)
  | a64 (l : List UInt64)
  | g (l : List At)
inductive Sv where
  | x (s : Sc)
  | t (l : List Sc)
  | f (fn : Fn) (caps : List At)
/-- What a name stands for: a block, or a slice of the call's own. -/
inductive Nm where
  | b (g : Nat)
  | s (x : Value)
def nmB (γ : List Nm) (k : Nat) : Nat := match γ[k]? with | some (.b g) => g | _ => 0
def nmS (γ : List Nm) (k : Nat) : Value := match γ[k]? with | some (.s x) => x | _ => undef
def pAdd (A : Option Addr) (j : Nat) : Option Addr := A.map fun a => a.add j
def pCut (A : Option Addr) (l cap : Nat) : Option Addr := if cap = l then A else pAdd A l
def At.val (γ : List Nm) : At → Value
  | .v x => x
  | .p k off => .pointer (some ⟨nmB γ k, off, none⟩)
  | .s k off len cap => .slice (some ⟨nmB γ k, off, none⟩) len cap
  | .o k => nmS γ k
  | .q k i => match nmS γ k with | .slice (some a) _ _ => .pointer (some ⟨a.block, a.off + i, none⟩) | _ => undef
  | .z k l m => match nmS γ k with | .slice A _ cap => .slice (pCut A l cap) m (cap - l) | _ => undef
def Sc.val (γ : List Nm) : Sc → Value
  | .a x => x.val γ
  | .a8 l => .agg (arr8 l)
  | .a32 l => .agg (arr32 l)
  | .a64 l => .agg (arr64 l)
  | .g l => .agg (l.map (At.val γ)).toArray
def Sv.val (γ : List Nm) : Sv → Value
  | .x s => s.val γ
  | .t l => .tuple (l.map (Sc.val γ)).toArray
  | .f fn caps => .func fn #[] (caps.map (At.val γ)).toArray

/-! ### What a block, or a slice of the call's own, holds -/
inductive Cont where
  | c (l : List At)
  | u8 (l : List UInt8)
  | u32 (l : List UInt32)
  | u64 (l : List UInt64)
  | i64 (l : List Int)
  | vs (l : List Value)
def Cont.vals (γ : List Nm) : Cont → List Value
  | .c l => l.map (At.val γ)
  | .u8 l => l.map vU8
  | .u32 l => l.map vU32
  | .u64 l => l.map vU64
  | .i64 l => l.map (Value.int .i64)
  | .vs l => l
def Cont.len : Cont → Nat
  | .c l => l.length
  | .u8 l => l.length
  | .u32 l => l.length
  | .u64 l => l.length
  | .i64 l => l.length
  | .vs l => l.length
def toU8 (n : Int) : UInt8 := UInt8.ofNat n.toNat
def toU32 (n : Int) : UInt32 := UInt32.ofNat n.toNat
def toU64 (n : Int) : UInt64 := UInt64.ofNat n.toNat
def inU8 (n : Int) : Prop := 0 ≤ n ∧ n < 256
def inU32 (n : Int) : Prop := 0 ≤ n ∧ n < 4294967296
def inU64 (n : Int) : Prop := 0 ≤ n ∧ n < 18446744073709551616
def inI64 (n : Int) : Prop := -9223372036854775808 ≤ n ∧ n ≤ 9223372036854775807
def Cont.get (i : Nat) : Cont → At
  | .c l => l.getD i (.v undef)
  | .u8 l => .v (vU8 (ix l i))
  | .u32 l => .v (vU32 (ix l i))
  | .u64 l => .v (vU64 (ix l i))
  | .i64 l => .v (.int .i64 (ix l i))
  | .vs l => .v (ix l i)
/-- One cell written. -/
def Cont.set (i : Nat) : Cont → At → Option (Prop × Cont)
  | .c l, x => some (True, .c (l.set i x))
  | .u8 l, .v (.int .u8 n) => some (inU8 n, .u8 (l.set i (toU8 n)))
  | .u32 l, .v (.int .u32 n) => some (inU32 n, .u32 (l.set i (toU32 n)))
  | .u64 l, .v (.int .u64 n) => some (inU64 n, .u64 (l.set i (toU64 n)))
  | .i64 l, .v (.int .i64 n) => some (True, .i64 (l.set i n))
  | .vs l, .v x => some (x.oneCell' = true, .vs (l.set i x))
  | _, _ => none
inductive Res where
  | blk (t : TypeId) (c : Cont)
  | own (e : TypeId) (c : Cont)
  | gone

/-! ### The frame -/
abbrev Fr := List (Nat × Sv)
def Fr.get : Fr → Nat → Option Sv
  | [], _ => none
  | (k, x) :: r, i => if k = i then some x else Fr.get r i
def Fr.put : Fr → Nat → Sv → Fr
  | [], i, v => [(i, v)]
  | (k, x) :: r, i, v => if k = i then (i, v) :: r else (k, x) :: Fr.put r i v
def Fr.ev (fr : Fr) : Operand → Option Sv
  | .tmp t => Fr.get fr t
  | .const v => some (.x (.a (.v v)))
  | .global g => some (.x (.a (.v (.pointer (some ⟨g, 0, none⟩)))))
  | .func f => some (.x (.a (.v (.func (.func f) #[] #[]))))
structure S where
  fr : Fr
  hp : List Res
def S.put (s : S) (d : Option Tmp) (v : Sv) : S :=
  match d with
  | some d => ⟨Fr.put s.fr d v, s.hp⟩
  | none => s

/-! ### Numbers -/
def shl8 (x : UInt8) (n : Nat) : UInt8 := if n < 8 then x <<< UInt8.ofNat n else 0
def shr8 (x : UInt8) (n : Nat) : UInt8 := if n < 8 then x >>> UInt8.ofNat n else 0
def shl32 (x : UInt32) (n : Nat) : UInt32 := if n < 32 then x <<< UInt32.ofNat n else 0
def shr32 (x : UInt32) (n : Nat) : UInt32 := if n < 32 then x >>> UInt32.ofNat n else 0
def shl64 (x : UInt64) (n : Nat) : UInt64 := if n < 64 then x <<< UInt64.ofNat n else 0
def shr64 (x : UInt64) (n : Nat) : UInt64 := if n < 64 then x >>> UInt64.ofNat n else 0
abbrev R1 := Option (Prop × Value)
def binI (op : BinOp) (a b : Int) : R1 :=
  match op with
  | .add => some (inI64 (a + b), .int .i64 (a + b))
  | .sub => some (inI64 (a - b), .int .i64 (a - b))
  | .mul => some (inI64 (a * b), .int .i64 (a * b))
  | .quo => some (b ≠ 0 ∧ inI64 (a.tdiv b), .int .i64 (a.tdiv b))
  | .rem => some (b ≠ 0, .int .i64 (a.tmod b))
  | .eql => some (True, .bool (decide (a = b)))
  | .neq => some (True, .bool (decide (a ≠ b)))
  | .lss => some (True, .bool (decide (a < b)))
  | .leq => some (True, .bool (decide (a ≤ b)))
  | .gtr => some (True, .bool (decide (b < a)))
  | .geq => some (True, .bool (decide (b ≤ a)))
  | _ => none
def bin8 (op : BinOp) (a b : UInt8) : R1 :=
  match op with
  | .add => some (True, vU8 (a + b))
  | .sub => some (True, vU8 (a - b))
  | .mul => some (True, vU8 (a * b))
  | .quo => some (b ≠ 0, vU8 (a / b))
  | .rem => some (b ≠ 0, vU8 (a % b))
  | .and => some (True, vU8 (a &&& b))
  | .or => some (True, vU8 (a ||| b))
  | .xor => some (True, vU8 (a ^^^ b))
  | .andNot => some (True, vU8 (a &&& ~~~b))
  | .eql => some (True, .bool (decide (a = b)))
  | .neq => some (True, .bool (decide (a ≠ b)))
  | .lss => some (True, .bool (decide (a < b)))
  | .leq => some (True, .bool (decide (a ≤ b)))
  | .gtr => some (True, .bool (decide (b < a)))
  | .geq => some (True, .bool (decide (b ≤ a)))
  | _ => none
def bin32 (op : BinOp) (a b : UInt32) : R1 :=
  match op with
  | .add => some (True, vU32 (a + b))
  | .sub => some (True, vU32 (a - b))
  | .mul => some (True, vU32 (a * b))
  | .quo => some (b ≠ 0, vU32 (a / b))
  | .rem => some (b ≠ 0, vU32 (a % b))
  | .and => some (True, vU32 (a &&& b))
  | .or => some (True, vU32 (a ||| b))
  | .xor => some (True, vU32 (a ^^^ b))
  | .andNot => some (True, vU32 (a &&& ~~~b))
  | .eql => some (True, .bool (decide (a = b)))
  | .neq => some (True, .bool (decide (a ≠ b)))
  | .lss => some (True, .bool (decide (a < b)))
  | .leq => some (True, .bool (decide (a ≤ b)))
  | .gtr => some (True, .bool (decide (b < a)))
  | .geq => some (True, .bool (decide (b ≤ a)))
  | _ => none
def bin64 (op : BinOp) (a b : UInt64) : R1 :=
  match op with
  | .add => some (True, vU64 (a + b))
  | .sub => some (True, vU64 (a - b))
  | .mul => some (True, vU64 (a * b))
  | .quo => some (b ≠ 0, vU64 (a / b))
  | .rem => some (b ≠ 0, vU64 (a % b))
  | .and => some (True, vU64 (a &&& b))
  | .or => some (True, vU64 (a ||| b))
  | .xor => some (True, vU64 (a ^^^ b))
  | .andNot => some (True, vU64 (a &&& ~~~b))
  | .eql => some (True, .bool (decide (a = b)))
  | .neq => some (True, .bool (decide (a ≠ b)))
  | .lss => some (True, .bool (decide (a < b)))
  | .leq => some (True, .bool (decide (a ≤ b)))
  | .gtr => some (True, .bool (decide (b < a)))
  | .geq => some (True, .bool (decide (b ≤ a)))
  | _ => none
def shS (left : Bool) (k : IntKind) (a b : Int) : R1 :=
  match k with
  | .u8 => some (inU8 a ∧ 0 ≤ b, vU8 (if left then shl8 (toU8 a) b.toNat else shr8 (toU8 a) b.toNat))
  | .u32 => some (inU32 a ∧ 0 ≤ b, vU32 (if left then shl32 (toU32 a) b.toNat else shr32 (toU32 a) b.toNat))
  | .u64 => some (inU64 a ∧ 0 ≤ b, vU64 (if left then shl64 (toU64 a) b.toNat else shr64 (toU64 a) b.toNat))
  | .i64 => if left then some (0 ≤ b ∧ b ≤ 64 ∧ inI64 (a * 2 ^ b.toNat), .int .i64 (a * 2 ^ b.toNat)) else some (0 ≤ b ∧ b ≤ 64, .int .i64 (a / 2 ^ b.toNat))
  | _ => none
def ban (c : Prop) : R1 → R1
  | some (d, v) => some (c ∧ d, v)
  | none => none
def binN (op : BinOp) (k : IntKind) (a b : Int) : R1 :=
  match k with
  | .i64 => binI op a b
  | .u8 => ban (inU8 a ∧ inU8 b) (bin8 op (toU8 a) (toU8 b))
  | .u32 => ban (inU32 a ∧ inU32 b) (bin32 op (toU32 a) (toU32 b))
  | .u64 => ban (inU64 a ∧ inU64 b) (bin64 op (toU64 a) (toU64 b))
  | _ => none
def cvtN (k dst : IntKind) (n : Int) : R1 :=
  match k, dst with
  | .i64, .i64 => some (inI64 n, .int .i64 n)
  | .i64, .u8 => some (True, vU8 (UInt8.ofInt n))
  | .i64, .u32 => some (True, vU32 (UInt32.ofInt n))
  | .i64, .u64 => some (True, vU64 (UInt64.ofInt n))
  | .u8, .u8 => some (inU8 n, .int .u8 n)
  | .u8, .u32 => some (inU8 n, vU32 (toU8 n).toUInt32)
  | .u8, .u64 => some (inU8 n, vU64 (toU8 n).toUInt64)
  | .u8, .i64 => some (inU8 n, .int .i64 n)
  | .u32, .u8 => some (inU32 n, vU8 (toU32 n).toUInt8)
  | .u32, .u32 => some (inU32 n, .int .u32 n)
  | .u32, .u64 => some (inU32 n, vU64 (toU32 n).toUInt64)
  | .u32, .i64 => some (inU32 n, .int .i64 n)
  | .u64, .u8 => some (inU64 n, vU8 (toU64 n).toUInt8)
  | .u64, .u32 => some (inU64 n, vU32 (toU64 n).toUInt32)
  | .u64, .u64 => some (inU64 n, .int .u64 n)
  | .u64, .i64 => some (inI64 n, .int .i64 n)
  | _, _ => none
/-- Two values compared, told apart by their kinds. -/
def eqV : Value → Value → Option Bool
  | .bool a, .bool b => some (a == b)
  | .nilIface, .nilIface => some true
  | .nilIface, .iface _ _ => some false
  | .iface _ _, .nilIface => some false
  | _, _ => none

/-! ### Memory that was there before: cells of the first world -/
def cellOf (w0 : World) (A : Option Addr) : Value := match A with | some a => (w0.cell? a).getD undef | none => undef
/-- The cell is there, and is none of those that the call may change. -/
def rawOk (w0 : World) (ow : Nat → Prop) (A : Option Addr) : Prop := ∃ a v, A = some a ∧ a.block < w0.heap.size ∧ ¬ ow a.block ∧ w0.cell? a = some v
end Go.Proofs.YtkchdhkpjnnliaaDoor
