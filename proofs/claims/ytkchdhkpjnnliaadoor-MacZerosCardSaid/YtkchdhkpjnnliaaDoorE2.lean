/- The engine: what one operation makes of frame and memory, as a function on terms. No program in sight. -/
import Derived.Test.YtkchdhkpjnnliaaDoorE1
namespace Go.Proofs.YtkchdhkpjnnliaaDoor
open Go.RowKit

def sz (P : Program) (t : TypeId) : Nat := ((P.info? t).map (·.size)).getD 0
def bz (P : Program) (t : TypeId) : Nat := ((P.info? t).map (·.bytes)).getD 0
/-- A type of one cell: no struct, no array. -/
def flat (d : Option TypeDesc) : Bool := match d with | some (.struct _) | some (.array _ _) => false | some _ => true | none => false
def aggr (d : Option TypeDesc) : Bool := match d with | some (.struct _) | some (.array _ _) => true | _ => false
def At.bnd (n : Nat) : At → Prop
  | .v _ => True
  | .p k _ | .s k _ _ _ | .o k | .q k _ | .z k _ _ => k < n
def Sc.bnd (n : Nat) : Sc → Prop
  | .a x => x.bnd n
  | .g l => ∀ x ∈ l, x.bnd n
  | _ => True
def Sv.bnd (n : Nat) : Sv → Prop
  | .x s => s.bnd n
  | .t l => ∀ s ∈ l, Sc.bnd n s
  | .f _ caps => ∀ x ∈ caps, At.bnd n x
def Cont.bnd (n : Nat) : Cont → Prop
  | .c l => ∀ x ∈ l, x.bnd n
  | _ => True
def Res.bnd (n : Nat) : Res → Prop
  | .blk _ c | .own _ c => c.bnd n
  | .gone => True
def S.bnd (s : S) : Prop := (∀ x ∈ s.fr, Sv.bnd s.hp.length x.2) ∧ ∀ r ∈ s.hp, Res.bnd s.hp.length r

abbrev R := Option (Prop × Sv × List Res)
def val1 (hp : List Res) : R1 → R
  | some (c, v) => some (c, .x (.a (.v v)), hp)
  | none => none
def ret1 (c : Prop) (v : Value) (hp : List Res) : R := some (c, .x (.a (.v v)), hp)
def Cont.one (x : At) : Cont := .c [x]
def scalar (x : Value) : Prop := match x with | .agg _ | .tuple _ => False | _ => True
def isOwn (hp : List Res) (k : Nat) : Bool := match hp[k]? with | some (.own _ _) => true | _ => false
def At.scalar (hp : List Res) : At → Prop
  | .v x => Go.Proofs.YtkchdhkpjnnliaaDoor.scalar x
  | .o k | .z k _ _ => isOwn hp k = true
  | .q _ _ => False
  | _ => True
/-- A variable of its own, for a value. -/
def Sc.cont (hp : List Res) : Sc → Prop × Cont
  | .a x => (x.scalar hp, .c [x])
  | .a8 l => (True, .u8 l)
  | .a32 l => (True, .u32 l)
  | .a64 l => (True, .u64 l)
  | .g l => (∀ x ∈ l, x.scalar hp, .c l)
/-- What lies in a whole block, as a value. -/
def Cont.whole : Cont → Option Sc
  | .c l => some (.g l)
  | .u8 l => some (.a8 l)
  | .u32 l => some (.a32 l)
  | .u64 l => some (.a64 l)
  | _ => none
def zeroCont (P : Program) (t : TypeId) : Option Cont :=
  match P.underlying t with
  | some (.int k) => some (.c [.v (.int k 0)])
  | some .bool => some (.c [.v (.bool false)])
  | some .string => some (.c [.v (.string .empty)])
  | some (.pointer _) => some (.c [.v (.pointer none)])
  | some (.slice _) => some (.c [.v (.slice none 0 0)])
  | some (.map _ _) => some (.c [.v (.map none)])
  | some (.func _ _ _) => some (.c [.v .nilFunc])
  | some (.interface _) => some (.c [.v .nilIface])
  | some (.array n e) =>
    match P.underlying e with
    | some (.int .u8) => some (.u8 (List.replicate n 0))
    | some (.int .u32) => some (.u32 (List.replicate n 0))
    | some (.int .u64) => some (.u64 (List.replicate n 0))
    | _ => none
  | _ => none
/-- The zero value of a type, as the program's table has it. -/
def ZOk (P : Program) (t : TypeId) (c : Cont) : Prop := ∃ z, (P.info? t).map (·.zero) = some (some z) ∧ ∀ γ, z.cells.toList = c.vals γ
def boxS (t : TypeId) (c : Prop) (k : Cont) (hp : List Res) : R := some (c, .x (.a (.p hp.length 0)), hp ++ [.blk t k])

def Cont.part (c : Cont) (off n : Nat) : Option Cont :=
  match c with
  | .c l => some (.c ((l.drop off).take n))
  | .u8 l => some (.u8 ((l.drop off).take n))
  | .u32 l => some (.u32 ((l.drop off).take n))
  | .u64 l => some (.u64 ((l.drop off).take n))
  | .i64 l => some (.i64 ((l.drop off).take n))
  | .vs l => some (.vs ((l.drop off).take n))
/-- A part that is all of it is spelled as it is. -/
def Cont.cut (c : Cont) (off n : Nat) : Option Cont := if off = 0 ∧ n = c.len then some c else c.part off n
def Cont.app : Cont → Cont → Option Cont
  | .c a, .c b => some (.c (a ++ b))
  | .u8 a, .u8 b => some (.u8 (a ++ b))
  | .u32 a, .u32 b => some (.u32 (a ++ b))
  | .u64 a, .u64 b => some (.u64 (a ++ b))
  | .i64 a, .i64 b => some (.i64 (a ++ b))
  | .vs a, .vs b => some (.vs (a ++ b))
  | _, _ => none
/-- A list of cells of a type's kind, from values. -/
def cont8 : List At → Option (Prop × List UInt8)
  | [] => some (True, [])
  | .v (.int .u8 n) :: r => match cont8 r with | some (c, l) => some (inU8 n ∧ c, toU8 n :: l) | none => none
  | _ => none
def cont32 : List At → Option (Prop × List UInt32)
  | [] => some (True, [])
  | .v (.int .u32 n) :: r => match cont32 r with | some (c, l) => some (inU32 n ∧ c, toU32 n :: l) | none => none
  | _ => none
def cont64 : List At → Option (Prop × List UInt64)
  | [] => some (True, [])
  | .v (.int .u64 n) :: r => match cont64 r with | some (c, l) => some (inU64 n ∧ c, toU64 n :: l) | none => none
  | _ => none
def contI : List At → Option (List Int)
  | [] => some []
  | .v (.int .i64 n) :: r => match contI r with | some l => some (n :: l) | none => none
  | _ => none
def contOf (hp : List Res) (d : Option TypeDesc) (l : List At) : Option (Prop × Cont) :=
  match d with
  | some (.int .u8) => match cont8 l with | some (c, l) => some (c, .u8 l) | none => none
  | some (.int .u32) => match cont32 l with | some (c, l) => some (c, .u32 l) | none => none
  | some (.int .u64) => match cont64 l with | some (c, l) => some (c, .u64 l) | none => none
  | some (.int .i64) => match contI l with | some l => some (True, .i64 l) | none => none
  | _ => some (∀ x ∈ l, x.scalar hp, .c l)
/-- The parts of a literal that stand one behind the other, all there. -/
def parts (ev : Operand → Option Sv) : Nat → List (Nat × Operand) → Option (List At)
  | _, [] => some []
  | k, (i, x) :: r =>
    if i = k then
      match ev x with
      | some (.x (.a y)) => match parts ev (k + 1) r with | some l => some (y :: l) | none => none
      | _ => none
    else none
def hpSet (hp : List Res) (k : Nat) (r : Res) : List Res := hp.set k r
def loadS (P : Program) (w0 : World) (ow : Nat → Prop) (t : TypeId) (hp : List Res) : Sv → R
  | .x (.a (.p k off)) =>
    match hp[k]? with
    | some (.blk _ c) =>
      if flat (P.underlying t) then some (off < c.len, .x (.a (c.get off)), hp)
      else if aggr (P.underlying t) then match c.cut off (sz P t) with
        | some c' => match c'.whole with
          | some s => some (0 < sz P t ∧ off + sz P t ≤ c.len, .x s, hp)
          | none => none
        | none => none
      else none
    | _ => none
  | .x (.a (.q k i)) =>
    match hp[k]? with
    | some (.own _ c) => if flat (P.underlying t) then some (i < c.len, .x (.a (c.get i)), hp) else none
    | _ => none
  | .x (.a (.v (.pointer A))) => if flat (P.underlying t) then some (rawOk w0 ow A, .x (.a (.v (cellOf w0 A))), hp) else none
  | _ => none
def At.one (hp : List Res) : At → Prop
  | .v x => x.oneCell' = true
  | .o k | .z k _ _ => isOwn hp k = true
  | .q _ _ => False
  | _ => True
/-- A whole aggregate over what lies there. -/
def Cont.over (hp : List Res) : Cont → Sc → Option (Prop × Cont)
  | .u8 l, .a8 m => some (m.length = l.length, .u8 m)
  | .u32 l, .a32 m => some (m.length = l.length, .u32 m)
  | .u64 l, .a64 m => some (m.length = l.length, .u64 m)
  | .c l, .g m => some (m.length = l.length ∧ ∀ x ∈ m, x.one hp, .c m)
  | _, _ => none
def nil1 : Sv := .x (.a (.v undef))
def storeS (P : Program) (t : TypeId) (hp : List Res) : Sv → Sv → R
  | .x (.a (.p k off)), .x s =>
    match hp[k]? with
    | some (.blk e c) =>
      if flat (P.underlying t) then
        match s with
        | .a x => match c.set off x with
          | some (h, c') => some ((h ∧ off < c.len) ∧ x.one hp ∧ sz P t = 1, nil1, hp.set k (.blk e c'))
          | none => none
        | _ => none
      else match c.over hp s with
        | some (h, c') => some (h ∧ off = 0 ∧ sz P t = c.len ∧ 0 < c.len, nil1, hp.set k (.blk e c'))
        | none => none
    | _ => none
  | .x (.a (.q k i)), .x (.a x) =>
    match hp[k]? with
    | some (.own e c) =>
      if flat (P.underlying t) then
        match c.set i x with
        | some (h, c') => some ((h ∧ i < c.len) ∧ x.one hp ∧ sz P t = 1, nil1, hp.set k (.own e c'))
        | none => none
      else none
    | _ => none
  | _, _ => none
def idxS (P : Program) (t : TypeId) (hp : List Res) : Sv → Sv → R
  | .x (.a b), .x (.a (.v (.int _ i))) =>
    match P.underlying t with
    | some (.slice e) =>
      match b with
      | .s k off len _ => some (0 ≤ i ∧ i < (len : Int) ∧ sz P e = 1, .x (.a (.p k (off + i.toNat))), hp)
      | .o k => match hp[k]? with
        | some (.own _ c) => some (0 ≤ i ∧ i < (c.len : Int) ∧ sz P e = 1, .x (.a (.q k i.toNat)), hp)
        | _ => none
      | .z k l m => match hp[k]? with
        | some (.own _ c) => some (0 ≤ i ∧ i < (m : Int) ∧ l + m ≤ c.len ∧ sz P e = 1, .x (.a (.q k (l + i.toNat))), hp)
        | _ => none
      | .v (.slice A len _) => some (0 ≤ i ∧ i < (len : Int) ∧ sz P e = 1 ∧ A.isSome = true, .x (.a (.v (.pointer (pAdd A i.toNat)))), hp)
      | _ => none
    | some (.array n e) =>
      match b with
      | .p k off => some (0 ≤ i ∧ i < (n : Int) ∧ sz P e = 1, .x (.a (.p k (off + i.toNat))), hp)
      | _ => none
    | _ => none
  | _, _ => none
def sAt (s : ByteArray) (i : Nat) : UInt8 := ix s.data.toList i
def indexS (P : Program) (t : TypeId) (hp : List Res) : Sv → Sv → R
  | .x b, .x (.a (.v (.int _ i))) =>
    match P.underlying t with
    | some (.array n e) =>
      match b with
      | .a8 l => some (0 ≤ i ∧ i < (n : Int) ∧ l.length = n ∧ sz P e = 1 ∧ flat (P.underlying e) = true, .x (.a (.v (vU8 (ix l i.toNat)))), hp)
      | .a32 l => some (0 ≤ i ∧ i < (n : Int) ∧ l.length = n ∧ sz P e = 1 ∧ flat (P.underlying e) = true, .x (.a (.v (vU32 (ix l i.toNat)))), hp)
      | .a64 l => some (0 ≤ i ∧ i < (n : Int) ∧ l.length = n ∧ sz P e = 1 ∧ flat (P.underlying e) = true, .x (.a (.v (vU64 (ix l i.toNat)))), hp)
      | _ => none
    | some .string =>
      match b with
      | .a (.v (.string s)) => some (0 ≤ i ∧ i < (s.size : Int), .x (.a (.v (vU8 (sAt s i.toNat)))), hp)
      | _ => none
    | _ => none
  | _, _ => none
/-- The bounds of 'x[lo:hi]'. -/
def bnds (ev : Operand → Option Sv) (len : Nat) (lo hi : Option Operand) : Option (Int × Int) :=
  match (match lo with | none => some 0 | some o => match ev o with | some (.x (.a (.v (.int _ n)))) => some n | _ => none),
        (match hi with | none => some (len : Int) | some o => match ev o with | some (.x (.a (.v (.int _ n)))) => some n | _ => none) with
  | some l, some h => some (l, h)
  | _, _ => none
def sliceS (P : Program) (t : TypeId) (ev : Operand → Option Sv) (hp : List Res) (lo hi : Option Operand) : Sv → R
  | .x (.a b) =>
    match P.underlying t with
    | some .string =>
      match b with
      | .v (.string s) => match bnds ev s.size lo hi with
        | some (l, h) => some (0 ≤ l ∧ l ≤ h ∧ h ≤ (s.size : Int), .x (.a (.v (.string (s.extract l.toNat h.toNat)))), hp)
        | none => none
      | _ => none
    | some (.slice e) =>
      match b with
      | .s k off len cap => match bnds ev len lo hi with
        | some (l, h) => some (0 ≤ l ∧ l ≤ h ∧ h ≤ (cap : Int) ∧ l < (cap : Int) ∧ sz P e = 1, .x (.a (.s k (off + l.toNat) (h.toNat - l.toNat) (cap - l.toNat))), hp)
        | none => none
      | .o k => match hp[k]? with
        | some (.own _ c) => match bnds ev c.len lo hi with
          | some (l, h) => some (0 ≤ l ∧ l ≤ h ∧ h ≤ (c.len : Int) ∧ sz P e = 1, .x (.a (.z k l.toNat (h.toNat - l.toNat))), hp)
          | none => none
        | _ => none
      | .v (.slice A len cap) => match bnds ev len lo hi with
        | some (l, h) => some (0 ≤ l ∧ l ≤ h ∧ h ≤ (cap : Int) ∧ sz P e = 1, .x (.a (.v (.slice (pCut A l.toNat cap) (h.toNat - l.toNat) (cap - l.toNat)))), hp)
        | none => none
      | _ => none
    | some (.array n e) =>
      match b with
      | .p k off => match bnds ev n lo hi with
        | some (l, h) => some (0 ≤ l ∧ l ≤ h ∧ h ≤ (n : Int) ∧ l < (n : Int) ∧ sz P e = 1, .x (.a (.s k (off + l.toNat) (h.toNat - l.toNat) (n - l.toNat))), hp)
        | none => none
      | _ => none
    | _ => none
  | _ => none
/-- Arrays of bytes, compared. -/
def arrEq (P : Program) (t : TypeId) (n : Nat) (k : IntKind) : Prop := ∃ e, P.underlying t = some (.array n e) ∧ P.underlying e = some (.int k) ∧ sz P e = 1 ∧ P.plainKey e = true ∧ P.eqGuardType P.depth t = false
def neg1 (neg : Bool) (c : Prop) (b : Bool) (hp : List Res) : R := ret1 c (.bool (if neg then !b else b)) hp
def eqS (P : Program) (t : TypeId) (neg : Bool) (hp : List Res) : Sv → Sv → R
  | .x (.a8 a), .x (.a8 b) => match P.underlying t with
    | some (.array n _) => neg1 neg (arrEq P t n .u8 ∧ a.length = n ∧ b.length = n) (decide (a = b)) hp
    | _ => none
  | .x (.a (.v (.string a))), .x (.a (.v (.string b))) => neg1 neg True (a.toList == b.toList) hp
  | .x (.a (.v (.bool a))), .x (.a (.v (.bool b))) => match P.underlying t with | some .bool => neg1 neg True (a == b) hp | _ => none
  | .x (.a (.v .nilIface)), .x (.a (.v (.iface _ _))) => match P.underlying t with | some (.interface _) => neg1 neg True false hp | _ => none
  | .x (.a (.v (.iface _ _))), .x (.a (.v .nilIface)) => match P.underlying t with | some (.interface _) => neg1 neg True false hp | _ => none
  | .x (.a (.v (.slice A _ _))), .x (.a (.v (.slice none _ _))) => match P.underlying t with | some (.slice _) => neg1 neg True A.isNone hp | _ => none
  | .x (.a (.s _ _ _ _)), .x (.a (.v (.slice none _ _))) => match P.underlying t with | some (.slice _) => neg1 neg True false hp | _ => none
  | .x (.a (.p _ _)), .x (.a (.v (.pointer none))) => match P.underlying t with | some (.pointer _) => neg1 neg True false hp | _ => none
  | _, _ => none
def litO (x : Operand) : Bool := match x with | .const _ => true | _ => false
/-- 'err == nil' where both may be nil, one of them the literal. -/
def nilEq (P : Program) (t : TypeId) (neg : Bool) (hp : List Res) (x y : Operand) : Sv → Sv → R
  | .x (.a (.v .nilIface)), .x (.a (.v .nilIface)) =>
    match P.underlying t with
    | some (.interface _) => if litO x = true ∨ litO y = true then neg1 neg True true hp else none
    | _ => none
  | a, b => eqS P t neg hp a b
def binS (P : Program) (op : BinOp) (t : TypeId) (x y : Operand) (hp : List Res) : Sv → Sv → R
  | .x (.a (.v (.int k a))), .x (.a (.v (.int k' b))) =>
    match op with
    | .shl => val1 hp (shS true k a b)
    | .shr => val1 hp (shS false k a b)
    | op => if k = k' then val1 hp (binN op k a b) else none
  | a, b =>
    match op with
    | .eql => nilEq P t false hp x y a b
    | .neq => nilEq P t true hp x y a b
    | .add => match a, b with
      | .x (.a (.v (.string a))), .x (.a (.v (.string b))) => ret1 (a.size + b.size ≤ 9223372036854775807) (.string (a ++ b)) hp
      | _, _ => none
    | _ => none
def unS (op : UnOp) (hp : List Res) : Sv → R
  | .x (.a (.v (.bool b))) => match op with | .not => ret1 True (.bool (!b)) hp | _ => none
  | .x (.a (.v (.int .i64 n))) => match op with | .neg => ret1 (inI64 (-n)) (.int .i64 (-n)) hp | _ => none
  | _ => none
/-- The bytes that a slice shows, in the first world. -/
def rd8 (w0 : World) (A : Option Addr) (n : Nat) : List UInt8 := (List.range n).map fun j => match cellOf w0 (pAdd A j) with | .int .u8 x => toU8 x | _ => 0
def RdO (w0 : World) (ow : Nat → Prop) (A : Option Addr) (vs : List Value) : Prop := RdV w0 w0.heap.size A vs ∧ ∀ a, A = some a → ¬ ow a.block
def Rd8 (w0 : World) (ow : Nat → Prop) (A : Option Addr) (n : Nat) : Prop := RdO w0 ow A ((rd8 w0 A n).map vU8)
def cvtS (P : Program) (w0 : World) (ow : Nat → Prop) (src dst : TypeId) (hp : List Res) : Sv → R
  | .x (.a (.v (.int k n))) => match P.underlying src, P.underlying dst with | some _, some (.int d) => val1 hp (cvtN k d n) | _, _ => none
  | .x (.a (.v (.string s))) => match P.underlying src, P.underlying dst with | some _, some .string => ret1 True (.string s) hp | _, _ => none
  | .x (.a (.v (.slice A n _))) => match P.underlying src, P.underlying dst with
    | some (.slice e), some .string => match P.underlying e with
      | some (.int .u8) => ret1 (Rd8 w0 ow A n) (.string (bstr (rd8 w0 A n))) hp
      | _ => none
    | _, _ => none
  | .x (.a (.o k)) => match P.underlying src, P.underlying dst, hp[k]? with
    | some (.slice e), some .string, some (.own _ (.u8 l)) => match P.underlying e with
      | some (.int .u8) => ret1 True (.string (bstr l)) hp
      | _ => none
    | _, _, _ => none
  | _ => none
def lenS (P : Program) (t : TypeId) (hp : List Res) : Sv → R
  | .x (.a (.v (.string s))) => match P.underlying t with | some .string => ret1 True (.int .i64 s.size) hp | _ => none
  | .x (.a (.v (.slice _ n _))) => match P.underlying t with | some (.slice _) => ret1 True (.int .i64 n) hp | _ => none
  | .x (.a (.s _ _ n _)) => match P.underlying t with | some (.slice _) => ret1 True (.int .i64 n) hp | _ => none
  | .x (.a (.o k)) => match P.underlying t, hp[k]? with | some (.slice _), some (.own _ c) => ret1 True (.int .i64 c.len) hp | _, _ => none
  | .x (.a (.z k _ m)) => match P.underlying t with | some (.slice _) => ret1 (isOwn hp k = true) (.int .i64 m) hp | _ => none
  | _ => match P.underlying t with | some (.array n _) => ret1 True (.int .i64 n) hp | _ => none
/-- Onto what is appended: which one it is, and what it holds. -/
def baseS (hp : List Res) (e : TypeId) : Sv → Option (Option Nat × Option Cont)
  | .x (.a (.v (.slice none n c))) => if n = 0 ∧ c = 0 then some (none, none) else none
  | .x (.a (.o k)) => match hp[k]? with
    | some (.own e' c) => if e' = e then some (some k, some c) else none
    | _ => none
  | .x (.a (.s k off len cap)) => match hp[k]? with
    | some (.blk e' c) => if e' = e ∧ off = 0 ∧ cap = len ∧ len = c.len then some (some k, some c) else none
    | _ => none
  | _ => none
/-- What is appended. -/
def srcS (w0 : World) (ow : Nat → Prop) (hp : List Res) (d : Option TypeDesc) : Sv → Option (Prop × Cont)
  | .x (.a (.s k off len _)) => match hp[k]? with
    | some (.blk _ c) => match c.cut off len with
      | some c' => some (off + len ≤ c.len, c')
      | none => none
    | _ => none
  | .x (.a (.o k)) => match hp[k]? with
    | some (.own _ c) => some (True, c)
    | _ => none
  | .x (.a (.z k l m)) => match hp[k]? with
    | some (.own _ c) => match c.cut l m with
      | some c' => some (l + m ≤ c.len, c')
      | none => none
    | _ => none
  | .x (.a (.v (.slice A n _))) => match d with
    | some (.int .u8) => some (Rd8 w0 ow A n, .u8 (rd8 w0 A n))
    | _ => none
  | _ => none
def joinC : Option Cont → Cont → Option Cont
  | none, c => some c
  | some a, c => a.app c
def clen (c : Option Cont) : Nat := match c with | none => 0 | some c => c.len
def setGone (hp : List Res) (k : Option Nat) : List Res := match k with | none => hp | some k => hp.set k .gone
/-- The cells of a slice of the call's own are values of one cell. -/
def Cont.plain (hp : List Res) : Cont → Prop
  | .c l => ∀ x ∈ l, x.one hp
  | .vs l => ∀ x ∈ l, x.oneCell' = true
  | _ => True
def appS (P : Program) (w0 : World) (ow : Nat → Prop) (t t' : TypeId) (hp : List Res) (b x : Sv) : R :=
  match P.underlying t with
  | some (.slice e) =>
    if t = t' then
      match baseS hp e b, srcS w0 ow hp (P.underlying e) x with
      | some (k, c), some (h, m) =>
        match joinC c m with
        | some c' => some (h ∧ m.plain hp ∧ (clen c + m.len) * bz P e ≤ 140737488355328 ∧ clen c + m.len ≤ maxLen ∧ ZOk P e (.c [.v (zero1 (P.underlying e))]) ∧ sz P e = 1, .x (.a (.o hp.length)), setGone hp k ++ [.own e c'])
        | none => none
      | _, _ => none
    else match P.underlying t', x with
    | some (.int _), .x (.a (.v (.int .i64 m))) =>
      match baseS hp e b, zeroN (P.underlying e) m.toNat with
      | some (k, c), some z => match joinC c z with
        | some c' => some (0 ≤ m ∧ (clen c + m.toNat) * bz P e ≤ 140737488355328 ∧ clen c + m.toNat ≤ maxLen ∧ ZOk P e (.c [.v (zero1 (P.underlying e))]) ∧ sz P e = 1, .x (.a (.o hp.length)), setGone hp k ++ [.own e c'])
        | none => none
      | _, _ => none
    | _, _ => none
  | _ => none
  where
  zeroN : Option TypeDesc → Nat → Option Cont
    | some (.int .u8), n => some (.u8 (List.replicate n 0))
    | _, _ => none
  zero1 : Option TypeDesc → Value
    | some (.int k) => .int k 0
    | some .bool => .bool false
    | some .string => .string .empty
    | some (.pointer _) => .pointer none
    | some (.slice _) => .slice none 0 0
    | some (.map _ _) => .map none
    | some (.func _ _ _) => .nilFunc
    | some (.interface _) => .nilIface
    | _ => undef
def ev2 (f : Sv → Sv → R) : Option Sv → Option Sv → R
  | some a, some b => f a b
  | _, _ => none
def ev1 (f : Sv → R) : Option Sv → R
  | some a => f a
  | _ => none
def pickS (hp : List Res) : Sv → Sv → Sv → R
  | .x (.a (.v (.bool c))), .x (.a (.v (.bool x))), .x (.a (.v (.bool y))) => some (True, .x (.a (.v (.bool (if c then x else y)))), hp)
  | .x (.a (.v (.bool c))), x, y => some (True, if c then x else y, hp)
  | _, _, _ => none
def ev3 (f : Sv → Sv → Sv → R) : Option Sv → Option Sv → Option Sv → R
  | some a, some b, some c => f a b c
  | _, _, _ => none
def fieldOff (P : Program) (t : TypeId) (f : Nat) : Option (Nat × TypeId) :=
  match P.underlying t with
  | some (.struct fs) => match fs[f]? with
    | some fd => some (fd.offset, fd.type)
    | none => none
  | _ => none
def fieldS (P : Program) (t : TypeId) (f : Nat) (hp : List Res) : Sv → R
  | .x (.g l) => match fieldOff P t f with
    | some (o, ft) => if flat (P.underlying ft) then some (o < l.length, .x (.a (l.getD o (.v undef))), hp) else none
    | none => none
  | _ => none
def fieldAddrS (P : Program) (t : TypeId) (f : Nat) (hp : List Res) : Sv → R
  | .x (.a (.p k off)) => match fieldOff P t f with
    | some (o, ft) => some (sz P ft ≠ 0, .x (.a (.p k (off + o))), hp)
    | none => none
  | .x (.a (.v (.pointer A))) => match fieldOff P t f with
    | some (o, ft) => some (sz P ft ≠ 0 ∧ A.isSome = true, .x (.a (.v (.pointer (pAdd A o)))), hp)
    | none => none
  | _ => none
def extrS (i : Nat) (hp : List Res) : Sv → R
  | .t l => match l[i]? with
    | some s => some (True, .x s, hp)
    | none => none
  | _ => none
def nilS (hp : List Res) : Sv → R
  | .x (.a (.p k o)) => some (True, .x (.a (.p k o)), hp)
  | .x (.a (.v (.pointer A))) => some (A.isSome = true, .x (.a (.v (.pointer A))), hp)
  | _ => none
def ifcS (P : Program) (t : TypeId) (hp : List Res) : Sv → R
  | .x (.a (.v x)) => match P.underlying t with
    | some (.interface _) => none
    | some _ => ret1 True (.iface t x) hp
    | none => none
  | _ => none
def bsS (P : Program) (t : TypeId) (len : Nat) (hp : List Res) : Option (List At) → R
  | some l => match P.underlying t with
    | some (.slice e) => match contOf hp (P.underlying e) l with
      | some (c, k) => some (c ∧ sz P e = 1 ∧ k.len = len ∧ len ≤ 1000 ∧ ZOk P e (.c [.v (appS.zero1 (P.underlying e))]), .x (.a (.s hp.length 0 len len)), hp ++ [.blk e k])
      | none => none
    | _ => none
  | none => none
def callS (P : Program) (w0 : World) (ow : Nat → Prop) (ev : Operand → Option Sv) (hp : List Res) (c : Call) : R :=
  match c.callee with
  | .builtin .len => match c.args.toList, c.argTypes.toList with
    | [x], [t] => ev1 (lenS P t hp) (ev x)
    | _, _ => none
  | .builtin .append => match c.args.toList, c.argTypes.toList with
    | [x, y], [t, t'] => ev2 (appS P w0 ow t t' hp) (ev x) (ev y)
    | _, _ => none
  | _ => none
def op1 (P : Program) (w0 : World) (ow : Nat → Prop) (ev : Operand → Option Sv) (hp : List Res) : Op → R
  | .move x | .assign x => ev1 (fun v => some (True, v, hp)) (ev x)
  | .pick c a b => ev3 (pickS hp) (ev c) (ev a) (ev b)
  | .alloc t => match zeroCont P t with
    | some c => boxS t (ZOk P t c) c hp
    | none => none
  | .box t x => ev1 (fun v => match v with | .x s => boxS t (s.cont hp).1 (s.cont hp).2 hp | _ => none) (ev x)
  | .buildSlice t len ps => bsS P t len hp (parts ev 0 ps.toList)
  | .load t x => ev1 (loadS P w0 ow t hp) (ev x)
  | .store t x y => ev2 (storeS P t hp) (ev x) (ev y)
  | .nilCheck x => ev1 (nilS hp) (ev x)
  | .binOp op t x y _ => ev2 (binS P op t x y hp) (ev x) (ev y)
  | .unOp op _ x => ev1 (unS op hp) (ev x)
  | .convert src dst x => ev1 (cvtS P w0 ow src dst hp) (ev x)
  | .makeInterface t x => ev1 (ifcS P t hp) (ev x)
  | .slice t x lo hi none => ev1 (sliceS P t ev hp lo hi) (ev x)
  | .fieldAddr t x f => ev1 (fieldAddrS P t f hp) (ev x)
  | .field t x f => ev1 (fieldS P t f hp) (ev x)
  | .indexAddr t x i => ev2 (idxS P t hp) (ev x) (ev i)
  | .index t x i => ev2 (indexS P t hp) (ev x) (ev i)
  | .extract x i => ev1 (extrS i hp) (ev x)
  | .call c => callS P w0 ow ev hp c
  | _ => none
end Go.Proofs.YtkchdhkpjnnliaaDoor
