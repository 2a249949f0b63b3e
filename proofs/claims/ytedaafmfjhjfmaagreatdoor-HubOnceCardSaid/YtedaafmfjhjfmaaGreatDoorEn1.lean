import Derived.Test.YtedaafmfjhjfmaaGreatDoorStr
import Derived.Lib.OthersKept
import Derived.Laws.StructEq
/- En1: E1, E2, E3, E4, E5, E6, joined. -/
/- An engine for walks: values, frames and memory written as plain terms, and what one operation makes of them, as a function. No program in sight. -/
namespace Go.Proofs.YtedaafmfjhjfmaaGreatDoor
open Go.RowKit
set_option linter.unusedSimpArgs false
section
inductive At where
 |v (x:Value)
 |p (k off:Nat)
 |s (k off len cap:Nat)
 |o (k:Nat)
 |q (k i:Nat)
 |z (k off len:Nat)
 |y (k m off len:Nat)
inductive Sc where
 |a (x:At)
 |a8 (l:List UInt8)
 |a32 (l:List UInt32)
 |a64 (l:List UInt64)
 |g (l:List At)
inductive Sv where
 |x (s:Sc)
 |t (l:List Sc)
 |f (fn:Fn) (caps:List At)
inductive Nm where
 |b (g:Nat)
 |s (x:Value)
 |m (x:Value) (B:Nat→Prop)
def nmB (γ:List Nm) (k:Nat):Nat:=match γ[k]? with|some (.b g)=>g|_=>0
def nmS (γ:List Nm) (k:Nat):Value:=match γ[k]? with|some (.s x)=>x|some (.m x _)=>x|_=>undef
def nmM (γ:List Nm) (k:Nat):Nat→Prop:=match γ[k]? with|some (.m _ B)=>B|_=>fun _=>False
def Af (A:Option Addr) (j:Nat):Option Addr:=A.map fun a=>a.add j
def Lo (A:Option Addr) (l cap:Nat):Option Addr:=if cap=l then A else Af A l
def Ye (A:Option Addr) (l cap m:Nat):Option Addr:=if cap=l then A else Af A (l*m)
def At.val (γ:List Nm):At→Value
 | .v x=>x
 | .p k off=>.pointer (some ⟨nmB γ k,off,none⟩)
 | .s k off len cap=>.slice (some ⟨nmB γ k,off,none⟩) len cap
 | .o k=>nmS γ k
 | .q k i=>match nmS γ k with| .slice (some a) _ _=>.pointer (some ⟨a.block,a.off+i,none⟩)|_=>undef
 | .z k l m=>match nmS γ k with| .slice A _ cap=>.slice (Lo A l cap) m (cap - l)|_=>undef
 | .y k m l n=>match nmS γ k with| .slice A _ cap=>.slice (if cap=l then A else Af A (l*m)) n (cap - l)|_=>undef
def Sc.val (γ:List Nm):Sc→Value
 | .a x=>x.val γ
 | .a8 l=>.agg (arr8 l)
 | .a32 l=>.agg (arr32 l)
 | .a64 l=>.agg (arr64 l)
 | .g l=>.agg (l.map (At.val γ)).toArray
def Sv.val (γ:List Nm):Sv→Value
 | .x s=>s.val γ
 | .t l=>.tuple (l.map (Sc.val γ)).toArray
 | .f fn caps=>.func fn #[] (caps.map (At.val γ)).toArray
inductive Cont where
 |c (l:List At)
 |u8 (l:List UInt8)
 |u32 (l:List UInt32)
 |u64 (l:List UInt64)
 |i64 (l:List Int)
 |vs (l:List Value)
def Cont.vals (γ:List Nm):Cont→List Value
 | .c l=>l.map (At.val γ)
 | .u8 l=>l.map vU8
 | .u32 l=>l.map Ap
 | .u64 l=>l.map vU64
 | .i64 l=>l.map (Value.int .i64)
 | .vs l=>l
def Cont.len:Cont→Nat
 | .c l=>l.length
 | .u8 l=>l.length
 | .u32 l=>l.length
 | .u64 l=>l.length
 | .i64 l=>l.length
 | .vs l=>l.length
def Es (n:Int):UInt8:=UInt8.ofNat n.toNat
def Et (n:Int):UInt32:=UInt32.ofNat n.toNat
def Eu (n:Int):UInt64:=UInt64.ofNat n.toNat
def Ds (n:Int):Prop:=0≤n∧n < 256
def Dt (n:Int):Prop:=0≤n∧n < 4294967296
def D6 (n:Int):Prop:=0≤n∧n < 18446744073709551616
def Fy (n:Int):Prop:=-9223372036854775808≤n∧n≤9223372036854775807
def Cont.get (i:Nat):Cont→At
 | .c l=>l.getD i (.v undef)
 | .u8 l=>.v (vU8 (ix l i))
 | .u32 l=>.v (Ap (ix l i))
 | .u64 l=>.v (vU64 (ix l i))
 | .i64 l=>.v (.int .i64 (ix l i))
 | .vs l=>.v (ix l i)
def Cont.set (i:Nat):Cont→At→Option (Prop×Cont)
 | .c l,x=>some (True,.c (l.set i x))
 | .u8 l,.v (.int .u8 n)=>some (Ds n,.u8 (l.set i (Es n)))
 | .u32 l,.v (.int .u32 n)=>some (Dt n,.u32 (l.set i (Et n)))
 | .u64 l,.v (.int .u64 n)=>some (D6 n,.u64 (l.set i (Eu n)))
 | .i64 l,.v (.int .i64 n)=>some (True,.i64 (l.set i n))
 | .vs l,.v x=>some (x.oneCell'=true,.vs (l.set i x))
 |_,_=>none
def scalar (x:Value):Prop:=match x with| .agg _| .tuple _=>False|_=>True
structure Rep where
 H:Value→(Nat→Prop)→World→Prop
 one:∀{v:Value} {B:Nat→Prop} {w:World},H v B w→v.oneCell'=true∧scalar v
 keep:∀{v:Value} {B own:Nat→Prop} {w w':World},H v B w→(∀b,B b→b < w.heap.size)→Keeps own w w'→(∀b,B b→¬own b)→H v B w'
inductive Res where
 |blk (t:TypeId) (c:Cont)
 |own (e:TypeId) (c:Cont)
 |lit (e:TypeId) (c:Cont)
 |str (e:TypeId) (c:Cont)
 |it (s:ByteArray) (pos:Nat)
 |pin (g:Nat) (t:TypeId) (c:Cont)
 |onn (e:TypeId) (m:Nat) (c:Cont)
 |abs (R:Rep)
 |mp (q:IntKind) (l:List (Int×Sc))
 |gone
abbrev Fr:=List (Nat×Sv)
def Fr.get:Fr→Nat→Option Sv
 |[],_=>none
 |(k,x)::r,i=>if k=i then some x else Fr.get r i
def Fr.put (fr:Fr) (i:Nat) (v:Sv):Fr:=(i,v)::fr
def Fr.ev (fr:Fr):Operand→Option Sv
 | .tmp t=>Fr.get fr t
 | .const v=>some (.x (.a (.v v)))
 | .global g=>some (.x (.a (.v (.pointer (some ⟨g,0,none⟩)))))
 | .func f=>some (.x (.a (.v (.func (.func f) #[] #[]))))
structure S where
 fr:Fr
 hp:List Res
def S.put (s:S) (d:Option Tmp) (v:Sv):S:=
 match d with
 |some d=>⟨Fr.put s.fr d v,s.hp⟩
 |none=>s
def T6 (x:UInt8) (n:Nat):UInt8:=if n < 8 then x <<< UInt8.ofNat n else 0
def T7 (x:UInt8) (n:Nat):UInt8:=if n < 8 then x >>> UInt8.ofNat n else 0
def T8 (x:UInt32) (n:Nat):UInt32:=if n < 32 then x <<< UInt32.ofNat n else 0
def T9 (x:UInt32) (n:Nat):UInt32:=if n < 32 then x >>> UInt32.ofNat n else 0
def J9 (x:UInt64) (n:Nat):UInt64:=if n < 64 then x <<< UInt64.ofNat n else 0
def Ii (x:UInt64) (n:Nat):UInt64:=if n < 64 then x >>> UInt64.ofNat n else 0
abbrev R1:=Option (Prop×Value)
def Pw (op:BinOp) (a b:Int):R1:=
 match op with
 | .add=>some (Fy (a+b),.int .i64 (a+b))
 | .sub=>some (Fy (a - b),.int .i64 (a - b))
 | .mul=>some (Fy (a*b),.int .i64 (a*b))
 | .quo=>some (b≠0∧Fy (a.tdiv b),.int .i64 (a.tdiv b))
 | .rem=>some (b≠0,.int .i64 (a.tmod b))
 | .eql=>some (True,.bool (decide (a=b)))
 | .neq=>some (True,.bool (decide (a≠b)))
 | .lss=>some (True,.bool (decide (a < b)))
 | .leq=>some (True,.bool (decide (a≤b)))
 | .gtr=>some (True,.bool (decide (b < a)))
 | .geq=>some (True,.bool (decide (b≤a)))
 |_=>none
def Px (op:BinOp) (a b:UInt8):R1:=
 match op with
 | .add=>some (True,vU8 (a+b))
 | .sub=>some (True,vU8 (a - b))
 | .mul=>some (True,vU8 (a*b))
 | .quo=>some (b≠0,vU8 (a / b))
 | .rem=>some (b≠0,vU8 (a % b))
 | .and=>some (True,vU8 (a&&& b))
 | .or=>some (True,vU8 (a|||b))
 | .xor=>some (True,vU8 (a ^^^ b))
 | .andNot=>some (True,vU8 (a&&& ~~~b))
 | .eql=>some (True,.bool (decide (a=b)))
 | .neq=>some (True,.bool (decide (a≠b)))
 | .lss=>some (True,.bool (decide (a < b)))
 | .leq=>some (True,.bool (decide (a≤b)))
 | .gtr=>some (True,.bool (decide (b < a)))
 | .geq=>some (True,.bool (decide (b≤a)))
 |_=>none
def Py (op:BinOp) (a b:UInt32):R1:=
 match op with
 | .add=>some (True,Ap (a+b))
 | .sub=>some (True,Ap (a - b))
 | .mul=>some (True,Ap (a*b))
 | .quo=>some (b≠0,Ap (a / b))
 | .rem=>some (b≠0,Ap (a % b))
 | .and=>some (True,Ap (a&&& b))
 | .or=>some (True,Ap (a|||b))
 | .xor=>some (True,Ap (a ^^^ b))
 | .andNot=>some (True,Ap (a&&& ~~~b))
 | .eql=>some (True,.bool (decide (a=b)))
 | .neq=>some (True,.bool (decide (a≠b)))
 | .lss=>some (True,.bool (decide (a < b)))
 | .leq=>some (True,.bool (decide (a≤b)))
 | .gtr=>some (True,.bool (decide (b < a)))
 | .geq=>some (True,.bool (decide (b≤a)))
 |_=>none
def Pz (op:BinOp) (a b:UInt64):R1:=
 match op with
 | .add=>some (True,vU64 (a+b))
 | .sub=>some (True,vU64 (a - b))
 | .mul=>some (True,vU64 (a*b))
 | .quo=>some (b≠0,vU64 (a / b))
 | .rem=>some (b≠0,vU64 (a % b))
 | .and=>some (True,vU64 (a&&& b))
 | .or=>some (True,vU64 (a|||b))
 | .xor=>some (True,vU64 (a ^^^ b))
 | .andNot=>some (True,vU64 (a&&& ~~~b))
 | .eql=>some (True,.bool (decide (a=b)))
 | .neq=>some (True,.bool (decide (a≠b)))
 | .lss=>some (True,.bool (decide (a < b)))
 | .leq=>some (True,.bool (decide (a≤b)))
 | .gtr=>some (True,.bool (decide (b < a)))
 | .geq=>some (True,.bool (decide (b≤a)))
 |_=>none
def shS (left:Bool) (k:IntKind) (a b:Int):R1:=
 match k with
 | .u8=>some (Ds a∧0≤b,vU8 (if left then T6 (Es a) b.toNat else T7 (Es a) b.toNat))
 | .u32=>some (Dt a∧0≤b,Ap (if left then T8 (Et a) b.toNat else T9 (Et a) b.toNat))
 | .u64=>some (D6 a∧0≤b,vU64 (if left then J9 (Eu a) b.toNat else Ii (Eu a) b.toNat))
 | .i64=>if left then some (0≤b∧b≤64∧Fy (a*2 ^ b.toNat),.int .i64 (a*2 ^ b.toNat)) else some (0≤b∧b≤64,.int .i64 (a / 2 ^ b.toNat))
 |_=>none
def ban (c:Prop):R1→R1
 |some (d,v)=>some (c∧d,v)
 |none=>none
def P2 (op:BinOp) (a b:Int):R1:=
 match op with
 | .eql=>some (True,.bool (decide (a=b)))
 | .neq=>some (True,.bool (decide (a≠b)))
 | .lss=>some (True,.bool (decide (a < b)))
 | .leq=>some (True,.bool (decide (a≤b)))
 | .gtr=>some (True,.bool (decide (b < a)))
 | .geq=>some (True,.bool (decide (b≤a)))
 |_=>none
def P3 (op:BinOp) (k:IntKind) (a b:Int):R1:=
 match k with
 | .i64=>Pw op a b
 | .i32=>P2 op a b
 | .u8=>ban (Ds a∧Ds b) (Px op (Es a) (Es b))
 | .u32=>ban (Dt a∧Dt b) (Py op (Et a) (Et b))
 | .u64=>ban (D6 a∧D6 b) (Pz op (Eu a) (Eu b))
 |_=>none
def P4 (k dst:IntKind) (n:Int):R1:=
 match k,dst with
 | .i64,.i64=>some (Fy n,.int .i64 n)
 | .i64,.u8=>some (True,vU8 (UInt8.ofInt n))
 | .i64,.u32=>some (True,Ap (UInt32.ofInt n))
 | .i64,.u64=>some (True,vU64 (UInt64.ofInt n))
 | .u8,.u8=>some (Ds n,.int .u8 n)
 | .u8,.u32=>some (Ds n,Ap (Es n).toUInt32)
 | .u8,.u64=>some (Ds n,vU64 (Es n).toUInt64)
 | .u8,.i64=>some (Ds n,.int .i64 n)
 | .u32,.u8=>some (Dt n,vU8 (Et n).toUInt8)
 | .u32,.u32=>some (Dt n,.int .u32 n)
 | .u32,.u64=>some (Dt n,vU64 (Et n).toUInt64)
 | .u32,.i64=>some (Dt n,.int .i64 n)
 | .u64,.u8=>some (D6 n,vU8 (Eu n).toUInt8)
 | .u64,.u32=>some (D6 n,Ap (Eu n).toUInt32)
 | .u64,.u64=>some (D6 n,.int .u64 n)
 | .u64,.i64=>some (Fy n,.int .i64 n)
 | .u16,.i64=>some (0≤n∧n < 65536,.int .i64 n)
 |_,_=>none
def eqV:Value→Value→Option Bool
 | .bool a,.bool b=>some (a==b)
 | .nilIface,.nilIface=>some true
 | .nilIface,.iface _ _=>some false
 | .iface _ _,.nilIface=>some false
 |_,_=>none
def A7 (w0:World) (A:Option Addr):Value:=match A with|some a=>(w0.cell? a).getD undef|none=>undef
def Cu (w0:World) (ow:Nat→Prop) (A:Option Addr):Prop:=∃a v,A=some a∧a.block < w0.heap.size∧¬ow a.block∧w0.cell? a=some v
end
section
def sz (P:Program) (t:TypeId):Nat:=((P.info? t).map (·.size)).getD 0
def bz (P:Program) (t:TypeId):Nat:=((P.info? t).map (·.bytes)).getD 0
def Dk (d:Option TypeDesc):Bool:=match d with|some (.struct _)|some (.array _ _)=>false|some _=>true|none=>false
def Gg (d:Option TypeDesc):Bool:=match d with|some (.struct _)|some (.array _ _)=>true|_=>false
def At.bnd (n:Nat):At→Prop
 | .v _=>True
 | .p k _| .s k _ _ _| .o k| .q k _| .z k _ _=>k < n
 | .y k _ _ _=>k < n
def Sc.bnd (n:Nat):Sc→Prop
 | .a x=>x.bnd n
 | .g l=>∀x∈l,x.bnd n
 |_=>True
def Sv.bnd (n:Nat):Sv→Prop
 | .x s=>s.bnd n
 | .t l=>∀s∈l,Sc.bnd n s
 | .f _ caps=>∀x∈caps,At.bnd n x
def Cont.bnd (n:Nat):Cont→Prop
 | .c l=>∀x∈l,x.bnd n
 |_=>True
def Lp (n:Nat) (l:List (Int×Sc)):Prop:=∀p∈l,Sc.bnd n p.2
theorem Ahg (n:Nat):Lp n []=True:=eq_true (fun p hp=>by cases hp)
def Res.bnd (n:Nat):Res→Prop
 | .blk _ c| .own _ c| .lit _ c| .str _ c| .pin _ _ c| .onn _ _ c=>c.bnd n
 | .mp _ l=>Lp n l
 | .it _ _| .abs _| .gone=>True
def S.bnd (s:S):Prop:=(∀x∈s.fr,Sv.bnd s.hp.length x.2)∧∀r∈s.hp,Res.bnd s.hp.length r
abbrev R:=Option (Prop×Sv×List Res)
def Je (hp:List Res):R1→R
 |some (c,v)=>some (c,.x (.a (.v v)),hp)
 |none=>none
def C1 (c:Prop) (v:Value) (hp:List Res):R:=some (c,.x (.a (.v v)),hp)
def Cont.one (x:At):Cont:=.c [x]
def Fz (hp:List Res) (k:Nat):Bool:=match hp[k]? with|some (.own _ _)=>true|some (.str _ _)=>true|some (.onn _ _ _)=>true|_=>false
def Ka (hp:List Res) (k:Nat):Bool:=match hp[k]? with|some (.own _ _)=>true|some (.str _ _)=>true|some (.onn _ _ _)=>true|some (.abs _)=>true|some (.mp _ _)=>true|_=>false
def At.scalar (hp:List Res):At→Prop
 | .v x=>Go.Proofs.YtedaafmfjhjfmaaGreatDoor.scalar x
 | .o k=>Ka hp k=true
 | .z k _ _=>Fz hp k=true
 | .y k _ _ _=>Fz hp k=true
 | .q _ _=>False
 |_=>True
def Sc.cont (hp:List Res):Sc→Prop×Cont
 | .a x=>(x.scalar hp,.c [x])
 | .a8 l=>(True,.u8 l)
 | .a32 l=>(True,.u32 l)
 | .a64 l=>(True,.u64 l)
 | .g l=>(∀x∈l,x.scalar hp,.c l)
def Lq:Option TypeDesc→Option At
 |some (.int k)=>some (.v (.int k 0))
 |some .bool=>some (.v (.bool false))
 |some .string=>some (.v (.string .empty))
 |some (.pointer _)=>some (.v (.pointer none))
 |some (.slice _)=>some (.v (.slice none 0 0))
 |some (.map _ _)=>some (.v (.map none))
 |some (.func _ _ _)=>some (.v .nilFunc)
 |some (.interface _)=>some (.v .nilIface)
 |_=>none
def f8 (x:UInt8):At:=.v (vU8 x)
def f32 (x:UInt32):At:=.v (Ap x)
def f64 (x:UInt64):At:=.v (vU64 x)
def Hk (P:Program) (d:Option TypeDesc):Option (List At):=match d with
 |some (.array n e)=>match P.underlying e with
  |some (.int .u8)=>some ((List.replicate n 0).map f8)
  |some (.int .u32)=>some ((List.replicate n 0).map f32)
  |some (.int .u64)=>some ((List.replicate n 0).map f64)
  |_=>none
 |_=>none
def F0 (P:Program):List Field→Option (List At)
 |[]=>some []
 |f::r=>match Lq (P.underlying f.type),F0 P r with
  |some x,some l=>some (x::l)
  |none,some l=>match Hk P (P.underlying f.type) with
   |some x=>some (x++l)
   |none=>none
  |_,_=>none
def Bo (P:Program) (d:Option TypeDesc):Option (List At):=match d with
 |some (.array n e)=>match P.underlying e with
  |some (.int .u8)=>some ((List.replicate n 0).map f8)
  |some (.int .u32)=>some ((List.replicate n 0).map f32)
  |some (.int .u64)=>some ((List.replicate n 0).map f64)
  |_=>none
 |some (.struct fs)=>F0 P fs.toList
 |_=>none
def Jf (P:Program):List Field→Option (List At)
 |[]=>some []
 |f::r=>match Lq (P.underlying f.type),Jf P r with
  |some x,some l=>some (x::l)
  |none,some l=>match Bo P (P.underlying f.type) with
   |some x=>some (x++l)
   |none=>none
  |_,_=>none
def P5:Nat→List At→List At
 |0,_=>[]
 |n+1,l=>l++P5 n l
def G0 (P:Program) (t:TypeId):Option Cont:=
 match P.underlying t with
 |some (.int k)=>some (.c [.v (.int k 0)])
 |some .bool=>some (.c [.v (.bool false)])
 |some .string=>some (.c [.v (.string .empty)])
 |some (.pointer _)=>some (.c [.v (.pointer none)])
 |some (.slice _)=>some (.c [.v (.slice none 0 0)])
 |some (.map _ _)=>some (.c [.v (.map none)])
 |some (.func _ _ _)=>some (.c [.v .nilFunc])
 |some (.interface _)=>some (.c [.v .nilIface])
 |some (.array n e)=>
  match P.underlying e with
  |some (.int .u8)=>some (.u8 (List.replicate n 0))
  |some (.int .u32)=>some (.u32 (List.replicate n 0))
  |some (.int .u64)=>some (.u64 (List.replicate n 0))
  |some (.struct fs)=>match Jf P fs.toList with
   |some l=>some (.c (P5 n l))
   |none=>none
  |_=>none
 |some (.struct fs)=>match Jf P fs.toList with
  |some l=>some (.c l)
  |none=>none
 |_=>none
def ZOk (P:Program) (t:TypeId) (c:Cont):Prop:=∃z,(P.info? t).map (·.zero)=some (some z)∧∀γ,z.cells.toList=c.vals γ
def M8 (t:TypeId) (c:Prop) (k:Cont) (hp:List Res):R:=some (c,.x (.a (.p hp.length 0)),hp++[.blk t k])
def Cont.part (c:Cont) (off n:Nat):Option Cont:=
 match c with
 | .c l=>some (.c ((l.drop off).take n))
 | .u8 l=>some (.u8 ((l.drop off).take n))
 | .u32 l=>some (.u32 ((l.drop off).take n))
 | .u64 l=>some (.u64 ((l.drop off).take n))
 | .i64 l=>some (.i64 ((l.drop off).take n))
 | .vs l=>some (.vs ((l.drop off).take n))
def Cont.cut (c:Cont) (off n:Nat):Option Cont:=if off=0∧n=c.len then some c else c.part off n
def Cont.app:Cont→Cont→Option Cont
 | .c a,.c b=>some (.c (a++b))
 | .u8 a,.u8 b=>some (.u8 (a++b))
 | .u32 a,.u32 b=>some (.u32 (a++b))
 | .u64 a,.u64 b=>some (.u64 (a++b))
 | .i64 a,.i64 b=>some (.i64 (a++b))
 | .vs a,.vs b=>some (.vs (a++b))
 |_,_=>none
def Hl:List At→Option (Prop×List UInt8)
 |[]=>some (True,[])
 | .v (.int .u8 n)::r=>match Hl r with|some (c,l)=>some (Ds n∧c,Es n::l)|none=>none
 |_=>none
def Ij:List At→Option (Prop×List UInt32)
 |[]=>some (True,[])
 | .v (.int .u32 n)::r=>match Ij r with|some (c,l)=>some (Dt n∧c,Et n::l)|none=>none
 |_=>none
def Ik:List At→Option (Prop×List UInt64)
 |[]=>some (True,[])
 | .v (.int .u64 n)::r=>match Ik r with|some (c,l)=>some (D6 n∧c,Eu n::l)|none=>none
 |_=>none
def Lr:List At→Option (List Int)
 |[]=>some []
 | .v (.int .i64 n)::r=>match Lr r with|some l=>some (n::l)|none=>none
 |_=>none
def Kb (hp:List Res) (d:Option TypeDesc) (l:List At):Option (Prop×Cont):=
 match d with
 |some (.int .u8)=>match Hl l with|some (c,l)=>some (c,.u8 l)|none=>none
 |some (.int .u32)=>match Ij l with|some (c,l)=>some (c,.u32 l)|none=>none
 |some (.int .u64)=>match Ik l with|some (c,l)=>some (c,.u64 l)|none=>none
 |some (.int .i64)=>match Lr l with|some l=>some (True,.i64 l)|none=>none
 |_=>some (∀x∈l,x.scalar hp,.c l)
def M9 (P:Program) (t:TypeId):Option IntKind:=match P.underlying t with
 |some (.array _ e)=>match P.underlying e with|some (.int k)=>some k|_=>none
 |_=>none
def Cont.whole (k:Option IntKind):Cont→Option (Prop×Sc)
 | .c l=>match k with
  |some .u8=>match Hl l with|some (q,m)=>some (q,.a8 m)|none=>some (True,.g l)
  |some .u32=>match Ij l with|some (q,m)=>some (q,.a32 m)|none=>some (True,.g l)
  |some .u64=>match Ik l with|some (q,m)=>some (q,.a64 m)|none=>some (True,.g l)
  |_=>some (True,.g l)
 | .u8 l=>some (True,.a8 l)
 | .u32 l=>some (True,.a32 l)
 | .u64 l=>some (True,.a64 l)
 |_=>none
def parts (ev:Operand→Option Sv):Nat→List (Nat×Operand)→Option (List At)
 |_,[]=>some []
 |k,(i,x)::r=>
  if i=k then
   match ev x with
   |some (.x (.a y))=>match parts ev (k+1) r with|some l=>some (y::l)|none=>none
   |_=>none
  else none
def A15 (hp:List Res) (k:Nat) (r:Res):List Res:=hp.set k r
def Ch:Option Res→Option (TypeId×Cont)
 |some (.blk t c)=>some (t,c)
 |some (.pin _ t c)=>some (t,c)
 |_=>none
def De:Option Res→TypeId→Cont→Res
 |some (.pin g _ _),t,c=>.pin g t c
 |_,t,c=>.blk t c
def Cl (w0:World) (A:Option Addr):Nat→Nat→List At
 |0,_=>[]
 |n+1,off=>.v (A7 w0 (Af A off))::Cl w0 A n (off+1)
def F4 (w0:World) (ow:Nat→Prop) (A:Option Addr):Nat→Nat→Prop
 |0,_=>True
 |n+1,off=>Cu w0 ow (Af A off)∧F4 w0 ow A n (off+1)
def Na (P:Program) (w0:World) (ow:Nat→Prop) (t:TypeId) (hp:List Res):Sv→R
 | .x (.a (.p k off))=>
  match Ch hp[k]? with
  |some (_,c)=>
   if Dk (P.underlying t) then some (off < c.len,.x (.a (c.get off)),hp)
   else if Gg (P.underlying t) then match c.cut off (sz P t) with
    |some c'=>match c'.whole (M9 P t) with
     |some (q,s)=>some (q∧0 < sz P t∧off+sz P t≤c.len,.x s,hp)
     |none=>none
    |none=>none
   else none
  |_=>none
 | .x (.a (.q k i))=>
  match hp[k]? with
  |some (.own _ c)=>if Dk (P.underlying t) then some (i < c.len,.x (.a (c.get i)),hp) else none
  |some (.onn _ _ c)=>
   if Dk (P.underlying t) then some (i < c.len,.x (.a (c.get i)),hp)
   else if Gg (P.underlying t) then match c.part i (sz P t) with
    |some c'=>match c'.whole (M9 P t) with
     |some (q,s)=>some (q∧0 < sz P t∧i+sz P t≤c.len,.x s,hp)
     |none=>none
    |none=>none
   else none
  |_=>none
 | .x (.a (.v (.pointer A)))=>if Dk (P.underlying t) then some (Cu w0 ow A,.x (.a (.v (A7 w0 A))),hp)
  else if Gg (P.underlying t) then match (Cont.c (Cl w0 A (sz P t) 0)).whole (M9 P t) with
   |some (q,s)=>some (q∧0 < sz P t∧A.isSome=true∧F4 w0 ow A (sz P t) 0,.x s,hp)
   |none=>none
  else none
 |_=>none
def At.one (hp:List Res):At→Prop
 | .v x=>x.oneCell'=true
 | .o k=>Ka hp k=true
 | .z k _ _=>Fz hp k=true
 | .y k _ _ _=>Fz hp k=true
 | .q _ _=>False
 |_=>True
def Cont.over (hp:List Res):Cont→Sc→Option (Prop×Cont)
 | .u8 l,.a8 m=>some (m.length=l.length,.u8 m)
 | .u32 l,.a32 m=>some (m.length=l.length,.u32 m)
 | .u64 l,.a64 m=>some (m.length=l.length,.u64 m)
 | .c l,.g m=>some (m.length=l.length∧∀x∈m,x.one hp,.c m)
 |_,_=>none
def Ci:Sv:=.x (.a (.v undef))
def Kc:List At→Nat→List At→List At
 |l,_,[]=>l
 |l,j,x::r=>Kc (l.set j x) (j+1) r
def Cont.piece (hp:List Res) (off m:Nat):Cont→Sc→Option (Prop×Cont)
 | .c l,.g q=>if l.length=q.length then none else some ((q.length=m∧0 < m∧off+m≤l.length)∧∀x∈q,x.one hp,.c (Kc l off q))
 | .c l,.a8 q=>some (q.length=m∧0 < m∧off+m≤l.length,.c (l.take off++(q.map f8++l.drop (off+m))))
 |_,_=>none
def P6 (P:Program) (t:TypeId) (hp:List Res):Sv→Sv→R
 | .x (.a (.p k off)),.x s=>
  match Ch hp[k]? with
  |some (e,c)=>
   if Dk (P.underlying t) then
    match s with
    | .a x=>match c.set off x with
     |some (h,c')=>some ((h∧off < c.len)∧x.one hp∧sz P t=1,Ci,hp.set k (De hp[k]? e c'))
     |none=>none
    |_=>none
   else match c.piece hp off (sz P t) s with
    |some (h,c')=>some (h,Ci,hp.set k (De hp[k]? e c'))
    |none=>match c.over hp s with
     |some (h,c')=>some (h∧off=0∧sz P t=c.len∧0 < c.len,Ci,hp.set k (De hp[k]? e c'))
     |none=>none
  |_=>none
 | .x (.a (.q k i)),.x (.a x)=>
  match hp[k]? with
  |some (.own e c)=>
   if Dk (P.underlying t) then
    match c.set i x with
    |some (h,c')=>some ((h∧i < c.len)∧x.one hp∧sz P t=1,Ci,hp.set k (.own e c'))
    |none=>none
   else none
  |some (.onn e m c)=>
   if Dk (P.underlying t) then
    match c.set i x with
    |some (h,c')=>some ((h∧i < c.len)∧x.one hp∧sz P t=1,Ci,hp.set k (.onn e m c'))
    |none=>none
   else none
  |_=>none
 |_,_=>none
def P7 (P:Program) (t:TypeId) (hp:List Res):Sv→Sv→R
 | .x (.a b),.x (.a (.v (.int _ i)))=>
  match P.underlying t with
  |some (.slice e)=>
   match b with
   | .s k off len _=>if sz P e=1 then some (0≤i∧i < (len:Int)∧sz P e=1,.x (.a (.p k (off+i.toNat))),hp) else some (0≤i∧i < (len:Int)∧sz P e≠0,.x (.a (.p k (off+i.toNat*sz P e))),hp)
   | .o k=>match hp[k]? with
    |some (.own _ c)=>some (0≤i∧i < (c.len:Int)∧sz P e=1,.x (.a (.q k i.toNat)),hp)
    |some (.onn _ m c)=>some (0≤i∧i < ((c.len / m:Nat):Int)∧sz P e=m,.x (.a (.q k (i.toNat*m))),hp)
    |_=>none
   | .z k l m=>match hp[k]? with
    |some (.own _ c)=>some (0≤i∧i < (m:Int)∧l+m≤c.len∧sz P e=1,.x (.a (.q k (l+i.toNat))),hp)
    |_=>none
   | .y k m l n=>match hp[k]? with
    |some (.onn _ m' c)=>some (0≤i∧i < (n:Int)∧(l+n)*m≤c.len∧m'=m∧sz P e=m,.x (.a (.q k ((l+i.toNat)*m))),hp)
    |_=>none
   | .v (.slice A len _)=>some (0≤i∧i < (len:Int)∧sz P e≠0∧A.isSome=true,.x (.a (.v (.pointer (Af A (i.toNat*sz P e))))),hp)
   |_=>none
  |some (.array n e)=>
   match b with
   | .p k off=>match P.underlying e with
    |some (.struct _)=>some (0≤i∧i < (n:Int)∧sz P e≠0,.x (.a (.p k (off+i.toNat*sz P e))),hp)
    |_=>some (0≤i∧i < (n:Int)∧sz P e=1,.x (.a (.p k (off+i.toNat))),hp)
   | .v (.pointer A)=>some (0≤i∧i < (n:Int)∧sz P e≠0∧A.isSome=true,.x (.a (.v (.pointer (Af A (i.toNat*sz P e))))),hp)
   |_=>none
  |_=>none
 |_,_=>none
def sAt (s:ByteArray) (i:Nat):UInt8:=ix s.data.toList i
def P8 (P:Program) (t:TypeId) (hp:List Res):Sv→Sv→R
 | .x b,.x (.a (.v (.int _ i)))=>
  match P.underlying t with
  |some (.array n e)=>
   match b with
   | .a8 l=>some (0≤i∧i < (n:Int)∧l.length=n∧sz P e=1∧Dk (P.underlying e)=true,.x (.a (.v (vU8 (ix l i.toNat)))),hp)
   | .a32 l=>some (0≤i∧i < (n:Int)∧l.length=n∧sz P e=1∧Dk (P.underlying e)=true,.x (.a (.v (Ap (ix l i.toNat)))),hp)
   | .a64 l=>some (0≤i∧i < (n:Int)∧l.length=n∧sz P e=1∧Dk (P.underlying e)=true,.x (.a (.v (vU64 (ix l i.toNat)))),hp)
   | .g l=>some (0≤i∧i < (n:Int)∧l.length=n∧sz P e=1∧Dk (P.underlying e)=true,.x (.a (l.getD i.toNat (.v undef))),hp)
   |_=>none
  |some .string=>
   match b with
   | .a (.v (.string s))=>some (0≤i∧i < (s.size:Int),.x (.a (.v (vU8 (sAt s i.toNat)))),hp)
   |_=>none
  |_=>none
 |_,_=>none
def Hm (ev:Operand→Option Sv) (len:Nat) (lo hi:Option Operand):Option (Int×Int):=
 match (match lo with|none=>some 0|some o=>match ev o with|some (.x (.a (.v (.int _ n))))=>some n|_=>none),
    (match hi with|none=>some (len:Int)|some o=>match ev o with|some (.x (.a (.v (.int _ n))))=>some n|_=>none) with
 |some l,some h=>some (l,h)
 |_,_=>none
def P9 (P:Program) (t:TypeId) (ev:Operand→Option Sv) (hp:List Res) (lo hi:Option Operand):Sv→R
 | .x (.a b)=>
  match P.underlying t with
  |some .string=>
   match b with
   | .v (.string s)=>match Hm ev s.size lo hi with
    |some (l,h)=>some (0≤l∧l≤h∧h≤(s.size:Int),.x (.a (.v (.string (s.extract l.toNat h.toNat)))),hp)
    |none=>none
   |_=>none
  |some (.slice e)=>
   match b with
   | .s k off len cap=>match Hm ev len lo hi with
    |some (l,h)=>some (0≤l∧l≤h∧h≤(cap:Int)∧l < (cap:Int)∧sz P e=1,.x (.a (.s k (off+l.toNat) (h.toNat - l.toNat) (cap - l.toNat))),hp)
    |none=>none
   | .o k=>match hp[k]? with
    |some (.own _ c)=>match Hm ev c.len lo hi with
     |some (l,h)=>some (0≤l∧l≤h∧h≤(c.len:Int)∧sz P e=1,.x (.a (.z k l.toNat (h.toNat - l.toNat))),hp)
     |none=>none
    |some (.onn _ m c)=>match Hm ev (c.len / m) lo hi with
     |some (l,h)=>some (0≤l∧l≤h∧h≤((c.len / m:Nat):Int)∧sz P e=m,.x (.a (.y k m l.toNat (h.toNat - l.toNat))),hp)
     |none=>none
    |_=>none
   | .v (.slice A len cap)=>match Hm ev len lo hi with
    |some (l,h)=>if sz P e=1 then some (0≤l∧l≤h∧h≤(cap:Int)∧sz P e=1,.x (.a (.v (.slice (Lo A l.toNat cap) (h.toNat - l.toNat) (cap - l.toNat)))),hp)
     else some (0≤l∧l≤h∧h≤(cap:Int)∧0 < sz P e,.x (.a (.v (.slice (Ye A l.toNat cap (sz P e)) (h.toNat - l.toNat) (cap - l.toNat)))),hp)
    |none=>none
   |_=>none
  |some (.array n e)=>
   match b with
   | .p k off=>match Hm ev n lo hi with
    |some (l,h)=>some (0≤l∧l≤h∧h≤(n:Int)∧l < (n:Int)∧sz P e=1,.x (.a (.s k (off+l.toNat) (h.toNat - l.toNat) (n - l.toNat))),hp)
    |none=>none
   | .v (.pointer A)=>match Hm ev n lo hi with
    |some (l,h)=>some (0≤l∧l≤h∧h≤(n:Int)∧l < (n:Int)∧sz P e=1∧A.isSome=true,.x (.a (.v (.slice (Af A l.toNat) (h.toNat - l.toNat) (n - l.toNat)))),hp)
    |none=>none
   |_=>none
  |_=>none
 |_=>none
def Qa (P:Program) (t:TypeId) (n:Nat) (k:IntKind):Prop:=∃e,P.underlying t=some (.array n e)∧P.underlying e=some (.int k)∧sz P e=1∧P.plainKey e=true∧P.eqGuardType P.depth t=false
def Ls (P:Program):Nat→List Field→List IntKind→Bool
 |_,[],[]=>true
 |off,f::fs,k::ks=>decide (f.name≠"_")&&decide (f.offset=off)&&P.plainKey f.type&&(match P.underlying f.type with|some (.int k')=>decide (k'=k)|_=>false)&&Ls P (off+1) fs ks
 |_,_,_=>false
def Yf (P:Program) (t:TypeId) (ks:List IntKind):Prop:=P.underlying t=some (.struct (P.fieldsOf t))∧P.stoodInHeld t=false∧P.eqGuardType P.depth t=false∧Ls P 0 (P.fieldsOf t).toList ks=true
def Kd:List At→Option (List IntKind×List Int)
 |[]=>some ([],[])
 | .v (.int k n)::r=>match Kd r with|some (ks,ns)=>some (k::ks,n::ns)|none=>none
 |_=>none
def eqB:List Int→List Int→Bool
 |[],[]=>true
 |a::r,b::s=>decide (a=b)&&eqB r s
 |_,_=>false
def D7 (neg:Bool) (c:Prop) (b:Bool) (hp:List Res):R:=C1 c (.bool (if neg then !b else b)) hp
def eqS (P:Program) (t:TypeId) (neg:Bool) (hp:List Res):Sv→Sv→R
 | .x (.a8 a),.x (.a8 b)=>match P.underlying t with
  |some (.array n _)=>D7 neg (Qa P t n .u8∧a.length=n∧b.length=n) (decide (a=b)) hp
  |_=>none
 | .x (.a32 a),.x (.a32 b)=>match P.underlying t with
  |some (.array n _)=>D7 neg (Qa P t n .u32∧a.length=n∧b.length=n) (decide (a=b)) hp
  |_=>none
 | .x (.a64 a),.x (.a64 b)=>match P.underlying t with
  |some (.array n _)=>D7 neg (Qa P t n .u64∧a.length=n∧b.length=n) (decide (a=b)) hp
  |_=>none
 | .x (.g a),.x (.g b)=>match Kd a,Kd b with
  |some (ks,xs),some (ks',ys)=>D7 neg (Yf P t ks∧ks'=ks) (eqB xs ys) hp
  |_,_=>none
 | .x (.a (.v (.string a))),.x (.a (.v (.string b)))=>D7 neg True (a.toList==b.toList) hp
 | .x (.a (.v (.bool a))),.x (.a (.v (.bool b)))=>match P.underlying t with|some .bool=>D7 neg True (a==b) hp|_=>none
 | .x (.a (.v .nilIface)),.x (.a (.v (.iface _ _)))=>match P.underlying t with|some (.interface _)=>D7 neg True false hp|_=>none
 | .x (.a (.v (.iface _ _))),.x (.a (.v .nilIface))=>match P.underlying t with|some (.interface _)=>D7 neg True false hp|_=>none
 | .x (.a (.v (.slice A _ _))),.x (.a (.v (.slice none _ _)))=>match P.underlying t with|some (.slice _)=>D7 neg True A.isNone hp|_=>none
 | .x (.a (.s _ _ _ _)),.x (.a (.v (.slice none _ _)))=>match P.underlying t with|some (.slice _)=>D7 neg True false hp|_=>none
 | .x (.a (.p _ _)),.x (.a (.v (.pointer none)))=>match P.underlying t with|some (.pointer _)=>D7 neg True false hp|_=>none
 | .x (.a (.v (.pointer A))),.x (.a (.v (.pointer none)))=>match P.underlying t with|some (.pointer _)=>D7 neg True A.isNone hp|_=>none
 |_,_=>none
def Qb (x:Operand):Bool:=match x with| .const _=>true|_=>false
def Nb (P:Program) (t:TypeId) (neg:Bool) (hp:List Res) (x y:Operand):Sv→Sv→R
 | .x (.a (.v .nilIface)),.x (.a (.v .nilIface))=>
  match P.underlying t with
  |some (.interface _)=>if Qb x=true∨Qb y=true then D7 neg True true hp else none
  |_=>none
 |a,b=>eqS P t neg hp a b
def Qc (P:Program) (op:BinOp) (t:TypeId) (x y:Operand) (hp:List Res):Sv→Sv→R
 | .x (.a (.v (.int k a))),.x (.a (.v (.int k' b)))=>
  match op with
  | .shl=>Je hp (shS true k a b)
  | .shr=>Je hp (shS false k a b)
  |op=>if k=k' then Je hp (P3 op k a b) else none
 |a,b=>
  match op with
  | .eql=>Nb P t false hp x y a b
  | .neq=>Nb P t true hp x y a b
  | .add=>match a,b with
   | .x (.a (.v (.string a))),.x (.a (.v (.string b)))=>C1 (a.size+b.size≤9223372036854775807) (.string (a++b)) hp
   |_,_=>none
  |_=>none
def unS (op:UnOp) (hp:List Res):Sv→R
 | .x (.a (.v (.bool b)))=>match op with| .not=>C1 True (.bool (!b)) hp|_=>none
 | .x (.a (.v (.int .i64 n)))=>match op with| .neg=>C1 (Fy (-n)) (.int .i64 (-n)) hp|_=>none
 |_=>none
def rd8 (w0:World) (A:Option Addr) (n:Nat):List UInt8:=(List.range n).map fun j=>match A7 w0 (Af A j) with| .int .u8 x=>Es x|_=>0
def RdO (w0:World) (ow:Nat→Prop) (A:Option Addr) (vs:List Value):Prop:=RdV w0 w0.heap.size A vs∧(0 < vs.length→∀a,A=some a→¬ow a.block)
def Rd8 (w0:World) (ow:Nat→Prop) (A:Option Addr) (n:Nat):Prop:=RdO w0 ow A ((rd8 w0 A n).map vU8)
def Lt (w0:World) (A:Option Addr) (n:Nat):List UInt32:=(List.range n).map fun j=>match A7 w0 (Af A j) with| .int .u32 x=>Et x|_=>0
def Ua (w0:World) (ow:Nat→Prop) (A:Option Addr) (n:Nat):Prop:=RdO w0 ow A ((Lt w0 A n).map Ap)
def Lu (w0:World) (A:Option Addr) (n:Nat):List UInt64:=(List.range n).map fun j=>match A7 w0 (Af A j) with| .int .u64 x=>Eu x|_=>0
def Ub (w0:World) (ow:Nat→Prop) (A:Option Addr) (n:Nat):Prop:=RdO w0 ow A ((Lu w0 A n).map vU64)
def rdI (w0:World) (A:Option Addr) (n:Nat):List Int:=(List.range n).map fun j=>match A7 w0 (Af A j) with| .int .i64 x=>x|_=>0
def RdI (w0:World) (ow:Nat→Prop) (A:Option Addr) (n:Nat):Prop:=RdO w0 ow A ((rdI w0 A n).map (Value.int .i64))
def rdV (w0:World) (A:Option Addr) (n:Nat):List Value:=(List.range n).map fun j=>A7 w0 (Af A j)
def Lv (P:Program) (src dst:TypeId) (hp:List Res):Sv→Option R
 | .x (.a (.s k off len cap))=>if src=dst then
   match P.underlying src,hp[k]? with
   |some (.slice e),some (.blk e' c)=>match P.underlying e with
    |some (.int .u8)=>some (if e'=e∧off=0∧cap=len then some (len=c.len,.x (.a (.s k off len cap)),hp.set k (.lit e c)) else none)
    |_=>none
   |_,_=>none
  else none
 |_=>none
def Lw (P:Program) (src dst:TypeId) (hp:List Res):Sv→Option R
 | .x (.a (.v (.string s)))=>match P.underlying src,P.underlying dst with
  |some _,some (.slice e)=>match P.underlying e with
   |some (.int .u8)=>some (some (s.size≤maxLen,.x (.a (.o hp.length)),hp++[.str e (.u8 s.data.toList)]))
   |_=>none
  |_,_=>none
 |_=>none
def Qd (P:Program) (w0:World) (ow:Nat→Prop) (src dst:TypeId) (hp:List Res):Sv→R
 | .x (.a (.v (.int k n)))=>match P.underlying src,P.underlying dst with|some _,some (.int d)=>Je hp (P4 k d n)|_,_=>none
 | .x (.a (.v (.string s)))=>match P.underlying src,P.underlying dst with|some _,some .string=>C1 True (.string s) hp|_,_=>none
 | .x (.a (.v (.slice A n _)))=>match P.underlying src,P.underlying dst with
  |some (.slice e),some .string=>match P.underlying e with
   |some (.int .u8)=>C1 (Rd8 w0 ow A n) (.string (Hj (rd8 w0 A n))) hp
   |_=>none
  |_,_=>none
 | .x (.a (.o k))=>match P.underlying src,P.underlying dst,hp[k]? with
  |some (.slice e),some .string,some (.own _ (.u8 l))=>match P.underlying e with
   |some (.int .u8)=>C1 True (.string (Hj l)) hp
   |_=>none
  |_,_,_=>none
 |_=>none
def Qe (P:Program) (t:TypeId) (hp:List Res):Sv→R
 | .x (.a (.v (.string s)))=>match P.underlying t with|some .string=>C1 True (.int .i64 s.size) hp|_=>none
 | .x (.a (.v (.slice _ n _)))=>match P.underlying t with|some (.slice _)=>C1 True (.int .i64 n) hp|_=>none
 | .x (.a (.s _ _ n _))=>match P.underlying t with|some (.slice _)=>C1 True (.int .i64 n) hp|_=>none
 | .x (.a (.o k))=>match P.underlying t,hp[k]? with|some (.map _ _),some (.mp _ l)=>C1 True (.int .i64 l.length) hp|some (.slice _),some (.own _ c)=>C1 True (.int .i64 c.len) hp|some (.slice _),some (.str _ c)=>C1 True (.int .i64 c.len) hp|some (.slice _),some (.onn _ m c)=>C1 True (.int .i64 ((c.len / m:Nat):Int)) hp|_,_=>none
 | .x (.a (.z k _ m))=>match P.underlying t with|some (.slice _)=>C1 (Fz hp k=true) (.int .i64 m) hp|_=>none
 | .x (.a (.y k _ _ m))=>match P.underlying t with|some (.slice _)=>C1 (Fz hp k=true) (.int .i64 m) hp|_=>none
 |_=>match P.underlying t with|some (.array n _)=>C1 True (.int .i64 n) hp|_=>none
def Nc (hp:List Res) (e:TypeId):Sv→Option (Option Nat×Option Cont)
 | .x (.a (.v (.slice none n c)))=>if n=0∧c=0 then some (none,none) else none
 | .x (.a (.o k))=>match hp[k]? with
  |some (.own e' c)=>if e'=e then some (some k,some c) else none
  |_=>none
 | .x (.a (.s k off len cap))=>match hp[k]? with
  |some (.blk e' c)=>if e'=e∧off=0∧cap=len∧len=c.len then some (some k,some c) else none
  |_=>none
 |_=>none
def Lx (w0:World) (ow:Nat→Prop) (hp:List Res) (d:Option TypeDesc):Sv→Option (Prop×Cont)
 | .x (.a (.s k off len _))=>match hp[k]? with
  |some (.blk _ c)=>match c.cut off len with
   |some c'=>(match d,c' with
    |some (.int .u8),.c l=>(match Hl l with
     |some (h8,q)=>some (off+len≤c.len∧h8,.u8 q)
     |none=>some (off+len≤c.len,.c l))
    |_,c'=>some (off+len≤c.len,c'))
   |none=>none
  |_=>none
 | .x (.a (.o k))=>match hp[k]? with
  |some (.own _ c)=>some (True,c)
  |some (.str _ c)=>some (True,c)
  |_=>none
 | .x (.a (.z k l m))=>match hp[k]? with
  |some (.own _ c)=>match c.cut l m with
   |some c'=>some (l+m≤c.len,c')
   |none=>none
  |_=>none
 | .x (.a (.v (.slice A n _)))=>match d with
  |some (.int .u8)=>some (Rd8 w0 ow A n,.u8 (rd8 w0 A n))
  |some (.int .u32)=>some (Ua w0 ow A n,.u32 (Lt w0 A n))
  |some (.int .u64)=>some (Ub w0 ow A n,.u64 (Lu w0 A n))
  |some (.int .i64)=>some (RdI w0 ow A n,.i64 (rdI w0 A n))
  |some .string=>some (RdO w0 ow A (rdV w0 A n),.vs (rdV w0 A n))
  |_=>none
 |_=>none
def G6:Option Cont→Cont→Option Cont
 |none,c=>some c
 |some a,c=>a.app c
def Dy (c:Option Cont):Nat:=match c with|none=>0|some c=>c.len
def Cb (hp:List Res) (k:Option Nat):List Res:=match k with|none=>hp|some k=>hp.set k .gone
def Cont.plain (hp:List Res):Cont→Prop
 | .c l=>∀x∈l,x.one hp
 | .vs l=>∀x∈l,x.oneCell'=true
 |_=>True
def Du (P:Program) (w0:World) (ow:Nat→Prop) (t t':TypeId) (hp:List Res) (b x:Sv):R:=
 match P.underlying t with
 |some (.slice e)=>
  if t=t' then
   match Nc hp e b,Lx w0 ow hp (P.underlying e) x with
   |some (k,c),some (h,m)=>
    match G6 c m with
    |some c'=>some (h∧m.plain hp∧(Dy c+m.len)*bz P e≤140737488355328∧Dy c+m.len≤maxLen∧ZOk P e (.c [.v (zero1 (P.underlying e))])∧sz P e=1,.x (.a (.o hp.length)),Cb hp k++[.own e c'])
    |none=>none
   |_,_=>none
  else match P.underlying t',x with
  |some (.int _),.x (.a (.v (.int .i64 m)))=>
   match Nc hp e b,zeroN (P.underlying e) m.toNat with
   |some (k,c),some z=>match G6 c z with
    |some c'=>some (0≤m∧(Dy c+m.toNat)*bz P e≤140737488355328∧Dy c+m.toNat≤maxLen∧ZOk P e (.c [.v (zero1 (P.underlying e))])∧sz P e=1,.x (.a (.o hp.length)),Cb hp k++[.own e c'])
    |none=>none
   |_,_=>none
  |_,_=>none
 |_=>none
 where
 zeroN:Option TypeDesc→Nat→Option Cont
  |some (.int .u8),n=>some (.u8 (List.replicate n 0))
  |_,_=>none
 zero1:Option TypeDesc→Value
  |some (.int k)=>.int k 0
  |some .bool=>.bool false
  |some .string=>.string .empty
  |some (.pointer _)=>.pointer none
  |some (.slice _)=>.slice none 0 0
  |some (.map _ _)=>.map none
  |some (.func _ _ _)=>.nilFunc
  |some (.interface _)=>.nilIface
  |_=>undef
def Ly (P:Program) (w0:World) (ow:Nat→Prop) (t t':TypeId) (hp:List Res) (b x:Sv):Option R:=
 match b with
 | .x (.a (.o k))=>match hp[k]?,P.underlying t with
  |some (.str e' c),some (.slice e)=>if t=t'∧e'=e then
    match Lx w0 ow hp (P.underlying e) x with
    |some (h,m)=>match c.app m with
     |some c'=>some (some (h∧m.plain hp∧(c.len+m.len)*bz P e≤140737488355328∧c.len+m.len≤maxLen∧ZOk P e (.c [.v (Du.zero1 (P.underlying e))])∧sz P e=1,.x (.a (.o hp.length)),hp.set k .gone++[.str e c']))
     |none=>none
    |none=>none
   else none
  |_,_=>none
 |_=>none
def Qf:Option TypeDesc→Nat→Option Cont
 |some (.int .u8),n=>some (.u8 (List.replicate n 0))
 |some (.int .u32),n=>some (.u32 (List.replicate n 0))
 |some (.int .u64),n=>some (.u64 (List.replicate n 0))
 |some (.int .i64),n=>some (.i64 (List.replicate n 0))
 |_,_=>none
def mkS (P:Program) (t:TypeId) (hp:List Res):Sv→Sv→R
 | .x (.a (.v (.int _ l))),.x (.a (.v (.int _ c)))=>match P.underlying t with
  |some (.slice e)=>match Qf (P.underlying e) l.toNat with
   |some z=>some (0≤l∧l≤c∧(bz P e:Int)*c≤281474976710656∧c≤9223372036854775807∧ZOk P e (.c [.v (Du.zero1 (P.underlying e))])∧sz P e=1,.x (.a (.o hp.length)),hp++[.own e z])
   |none=>match G0 P e with
    |some z=>some (l=0∧0≤c∧(bz P e:Int)*c≤281474976710656∧c≤9223372036854775807∧ZOk P e z∧0 < sz P e,.x (.a (.o hp.length)),hp++[.onn e (sz P e) (.c [])])
    |none=>none
  |_=>none
 |_,_=>none
def Lz (P:Program) (t:TypeId) (hp:List Res):Sv→R
 | .x (.a (.v (.string s)))=>match P.underlying t with
  |some .string=>some (True,.x (.a (.p hp.length 0)),hp++[.it s 0])
  |_=>none
 |_=>none
def Qg (hp:List Res):Sv→R
 | .x (.a (.p k 0))=>match hp[k]? with
  |some (.it s pos)=>if pos < s.size then some (True,.t [.a (.v (.bool true)),.a (.v (.int .i64 pos)),.a (.v (.int .i32 (Utf8.decode s pos).1))],hp.set k (.it s (pos+(Utf8.decode s pos).2)))
   else some (True,.t [.a (.v (.bool false))],hp)
  |_=>none
 |_=>none
def mmS (mn:Bool) (hp:List Res):Sv→Sv→R
 | .x (.a (.v (.int .i64 a))),.x (.a (.v (.int .i64 b)))=>C1 True (.int .i64 (if mn=true then (if b < a then b else a) else (if a < b then b else a))) hp
 |_,_=>none
def ev2 (f:Sv→Sv→R):Option Sv→Option Sv→R
 |some a,some b=>f a b
 |_,_=>none
def ev1 (f:Sv→R):Option Sv→R
 |some a=>f a
 |_=>none
def Qh (hp:List Res):Sv→Sv→Sv→R
 | .x (.a (.v (.bool c))),.x (.a (.v (.bool x))),.x (.a (.v (.bool y)))=>some (True,.x (.a (.v (.bool (if c then x else y)))),hp)
 | .x (.a (.v (.bool c))),x,y=>some (True,if c then x else y,hp)
 |_,_,_=>none
def ev3 (f:Sv→Sv→Sv→R):Option Sv→Option Sv→Option Sv→R
 |some a,some b,some c=>f a b c
 |_,_,_=>none
def Av (P:Program) (t:TypeId) (f:Nat):Option (Nat×TypeId):=
 match P.underlying t with
 |some (.struct fs)=>match fs[f]? with
  |some fd=>some (fd.offset,fd.type)
  |none=>none
 |_=>none
def Qi (P:Program) (t:TypeId) (f:Nat) (hp:List Res):Sv→R
 | .x (.g l)=>match Av P t f with
  |some (o,ft)=>if Dk (P.underlying ft) then some (o < l.length,.x (.a (l.getD o (.v undef))),hp)
   else if Gg (P.underlying ft) then match (Cont.c ((l.drop o).take (sz P ft))).whole (M9 P ft) with
    |some (q,s)=>some (q∧0 < sz P ft∧o+sz P ft≤l.length,.x s,hp)
    |none=>none
   else none
  |none=>none
 |_=>none
def Qj (P:Program) (t:TypeId) (f:Nat) (hp:List Res):Sv→R
 | .x (.a (.p k off))=>match Av P t f with
  |some (o,ft)=>some (sz P ft≠0,.x (.a (.p k (off+o))),hp)
  |none=>none
 | .x (.a (.q k i))=>match hp[k]?,Av P t f with
  |some (.onn _ _ c),some (o,ft)=>some (sz P ft≠0∧i < c.len,.x (.a (.q k (i+o))),hp)
  |_,_=>none
 | .x (.a (.v (.pointer A)))=>match Av P t f with
  |some (o,ft)=>some (sz P ft≠0∧A.isSome=true,.x (.a (.v (.pointer (Af A o)))),hp)
  |none=>none
 |_=>none
def Qk (i:Nat) (hp:List Res):Sv→R
 | .t l=>match l[i]? with
  |some s=>some (True,.x s,hp)
  |none=>none
 |_=>none
def Ql (hp:List Res):Sv→R
 | .x (.a (.p k o))=>some (True,.x (.a (.p k o)),hp)
 | .x (.a (.v (.pointer A)))=>some (A.isSome=true,.x (.a (.v (.pointer A))),hp)
 |_=>none
def Qm (P:Program) (t:TypeId) (hp:List Res):Sv→R
 | .x (.a (.v x))=>match P.underlying t with
  |some (.interface _)=>none
  |some _=>C1 True (.iface t x) hp
  |none=>none
 |_=>none
def bsS (P:Program) (t:TypeId) (len:Nat) (hp:List Res):Option (List At)→R
 |some l=>match P.underlying t with
  |some (.slice e)=>match Kb hp (P.underlying e) l with
   |some (c,k)=>some (c∧sz P e=1∧k.len=len∧len≤1000∧ZOk P e (.c [.v (Du.zero1 (P.underlying e))]),.x (.a (.s hp.length 0 len len)),hp++[.blk e k])
   |none=>none
  |_=>none
 |none=>none
def L0 (ev:Operand→Option Sv) (m:Nat):Nat→List (Nat×Operand)→Option (List (List At))
 |_,[]=>some []
 |k,(i,x)::r=>
  if i=k then
   match ev x with
   |some (.x (.g l))=>if l.length=m then match L0 ev m (k+1) r with|some q=>some (l::q)|none=>none else none
   |_=>none
  else none
def bsN (P:Program) (t:TypeId) (len:Nat) (ev:Operand→Option Sv) (hp:List Res) (ps:List (Nat×Operand)):R:=
 match P.underlying t with
 |some (.slice e)=>match G0 P e,L0 ev (sz P e) 0 ps with
  |some z,some ls=>some ((0 < sz P e∧ls.length=len∧len≤1000∧len*sz P e≤16777216)∧(∀x∈ls.flatten,x.one hp)∧ZOk P e z,.x (.a (.o hp.length)),hp++[.onn e (sz P e) (.c ls.flatten)])
  |_,_=>none
 |_=>none
def bsA (P:Program) (t:TypeId) (len:Nat) (ev:Operand→Option Sv) (hp:List Res) (ps:List (Nat×Operand)):R:=match parts ev 0 ps with
 |some l=>bsS P t len hp (some l)
 |none=>bsN P t len ev hp ps
def Il (hp:List Res) (e:TypeId) (m:Nat):Sv→Option (Option Nat×Option Cont)
 | .x (.a (.v (.slice none n c)))=>if n=0∧c=0 then some (none,none) else none
 | .x (.a (.o k))=>match hp[k]? with
  |some (.onn e' m' c)=>if e'=e∧m'=m then some (some k,some c) else none
  |_=>none
 |_=>none
def L1 (P:Program) (t t':TypeId) (hp:List Res) (b x:Sv):Option R:=
 match P.underlying t,x with
 |some (.slice e),.x (.a (.o j))=>match hp[j]? with
  |some (.onn e' m d)=>if t=t'∧e'=e then match Il hp e m b,G0 P e with
    |some (k,ct),some z=>match G6 ct d with
     |some c'=>some (some (d.plain hp∧0 < d.len∧sz P e=m∧z.len=m∧ZOk P e z∧(Dy ct / m+d.len / m)*bz P e≤140737488355328∧Dy ct / m+d.len / m≤maxLen,.x (.a (.o hp.length)),Cb hp k++[.onn e m c']))
     |none=>none
    |_,_=>none
   else none
  |_=>none
 |some (.slice e),.x (.a (.y j m l n))=>match hp[j]? with
  |some (.onn e' m' d)=>if (t=t'∧e'=e)∧m'=m then match Il hp e m b,G0 P e,d.part (l*m) (n*m) with
    |some (k,ct),some z,some q=>match G6 ct q with
     |some c'=>some (some (q.plain hp∧(l+n)*m≤d.len∧sz P e=m∧z.len=m∧ZOk P e z∧(Dy ct / m+n)*bz P e≤140737488355328∧Dy ct / m+n≤maxLen,.x (.a (.o hp.length)),Cb hp k++[.onn e m c']))
     |none=>none
    |_,_,_=>none
   else none
  |_=>none
 |_,_=>none
def Qn (P:Program) (w0:World) (ow:Nat→Prop) (ev:Operand→Option Sv) (hp:List Res) (c:Call):R:=
 match c.callee with
 | .builtin .len=>match c.args.toList,c.argTypes.toList with
  |[x],[t]=>ev1 (Qe P t hp) (ev x)
  |_,_=>none
 | .builtin .append=>match c.args.toList,c.argTypes.toList with
  |[x,y],[t,t']=>ev2 (fun a b=>match L1 P t t' hp a b with|some r=>r|none=>match Ly P w0 ow t t' hp a b with|some r=>r|none=>Du P w0 ow t t' hp a b) (ev x) (ev y)
  |_,_=>none
 | .builtin .min=>match c.args.toList with
  |[x,y]=>ev2 (mmS true hp) (ev x) (ev y)
  |_=>none
 | .builtin .max=>match c.args.toList with
  |[x,y]=>ev2 (mmS false hp) (ev x) (ev y)
  |_=>none
 |_=>none
def Jg (P:Program) (t:TypeId) (ev:Operand→Option Sv) (hp:List Res):List (Nat×Operand)→List At→Option (Prop×List At)
 |[],l=>some (True,l)
 |(i,x)::r,l=>match Av P t i,ev x with
  |some (o,ft),some (.x (.a y))=>match Jg P t ev hp r (l.set o y) with
   |some (c,l')=>some ((y.one hp∧sz P ft=1∧o < l.length)∧c,l')
   |none=>none
  |some (o,ft),some (.x (.a8 q))=>match Jg P t ev hp r (l.take o++(q.map f8++l.drop (o+q.length))) with
   |some (c,l')=>some ((sz P ft=q.length∧o+q.length≤l.length)∧c,l')
   |none=>none
  |some (o,ft),some (.x (.g q))=>match Jg P t ev hp r (l.take o++(q++l.drop (o+q.length))) with
   |some (c,l')=>some ((sz P ft=q.length∧o+q.length≤l.length)∧c,l')
   |none=>none
  |_,_=>none
def Qo:Cont→Cont→Option Cont
 | .u8 a,.u8 z=>some (.u8 (a++z.drop a.length))
 | .u32 a,.u32 z=>some (.u32 (a++z.drop a.length))
 | .u64 a,.u64 z=>some (.u64 (a++z.drop a.length))
 |_,_=>none
def Qp (P:Program) (t:TypeId) (ev:Operand→Option Sv) (hp:List Res) (ps:List (Nat×Operand)):R:=
 match P.underlying t with
 |some (.array _ e)=>match ps,G0 P t with
  |[],some (.u8 l)=>some (ZOk P t (.u8 l)∧sz P e=1,.x (.a8 l),hp)
  |[],some (.u32 l)=>some (ZOk P t (.u32 l)∧sz P e=1,.x (.a32 l),hp)
  |[],some (.u64 l)=>some (ZOk P t (.u64 l)∧sz P e=1,.x (.a64 l),hp)
  |[],some (.c l)=>some (ZOk P t (.c l)∧0 < sz P e,.x (.g l),hp)
  |p::r,some z=>match parts ev 0 (p::r) with
   |some l=>match Kb hp (P.underlying e) l with
    |some (c,k)=>match k.whole none with
     |some (q,s)=>if k.len=z.len then some (q∧c∧ZOk P t z∧sz P e=1∧k.len=z.len,.x s,hp)
      else match Qo k z with
       |some k'=>match k'.whole none with
        |some (q',s')=>some (q'∧c∧ZOk P t z∧sz P e=1∧k.len≤z.len,.x s',hp)
        |none=>none
       |none=>none
     |none=>none
    |none=>none
   |none=>none
  |_,_=>none
 |some (.struct fs)=>match G0 P t with
  |some (.c l)=>match Jg P t ev hp ps l with
   |some (c,l')=>some (ZOk P t (.c l)∧(∀f∈fs.toList,sz P f.type≠0)∧c,.x (.g l'),hp)
   |none=>none
  |_=>none
 |_=>none
def Nd (ev:Operand→Option Sv):List Operand→Option (List At)
 |[]=>some []
 |x::r=>match ev x,Nd ev r with
  |some (.x (.a y)),some l=>some (y::l)
  |_,_=>none
def Qq (ev:Operand→Option Sv) (hp:List Res) (fn:Fn) (first caps:List Operand):R:=match first,Nd ev caps with
 |[],some l=>some (True,.f fn l,hp)
 |_,_=>none
def Co:List (Int×Sc)→Int→Option Sc
 |[],_=>none
 |p::r,i=>if p.1=i then some p.2 else Co r i
def C3:List (Int×Sc)→Int→Sc→List (Int×Sc)
 |[],i,x=>[(i,x)]
 |p::r,i,x=>if p.1=i then (i,x)::r else p::C3 r i x
def Uc (P:Program) (t:TypeId):Option Sc:=match Lq (P.underlying t) with
 |some x=>some (.a x)
 |none=>match G0 P t with
  |some (.c l)=>some (.g l)
  |some (.u8 l)=>some (.a8 l)
  |some (.u32 l)=>some (.a32 l)
  |some (.u64 l)=>some (.a64 l)
  |_=>none
def L2 (P:Program) (t:TypeId) (s:Sc):Prop:=∃z,(P.info? t).map (·.zero)=some (some z)∧∀γ,s.val γ=z
def Nf (ok:Bool) (o:Option Sc) (z:Sc):Sv:=match o with
 |some x=>if ok=true then .t [x,.a (.v (.bool true))] else .x x
 |none=>if ok=true then .t [z,.a (.v (.bool false))] else .x z
def Ud (w0:World):Value→List (Value×Value)
 | .map (some g)=>match w0.heap[g]? with
  |some (.map es _)=>es.toList.map fun e=>(e.key,e.val)
  |_=>[]
 |_=>[]
def Hn:List (Value×Value)→Int→Option Value
 |[],_=>none
 |(.int _ n,x)::r,i=>if n=i then some x else Hn r i
 |_::r,i=>Hn r i
def L3 (w0:World) (x:Value) (i:Int):Option Value:=Hn (Ud w0 x) i
def Yg (w0:World) (ow:Nat→Prop) (q:IntKind) (x:Value):Prop:=x=.map none∨∃g es c,x=.map (some g)∧w0.heap[g]?=some (.map es c)∧¬ow g∧∀e∈es.toList,∃n,e.key=.int q n
theorem Yh (w0:World) (i:Int):L3 w0 (.map none) i=none:=rfl
def Ng (ok:Bool) (o:Option Value) (z:Sc):Sv:=match o with
 |some x=>if ok=true then .t [.a (.v x),.a (.v (.bool true))] else .x (.a (.v x))
 |none=>if ok=true then .t [z,.a (.v (.bool false))] else .x z
def Ke (P:Program) (t:TypeId) (hp:List Res):R:=match P.underlying t with
 |some (.map k _)=>match P.underlying k with
  |some (.int q)=>some (True,.x (.a (.o hp.length)),hp++[.mp q []])
  |_=>none
 |_=>none
def Qr (P:Program) (w0:World) (ow:Nat→Prop) (t:TypeId) (ok:Bool) (hp:List Res):Sv→Sv→R
 | .x (.a (.o k)),.x (.a (.v (.int q i)))=>match hp[k]?,P.underlying t with
  |some (.mp q' l),some (.map kt et)=>match P.underlying kt,Uc P et with
   |some (.int q2),some z=>some (q'=q∧q2=q∧L2 P et z,Nf ok (Co l i) z,hp)
   |_,_=>none
  |_,_=>none
 | .x (.a (.v x)),.x (.a (.v (.int q i)))=>match P.underlying t with
  |some (.map kt et)=>match P.underlying kt,Uc P et with
   |some (.int q2),some z=>some (q2=q∧L2 P et z∧Yg w0 ow q x,Ng ok (L3 w0 x i) z,hp)
   |_,_=>none
  |_=>none
 |_,_=>none
def Nh (P:Program) (t:TypeId) (hp:List Res):Sv→Sv→Sv→R
 | .x (.a (.o k)),.x (.a (.v (.int q i))),.x s=>match hp[k]?,P.underlying t with
  |some (.mp q' l),some (.map kt _)=>match P.underlying kt with
   |some (.int q2)=>some (q'=q∧q2=q,Ci,hp.set k (.mp q' (C3 l i s)))
   |_=>none
  |_,_=>none
 |_,_,_=>none
def op1 (P:Program) (w0:World) (ow:Nat→Prop) (ev:Operand→Option Sv) (hp:List Res):Op→R
 | .move x| .assign x=>ev1 (fun v=>some (True,v,hp)) (ev x)
 | .pick c a b=>ev3 (Qh hp) (ev c) (ev a) (ev b)
 | .alloc t=>match G0 P t with
  |some c=>M8 t (ZOk P t c) c hp
  |none=>none
 | .box t x=>ev1 (fun v=>match v with| .x s=>M8 t (s.cont hp).1 (s.cont hp).2 hp|_=>none) (ev x)
 | .buildSlice t len ps=>bsA P t len ev hp ps.toList
 | .load t x=>ev1 (Na P w0 ow t hp) (ev x)
 | .store t x y=>ev2 (P6 P t hp) (ev x) (ev y)
 | .nilCheck x=>ev1 (Ql hp) (ev x)
 | .binOp op t x y _=>ev2 (Qc P op t x y hp) (ev x) (ev y)
 | .unOp op _ x=>ev1 (unS op hp) (ev x)
 | .convert src dst x=>ev1 (fun v=>match Lv P src dst hp v with|some r=>r|none=>match Lw P src dst hp v with|some r=>r|none=>Qd P w0 ow src dst hp v) (ev x)
 | .makeInterface t x=>ev1 (Qm P t hp) (ev x)
 | .slice t x lo hi none=>ev1 (P9 P t ev hp lo hi) (ev x)
 | .fieldAddr t x f=>ev1 (Qj P t f hp) (ev x)
 | .field t x f=>ev1 (Qi P t f hp) (ev x)
 | .indexAddr t x i=>ev2 (P7 P t hp) (ev x) (ev i)
 | .index t x i=>ev2 (P8 P t hp) (ev x) (ev i)
 | .extract x i=>ev1 (Qk i hp) (ev x)
 | .build t ps=>Qp P t ev hp ps.toList
 | .makeSlice t l c=>ev2 (mkS P t hp) (ev l) (ev c)
 | .range t x=>ev1 (Lz P t hp) (ev x)
 | .next x true=>ev1 (Qg hp) (ev x)
 | .makeFunc fn first caps=>Qq ev hp fn first.toList caps.toList
 | .makeMap t none=>Ke P t hp
 | .makeMap t (some x)=>match ev x with
  |some (.x (.a (.v (.int _ _))))=>Ke P t hp
  |_=>none
 | .lookup t x i ok=>ev2 (Qr P w0 ow t ok hp) (ev x) (ev i)
 | .mapUpdate t m k x=>ev3 (Nh P t hp) (ev m) (ev k) (ev x)
 | .insert t m k x=>ev3 (Nh P t hp) (ev m) (ev k) (ev x)
 | .call c=>Qn P w0 ow ev hp c
 |_=>none
end
section
def G7 (w0:World) (ow:Nat→Prop) (b:Nat):Prop:=ow b∨w0.heap.size≤b
def OwnN (w:World) (e:TypeId) (m:Nat) (v:Value) (vs:List Value):Prop:=0 < m∧∃n,w.ownsRow 0 e m v n vs
theorem OwnN.keep {w w':World} {e:TypeId} {m:Nat} {v:Value} {vs:List Value} {own:Nat→Prop} (h:OwnN w e m v vs) (hk:Keeps own w w') (hn:∀k,v.ownBlock=some k→¬own k):OwnN w' e m v vs:=by
 obtain⟨hm,n,h0,h1|⟨g,cap,cur,rfl,hb,hh,r⟩⟩:=h
 ·exact⟨hm,n,h0,.inl h1⟩
 ·refine⟨hm,n,h0,.inr ⟨g,cap,cur,rfl,hb,?_,r⟩⟩
  have hlt:g < w.heap.size:=(Array.getElem?_eq_some_iff.1 hh).1
  exact (hk.block g hlt (hn g rfl)).trans hh
theorem OwnN.rd {w:World} {e:TypeId} {m:Nat} {v:Value} {vs:List Value} (h:OwnN w e m v vs):∃A n c,v=.slice A n c∧vs.length=n*m∧n≤c∧c≤maxLen∧RdV w w.heap.size A vs∧(∀a,A=some a→a.spot=none∧a.off=0∧v.ownBlock=some a.block)∧(0 < n→∃g,A=some ⟨g,0,none⟩):=by
 obtain⟨hm,n,h'⟩:=h
 have hc:=h'
 obtain⟨h0,⟨rfl,rfl⟩|⟨g,cap,cur,rfl,hb,hh,hnc,hcap,hs,ht⟩⟩:=h'
 ·rw[Nat.zero_mul] at h0
  obtain rfl:=List.eq_nil_of_length_eq_zero h0
  exact⟨none,0,0,rfl,by simp,by simp,by simp,RdV.nil_,(fun a ha=>by cases ha),fun h=>by omega⟩
 ·have hlt:g < w.heap.size:=(Array.getElem?_eq_some_iff.1 hh).1
  refine⟨some ⟨g,0,none⟩,n,cap,rfl,h0,hnc,hcap,fun _=>⟨g,0,rfl,hlt,fun j u hu=>?_⟩,fun a ha=>by cases ha;exact⟨rfl,rfl,rfl⟩,fun _=>⟨g,rfl⟩⟩
  have:=World.ownsRow.cells hc (g:=g) rfl j u hu
  rwa [Bu] at this
def mapBlock:Value→Option Nat| .map (some g)=>some g|_=>none
def mpE (γ:List Nm) (q:IntKind) (l:List (Int×Sc)):List (Value×Value):=l.map fun p=>(.int q p.1,p.2.val γ)
def Mp (w:World) (v:Value) (l:List (Value×Value)):Prop:=∃g es,v=.map (some g)∧w.heap[g]?=some (.map es es.size)∧(∀(i:Nat) (e:MapEntry),es[i]?=some e→e.born=i)∧es.toList.map (fun e=>(e.key,e.val))=l
def Res.has (γ:List Nm) (k:Nat):Res→Nat→Prop
 | .blk _ _=>fun b=>some (nmB γ k)=some b
 | .own _ _=>fun b=>(nmS γ k).ownBlock=some b
 | .lit _ _=>fun b=>some (nmB γ k)=some b
 | .str _ _=>fun b=>(nmS γ k).ownBlock=some b
 | .it _ _=>fun b=>some (nmB γ k)=some b
 | .pin _ _ _=>fun b=>some (nmB γ k)=some b
 | .onn _ _ _=>fun b=>(nmS γ k).ownBlock=some b
 | .abs _=>nmM γ k
 | .mp _ _=>fun b=>mapBlock (nmS γ k)=some b
 | .gone=>fun _=>False
def Res.holds (γ:List Nm) (k:Nat) (w:World):Res→Prop
 | .blk t c=>γ[k]?=some (.b (nmB γ k))∧Blk w (nmB γ k) t (c.vals γ).toArray
 | .own e c=>γ[k]?=some (.s (nmS γ k))∧Own w 0 e (nmS γ k) (c.vals γ)
 | .lit e c=>γ[k]?=some (.b (nmB γ k))∧∃m,w.heap[nmB γ k]?=some (.cells (c.vals γ).toArray e m)
 | .str e c=>γ[k]?=some (.s (nmS γ k))∧OwnM w e (nmS γ k) (c.vals γ)
 | .it s pos=>γ[k]?=some (.b (nmB γ k))∧w.heap[nmB γ k]?=some (.stringIter s pos)
 | .pin g t c=>γ[k]?=some (.b (nmB γ k))∧nmB γ k=g∧Blk w (nmB γ k) t (c.vals γ).toArray
 | .onn e m c=>γ[k]?=some (.s (nmS γ k))∧OwnN w e m (nmS γ k) (c.vals γ)
 | .abs R=>γ[k]?=some (.m (nmS γ k) (nmM γ k))∧(∀b,nmM γ k b→b < w.heap.size)∧R.H (nmS γ k) (nmM γ k) w
 | .mp q l=>γ[k]?=some (.s (nmS γ k))∧Mp w (nmS γ k) (mpE γ q l)
 | .gone=>True
structure Sat (w0:World) (ow:Nat→Prop) (γ:List Nm) (hp:List Res) (w:World):Prop where
 keeps:Keeps ow w0 w
 len:γ.length=hp.length
 holds:∀(k:Nat) (r:Res),hp[k]?=some r→r.holds γ k w
 mine:∀(k:Nat) (r:Res) (b:Nat),hp[k]?=some r→r.has γ k b→G7 w0 ow b∧b < w.heap.size
 apart:∀(j k:Nat) (r r':Res) (b:Nat),hp[j]?=some r→hp[k]?=some r'→j≠k→r.has γ j b→¬r'.has γ k b
structure FitsAt (w0:World) (ow:Nat→Prop) (n:Nat) (γ:List Nm) (s:S) (a:Act) (w:World):Prop where
 sat:Sat w0 ow γ s.hp w
 defers:a.defers=[]
 size:a.tmps.size=n
 at_:∀t sv,Fr.get s.fr t=some sv→a.tmps.getD t undef=sv.val γ
def Fits (w0:World) (ow:Nat→Prop) (n:Nat) (s:S) (a:Act) (w:World):Prop:=∃γ,FitsAt w0 ow n γ s a w
def den (w0:World) (ow:Nat→Prop) (n:Nat) (K:Exit→S→Prop):Exit→Act→World→Prop:=fun e a w=>∃s,Fits w0 ow n s a w∧K e s
def dOk (n:Nat) (d:Option Tmp):Prop:=match d with|some d=>d < n|none=>True
def Cf (P:Program) (w0:World) (ow:Nat→Prop) (n:Nat) (o:Oper) (s:S):Option (Prop×S):=
 match op1 P w0 ow (Fr.ev s.fr) s.hp o.op with
 |some (c,v,hp)=>some ((c∧dOk n o.dst)∧(s.hp.length < hp.length→s.bnd),S.put ⟨s.fr,hp⟩ o.dst v)
 |none=>none
def Ho:Op→Bool
 | .call {callee:=.builtin _,..}=>false
 | .call _=>true
 |_=>false
section
variable (P:Program) (w0:World) (ow:Nat→Prop) (n:Nat)
def Ah (ops:List Oper) (o:Oper) (rest:List Oper) (s:S) (K:S→Prop):Prop:=
 ∀a w,Fits w0 ow n s a w→Region.wanted o (yielded ops.toArray a.tmps)=true→wpList P ops.toArray (fun e a' w'=>e=.normal∧∃s',Fits w0 ow n s' a' w'∧K s') (o::rest) a w
def Aj (c:Code) (s:S) (K:Exit→S→Prop):Prop:=∀a w,Fits w0 ow n s a w→(Code.loop c).wp P (den w0 ow n K) a w
def Ao (id:Nat) (ops:List Oper) (s:S) (K:Exit→S→Prop):Prop:=∀a w,Fits w0 ow n s a w→(Code.region id ops.toArray true).wp P (den w0 ow n K) a w
def Ff (ops:List Oper) (fr:Fr) (j:Nat) (b:Bool):Option Bool:=
 match ops[j]? with
 |some o=>match o.dst with
  |some d=>match Fr.get fr d with
   |some (.x (.a (.v (.bool c))))=>some c
   |some (.x (.a (.v (.tuple _))))=>some (!b)
   |_=>none
  |none=>none
 |none=>none
def Ai (ops:List Oper):List Oper→S→(S→Prop)→Prop
 |[],s,K=>K s
 |o::rest,s,K=>
  if Ho o.op=true then (match o.guard with
   |none=>Ah P w0 ow n ops o rest s K
   |some (j,b)=>match Ff ops s.fr j b with
    |some c=>if c=b then Ah P w0 ow n ops o rest s K else dOk n o.dst∧Ai ops rest (s.put o.dst Ci) K
    |none=>False)
  else match o.guard with
  |none=>match Cf P w0 ow n o s with
   |some (c,s')=>c∧Ai ops rest s' K
   |none=>Ah P w0 ow n ops o rest s K
  |some (j,b)=>match Ff ops s.fr j b with
   |some c=>if c=b then (match Cf P w0 ow n o s with|some (c,s')=>c∧Ai ops rest s' K|none=>Ah P w0 ow n ops o rest s K) else dOk n o.dst∧Ai ops rest (s.put o.dst Ci) K
   |none=>False
def Ni (f:S→(Exit→S→Prop)→Prop) (K:Exit→S→Prop):Exit→S→Prop
 | .normal,s=>f s K
 |e,s=>K e s
def InB (id:Nat) (K:Exit→S→Prop):Exit→S→Prop
 | .exit i,s=>if i=id then K .normal s else K (.exit i) s
 |e,s=>K e s
def Cc:Code→S→(Exit→S→Prop)→Prop
 | .skip,s,K=>K .normal s
 | .region id ops draw,s,K=>if draw=true then Ao P w0 ow n id ops.toList s K else Ai P w0 ow n ops.toList ops.toList s (K .normal)
 | .seq a b,s,K=>Cc a s (Ni (Cc b) K)
 | .cond c x y,s,K=>match Fr.ev s.fr c with
  |some (.x (.a (.v (.bool b))))=>if b=true then Cc x s K else Cc y s K
  |_=>False
 | .block id c,s,K=>Cc c s (InB id K)
 | .loop c,s,K=>Aj P w0 ow n c s K
 | .exit id,s,K=>K (.exit id) s
 | .ret,s,K=>K .ret s
 |_,_,_=>False
end
section
variable {P:Program} {w0:World} {ow:Nat→Prop} {n:Nat} {s:S} {K:Exit→S→Prop} {K1:S→Prop} {ops rest:List Oper} {o:Oper}
theorem Ahh:Cc P w0 ow n .skip s K=K .normal s:=Eq.trans rfl rfl
theorem Ahi {id:Nat} {l:List Oper}:Cc P w0 ow n (.region id l.toArray false) s K=Ai P w0 ow n l l s (K .normal):=Eq.trans rfl rfl
theorem Ahj {id:Nat} {l:List Oper}:Cc P w0 ow n (.region id l.toArray true) s K=Ao P w0 ow n id l s K:=Eq.trans rfl rfl
theorem Ahk {a b:Code}:Cc P w0 ow n (.seq a b) s K=Cc P w0 ow n a s (Ni (Cc P w0 ow n b) K):=Eq.trans rfl rfl
theorem Ahl {id:Nat} {c:Code}:Cc P w0 ow n (.block id c) s K=Cc P w0 ow n c s (InB id K):=Eq.trans rfl rfl
theorem Ahm {c:Code}:Cc P w0 ow n (.loop c) s K=Aj P w0 ow n c s K:=Eq.trans rfl rfl
theorem Ahn {id:Nat}:Cc P w0 ow n (.exit id) s K=K (.exit id) s:=Eq.trans rfl rfl
theorem Aho:Cc P w0 ow n .ret s K=K .ret s:=Eq.trans rfl rfl
theorem Ahp {c:Operand} {x y:Code}:Cc P w0 ow n (.cond c x y) s K=(match Fr.ev s.fr c with|some (.x (.a (.v (.bool b))))=>if b=true then Cc P w0 ow n x s K else Cc P w0 ow n y s K|_=>False):=Eq.trans rfl rfl
theorem Ahq {f:S→(Exit→S→Prop)→Prop}:Ni f K .normal s=f s K:=Eq.trans rfl rfl
theorem Ahr {f:S→(Exit→S→Prop)→Prop} {i:Nat}:Ni f K (.exit i) s=K (.exit i) s:=Eq.trans rfl rfl
theorem Ahs {f:S→(Exit→S→Prop)→Prop}:Ni f K .ret s=K .ret s:=Eq.trans rfl rfl
theorem Aht {i:Nat}:InB i K .normal s=K .normal s:=Eq.trans rfl rfl
theorem Ahu {i:Nat}:InB i K .ret s=K .ret s:=Eq.trans rfl rfl
theorem Ahv {i j:Nat}:InB i K (.exit j) s=if j=i then K .normal s else K (.exit j) s:=Eq.trans rfl rfl
theorem Ahw:Ai P w0 ow n ops [] s K1=K1 s:=Eq.trans rfl rfl
theorem Ahx:Ai P w0 ow n ops (o::rest) s K1=(if Ho o.op=true then (match o.guard with
   |none=>Ah P w0 ow n ops o rest s K1
   |some (j,b)=>match Ff ops s.fr j b with
    |some c=>if c=b then Ah P w0 ow n ops o rest s K1 else dOk n o.dst∧Ai P w0 ow n ops rest (s.put o.dst Ci) K1
    |none=>False)
  else match o.guard with
  |none=>match Cf P w0 ow n o s with
   |some (c,s')=>c∧Ai P w0 ow n ops rest s' K1
   |none=>Ah P w0 ow n ops o rest s K1
  |some (j,b)=>match Ff ops s.fr j b with
   |some c=>if c=b then (match Cf P w0 ow n o s with|some (c,s')=>c∧Ai P w0 ow n ops rest s' K1|none=>Ah P w0 ow n ops o rest s K1) else dOk n o.dst∧Ai P w0 ow n ops rest (s.put o.dst Ci) K1
   |none=>False):=Eq.trans rfl rfl
end
end
section
section
variable {γ δ:List Nm} {k n:Nat}
theorem getElem?_ext (h:k < γ.length):(γ++δ)[k]?=γ[k]?:=List.getElem?_append_left h
theorem Dv (h:k < γ.length):nmB (γ++δ) k=nmB γ k:=by unfold nmB;rw[getElem?_ext h]
theorem Ue (h:k < γ.length):nmM (γ++δ) k=nmM γ k:=by unfold nmM;rw[getElem?_ext h]
theorem Df (h:k < γ.length):nmS (γ++δ) k=nmS γ k:=by unfold nmS;rw[getElem?_ext h]
theorem At.ext {x:At} (h:x.bnd γ.length):x.val (γ++δ)=x.val γ:=by
 cases x<;>simp only[At.bnd] at h<;>simp only[At.val]
 ·rw[Dv h]
 ·rw[Dv h]
 ·rw[Df h]
 ·rw[Df h]
 ·rw[Df h]
 ·rw[Df h]
theorem Uf {l:List At} (h:∀x∈l,x.bnd γ.length):l.map (At.val (γ++δ))=l.map (At.val γ):=List.map_congr_left fun x hx=>At.ext (h x hx)
theorem Sc.ext {x:Sc} (h:x.bnd γ.length):x.val (γ++δ)=x.val γ:=by
 cases x<;>simp only[Sc.bnd] at h<;>simp only[Sc.val]
 ·exact At.ext h
 ·rw[Uf h]
theorem Sv.ext {x:Sv} (h:x.bnd γ.length):x.val (γ++δ)=x.val γ:=by
 cases x<;>simp only[Sv.bnd] at h<;>simp only[Sv.val]
 ·exact Sc.ext h
 ·rename_i l
  rw[show l.map (Sc.val (γ++δ))=l.map (Sc.val γ) from List.map_congr_left fun x hx=>Sc.ext (h x hx)]
 ·rw[Uf h]
theorem Cont.ext {c:Cont} (h:c.bnd γ.length):c.vals (γ++δ)=c.vals γ:=by
 cases c<;>simp only[Cont.bnd] at h<;>simp only[Cont.vals]
 exact Uf h
theorem Yi {q:IntKind} {l:List (Int×Sc)} (h:∀p∈l,Sc.bnd γ.length p.2):mpE (γ++δ) q l=mpE γ q l:=List.map_congr_left fun p hp=>by rw[Sc.ext (h p hp)]
theorem Cont.len_vals (c:Cont):(c.vals γ).length=c.len:=by cases c<;>simp [Cont.vals,Cont.len]
theorem D8 {α:Type} [Inhabited α] (f:α→Value) (l:List α) (i:Nat) (h:i < l.length):(l.map f)[i]?=some (f (ix l i)):=by
 simp [ix,List.getD_eq_getElem?_getD,List.getElem?_eq_getElem h]
theorem Cont.get_val {c:Cont} {i:Nat} (h:i < c.len):(c.vals γ)[i]?=some ((c.get i).val γ):=by
 cases c<;>simp only[Cont.len] at h<;>simp only[Cont.vals,Cont.get]
 ·rename_i l
  rw[List.getElem?_map,List.getElem?_eq_getElem h,List.getD_eq_getElem?_getD,List.getElem?_eq_getElem h]
  rfl
 ·exact D8 _ _ _ h
 ·exact D8 _ _ _ h
 ·exact D8 _ _ _ h
 ·exact D8 _ _ _ h
 ·rename_i l
  simp [ix,List.getD_eq_getElem?_getD,List.getElem?_eq_getElem h,At.val]
theorem Kf {n:Int} (h:Ds n):n8 (Es n)=n:=by
 unfold Ds at h
 unfold n8 Es
 rw[UInt8.toNat_ofNat']
 omega
theorem Kg {n:Int} (h:Dt n):n32 (Et n)=n:=by
 unfold Dt at h
 unfold n32 Et
 rw[UInt32.toNat_ofNat']
 omega
theorem Kh {n:Int} (h:D6 n):n64 (Eu n)=n:=by
 unfold D6 at h
 unfold n64 Eu
 rw[UInt64.toNat_ofNat']
 omega
theorem Cont.set_val {c c':Cont} {i:Nat} {x:At} {h:Prop} (hs:c.set i x=some (h,c')) (hh:h):c'.vals γ=(c.vals γ).set i (x.val γ)∧c'.len=c.len:=by
 unfold Cont.set at hs
 split at hs<;>first|(simp at hs;done)|(simp only[Option.some.injEq,Prod.mk.injEq] at hs;obtain⟨rfl,rfl⟩:=hs)
 ·exact⟨by simp [Cont.vals,List.map_set],by simp [Cont.len]⟩
 ·exact⟨by simp only[Cont.vals,List.map_set,At.val,vU8,Kf hh],by simp [Cont.len]⟩
 ·exact⟨by simp only[Cont.vals,List.map_set,At.val,Ap,Kg hh],by simp [Cont.len]⟩
 ·exact⟨by simp only[Cont.vals,List.map_set,At.val,vU64,Kh hh],by simp [Cont.len]⟩
 ·exact⟨by simp only[Cont.vals,List.map_set,At.val],by simp [Cont.len]⟩
 ·exact⟨by simp only[Cont.vals,At.val],by simp [Cont.len]⟩
end
section
variable {w0 w w':World} {ow X:Nat→Prop} {γ:List Nm} {hp:List Res} {k:Nat} {r:Res} {nm:Nm}
theorem Res.holds_keep {Y:Nat→Prop} (h:r.holds γ k w) (hk:Keeps Y w w') (hn:∀b,r.has γ k b→¬Y b):r.holds γ k w':=by
 cases r with
 |gone=>trivial
 |blk t c=>
  obtain⟨h1,h2⟩:=h
  exact⟨h1,hk.blk h2 (hn _ rfl)⟩
 |own e c=>
  obtain⟨h1,h2⟩:=h
  exact⟨h1,h2.keep hk fun b hb=>hn b hb⟩
 |lit e c=>
  obtain⟨h1,m,h2⟩:=h
  refine⟨h1,m,(hk.block _ ?_ (hn _ rfl)).trans h2⟩
  rcases Nat.lt_or_ge (nmB γ k) w.heap.size with h|h
  ·exact h
  ·rw[Array.getElem?_eq_none h] at h2;cases h2
 |str e c=>
  obtain⟨h1,h2⟩:=h
  exact⟨h1,h2.keep hk fun b hb=>hn b hb⟩
 |it s pos=>
  obtain⟨h1,h2⟩:=h
  exact⟨h1,(hk.block _ (J8 h2) (hn _ rfl)).trans h2⟩
 |pin g t c=>
  obtain⟨h1,h2,h3⟩:=h
  exact⟨h1,h2,hk.blk h3 (hn _ rfl)⟩
 |onn e m c=>
  obtain⟨h1,h2⟩:=h
  exact⟨h1,h2.keep hk fun b hb=>hn b hb⟩
 |abs R=>
  obtain⟨h1,h2,h3⟩:=h
  have hs:=hk.size
  exact⟨h1,fun b hb=>by have:=h2 b hb;omega,R.keep h3 h2 hk hn⟩
 |mp q l=>
  obtain⟨h1,g,es,h2,h3,h4⟩:=h
  refine⟨h1,g,es,h2,(hk.block _ (J8 h3) (hn _ ?_)).trans h3,h4⟩
  show mapBlock (nmS γ k)=some g
  rw[h2];rfl
theorem Res.holds_ext {δ:List Nm} (hk:k < γ.length) (hb:r.bnd γ.length) (h:r.holds γ k w):r.holds (γ++δ) k w:=by
 cases r with
 |gone=>trivial
 |blk t c=>simp only[Res.holds,Dv hk,getElem?_ext hk];rw[Cont.ext hb];exact h
 |own e c=>simp only[Res.holds,Df hk,getElem?_ext hk];rw[Cont.ext hb];exact h
 |lit e c=>simp only[Res.holds,Dv hk,getElem?_ext hk];rw[Cont.ext hb];exact h
 |str e c=>simp only[Res.holds,Df hk,getElem?_ext hk];rw[Cont.ext hb];exact h
 |it s pos=>simp only[Res.holds,Dv hk,getElem?_ext hk];exact h
 |pin g t c=>simp only[Res.holds,Dv hk,getElem?_ext hk];rw[Cont.ext hb];exact h
 |onn e m c=>simp only[Res.holds,Df hk,getElem?_ext hk];rw[Cont.ext hb];exact h
 |abs R=>simp only[Res.holds,Df hk,Ue hk,getElem?_ext hk];exact h
 |mp q l=>simp only[Res.holds,Df hk,getElem?_ext hk];rw[Yi hb];exact h
theorem Res.has_ext {δ:List Nm} (hk:k < γ.length):r.has (γ++δ) k=r.has γ k:=by
 cases r<;>simp only[Res.has]
 ·rw[Dv hk]
 ·rw[Df hk]
 ·rw[Dv hk]
 ·rw[Df hk]
 ·rw[Dv hk]
 ·rw[Dv hk]
 ·rw[Df hk]
 ·rw[Ue hk]
 ·rw[Df hk]
theorem Ax {α:Type} {l:List α} {k:Nat} {x:α} (h:l[k]?=some x):k < l.length:=by
 rcases Nat.lt_or_ge k l.length with h1|h1
 ·exact h1
 ·rw[List.getElem?_eq_none h1] at h;cases h
theorem Sat.init (w0:World) (ow:Nat→Prop):Sat w0 ow [] [] w0:=⟨Keeps.refl _ _,rfl,by simp,by simp,by simp⟩
theorem Sat.keep (h:Sat w0 ow γ hp w) (hk:Keeps X w w') (hX:∀b,X b→G7 w0 ow b∧∀(k:Nat) (r:Res),hp[k]?=some r→¬r.has γ k b):Sat w0 ow γ hp w':=by
 refine⟨?_,h.len,?_,?_,h.apart⟩
 ·have hs:=h.keeps.size
  refine⟨hk.os.trans h.keeps.os,hk.tape.trans h.keeps.tape,hk.output.trans h.keeps.output,Nat.le_trans hs hk.size,fun i hi ho=>?_⟩
  refine (hk.block i (by omega) fun hx=>?_).trans (h.keeps.block i hi ho)
  rcases (hX i hx).1 with h1|h1
  ·exact ho h1
  ·omega
 ·exact fun k r hr=>Res.holds_keep (h.holds k r hr) hk fun b hb hx=>(hX b hx).2 k r hr hb
 ·intro k r b hr hb
  have h1:=h.mine k r b hr hb
  have:=hk.size
  exact⟨h1.1,by omega⟩
theorem Sat.later (h:Sat w0 ow γ hp w) (hb:Below w.heap.size w w'):Sat w0 ow γ hp w':=
 h.keep (X:=fun _=>False) ⟨hb.os,hb.tape,hb.output,hb.size,fun k hk _=>hb.block k hk⟩ (fun _ h=>h.elim)
theorem Sat.drawn (h:Sat w0 ow γ hp w) (hd:Drawn w w'):Sat w0 ow γ hp w':=by
 obtain⟨n,rfl⟩:=hd
 exact h.later ⟨rfl,rfl,rfl,Nat.le_refl _,fun _ _=>rfl⟩
theorem Sat.update (h:Sat w0 ow γ hp w) {r':Res} {b:Nat} (hr:hp[k]?=some r) (hb:r.has γ k b) (hk:Keeps (·=b) w w') (hr':r'.holds γ k w') (hb':r'.has γ k=r.has γ k∨r'=.gone):Sat w0 ow γ (hp.set k r') w':=by
 have hm:=h.mine k r b hr hb
 have hkl:=Ax hr
 refine⟨?_,by simp [h.len],?_,?_,?_⟩
 ·have hs:=h.keeps.size
  refine⟨hk.os.trans h.keeps.os,hk.tape.trans h.keeps.tape,hk.output.trans h.keeps.output,Nat.le_trans hs hk.size,fun i hi ho=>?_⟩
  refine (hk.block i (by omega) fun hx=>?_).trans (h.keeps.block i hi ho)
  subst hx
  rcases hm.1 with h1|h1
  ·exact ho h1
  ·omega
 ·intro j q hq
  by_cases hj:j=k
  ·subst hj
   rw[List.getElem?_set_self hkl] at hq
   cases hq
   exact hr'
  ·rw[List.getElem?_set_ne (fun e=>hj e.symm)] at hq
   exact Res.holds_keep (h.holds j q hq) hk fun c hc e=>by subst e;exact h.apart j k q r c hq hr hj hc hb
 ·intro j q c hq hc
  have:=hk.size
  by_cases hj:j=k
  ·subst hj
   rw[List.getElem?_set_self hkl] at hq
   cases hq
   rcases hb' with h1|rfl
   ·rw[h1] at hc;have hm2:=h.mine _ r c hr hc;exact⟨hm2.1,by omega⟩
   ·cases hc
  ·rw[List.getElem?_set_ne (fun e=>hj e.symm)] at hq
   have:=h.mine j q c hq hc
   exact⟨this.1,by omega⟩
 ·intro i j q q' c hq hq' hij hc
  have hgo:∀(m:Nat) (p:Res) (d:Nat),(hp.set k r')[m]?=some p→p.has γ m d→∃p0,hp[m]?=some p0∧p0.has γ m d:=by
   intro m p d hp1 hd
   by_cases hm:m=k
   ·subst hm
    rw[List.getElem?_set_self hkl] at hp1
    cases hp1
    rcases hb' with h1|rfl
    ·exact⟨r,hr,by rw[←h1];exact hd⟩
    ·cases hd
   ·rw[List.getElem?_set_ne (fun e=>hm e.symm)] at hp1
    exact⟨p,hp1,hd⟩
  obtain⟨p0,e1,e2⟩:=hgo i q c hq hc
  intro hcon
  obtain⟨p1,e3,e4⟩:=hgo j q' c hq' hcon
  exact h.apart i j p0 p1 c e1 e3 hij e2 e4
theorem Sat.drop (h:Sat w0 ow γ hp w) (k:Nat):Sat w0 ow γ (hp.set k .gone) w:=by
 have hgo:∀(m:Nat) (p:Res) (d:Nat),(hp.set k .gone)[m]?=some p→p.has γ m d→hp[m]?=some p∧m≠k:=by
  intro m p d hp1 hd
  by_cases hm:m=k
  ·subst hm
   have hl:=Ax hp1
   rw[List.length_set] at hl
   rw[List.getElem?_set_self hl] at hp1
   cases hp1
   cases hd
  ·rw[List.getElem?_set_ne (fun e=>hm e.symm)] at hp1
   exact⟨hp1,hm⟩
 refine⟨h.keeps,by simp [h.len],?_,?_,?_⟩
 ·intro j q hq
  by_cases hj:j=k
  ·subst hj
   have hl:=Ax hq
   rw[List.length_set] at hl
   rw[List.getElem?_set_self hl] at hq
   cases hq
   trivial
  ·rw[List.getElem?_set_ne (fun e=>hj e.symm)] at hq
   exact h.holds j q hq
 ·exact fun j q c hq hc=>h.mine j q c (hgo j q c hq hc).1 hc
 ·exact fun i j q q' c hq hq' hij hc hcon=>h.apart i j q q' c (hgo i q c hq hc).1 (hgo j q' c hq' hcon).1 hij hc hcon
theorem Sat.push (h:Sat w0 ow γ hp w) (hk:Keeps X w w') (hX:∀b,X b→G7 w0 ow b∧∀(k:Nat) (r:Res),hp[k]?=some r→¬r.has γ k b)
  (hb:∀r∈hp,Res.bnd hp.length r) (hr:r.holds (γ++[nm]) hp.length w') (hbl:∀b,r.has (γ++[nm]) hp.length b→(X b∨w.heap.size≤b)∧b < w'.heap.size):Sat w0 ow (γ++[nm]) (hp++[r]) w':=by
 have h':=h.keep hk hX
 have hl:=h.len
 have at_:∀(k:Nat) (q:Res),(hp++[r])[k]?=some q→(k < hp.length∧hp[k]?=some q)∨(k=hp.length∧q=r):=by
  intro k q hq
  rw[List.getElem?_append] at hq
  split at hq
  ·exact .inl ⟨by assumption,hq⟩
  ·have hlt:=Ax hq
   simp at hlt
   have:k=hp.length:=by omega
   subst this
   simp at hq
   exact .inr ⟨rfl,hq.symm⟩
 have far:∀b,r.has (γ++[nm]) hp.length b→∀(k:Nat) (q:Res),hp[k]?=some q→¬q.has γ k b:=by
  intro b hb2 k q hq hcon
  rcases (hbl b hb2).1 with h1|h1
  ·exact (hX b h1).2 k q hq hcon
  ·have:=(h.mine k q b hq hcon).2;omega
 refine⟨h'.keeps,by simp [hl],?_,?_,?_⟩
 ·intro k q hq
  rcases at_ k q hq with ⟨h1,h2⟩|⟨rfl,rfl⟩
  ·exact Res.holds_ext (by omega) (by rw[hl];exact hb q (List.mem_of_getElem? h2)) (h'.holds k q h2)
  ·exact hr
 ·intro k q b hq hb2
  rcases at_ k q hq with ⟨h1,h2⟩|⟨rfl,rfl⟩
  ·rw[Res.has_ext (by omega)] at hb2
   exact h'.mine k q b h2 hb2
  ·obtain⟨h1,h2⟩:=hbl b hb2
   refine⟨?_,h2⟩
   rcases h1 with h1|h1
   ·exact (hX b h1).1
   ·have:=h.keeps.size;exact .inr (by omega)
 ·intro i j q q' b hq hq' hij hb2
  rcases at_ i q hq with ⟨h1,h2⟩|⟨rfl,rfl⟩
  ·rw[Res.has_ext (by omega)] at hb2
   rcases at_ j q' hq' with ⟨h3,h4⟩|⟨rfl,rfl⟩
   ·rw[Res.has_ext (by omega)]
    exact h.apart i j q q' b h2 h4 hij hb2
   ·exact fun hcon=>far b hcon i q h2 hb2
  ·rcases at_ j q' hq' with ⟨h3,h4⟩|⟨rfl,rfl⟩
   ·rw[Res.has_ext (by omega)]
    exact far b hb2 j q' h4
   ·exact absurd rfl hij
end
section
variable {w0 w:World} {ow:Nat→Prop} {γ:List Nm} {hp:List Res} {k:Nat}
theorem Sat.blk {t:TypeId} {c:Cont} (h:Sat w0 ow γ hp w) (hr:hp[k]?=some (.blk t c)):γ[k]?=some (.b (nmB γ k))∧Blk w (nmB γ k) t (c.vals γ).toArray:=h.holds k _ hr
theorem Sat.own {e:TypeId} {c:Cont} (h:Sat w0 ow γ hp w) (hr:hp[k]?=some (.own e c)):γ[k]?=some (.s (nmS γ k))∧Own w 0 e (nmS γ k) (c.vals γ):=h.holds k _ hr
theorem Sat.cell {t:TypeId} {c:Cont} (h:Sat w0 ow γ hp w) (hr:hp[k]?=some (.blk t c)) {i:Nat} (hi:i < c.len):w.cell? ⟨nmB γ k,i,none⟩=some ((c.get i).val γ):=by
 rw[(h.blk hr).2.cell i,List.getElem?_toArray,Cont.get_val hi]
theorem Sat.bv {t:TypeId} {c:Cont} (h:Sat w0 ow γ hp w) (hr:Ch hp[k]?=some (t,c)):γ[k]?=some (.b (nmB γ k))∧Blk w (nmB γ k) t (c.vals γ).toArray∧∃r,hp[k]?=some r∧r.has γ k=(fun b=>some (nmB γ k)=some b)∧
  (∀c':Cont,(De hp[k]? t c').has γ k=r.has γ k)∧∀(w':World) (c':Cont),Blk w' (nmB γ k) t (c'.vals γ).toArray→(De hp[k]? t c').holds γ k w':=by
 cases hq:hp[k]? with
 |none=>rw[hq] at hr;cases hr
 |some r=>
  have hh:=h.holds k r hq
  rw[hq] at hr
  cases r with
  |blk t' c'=>
   simp only[Ch,Option.some.injEq,Prod.mk.injEq] at hr
   obtain⟨rfl,rfl⟩:=hr
   obtain⟨h1,h2⟩:=hh
   exact⟨h1,h2,_,rfl,rfl,fun _=>rfl,fun _ _ hb=>⟨h1,hb⟩⟩
  |pin g t' c'=>
   simp only[Ch,Option.some.injEq,Prod.mk.injEq] at hr
   obtain⟨rfl,rfl⟩:=hr
   obtain⟨h1,h2,h3⟩:=hh
   exact⟨h1,h3,_,rfl,rfl,fun _=>rfl,fun _ _ hb=>⟨h1,h2,hb⟩⟩
  |own e c'=>cases hr
  |lit e c'=>cases hr
  |str e c'=>cases hr
  |it s pos=>cases hr
  |onn e m c'=>cases hr
  |abs R=>cases hr
  |mp q l=>cases hr
  |gone=>cases hr
theorem Sat.cellv {t:TypeId} {c:Cont} (h:Sat w0 ow γ hp w) (hr:Ch hp[k]?=some (t,c)) {i:Nat} (hi:i < c.len):w.cell? ⟨nmB γ k,i,none⟩=some ((c.get i).val γ):=by
 rw[(h.bv hr).2.1.cell i,List.getElem?_toArray,Cont.get_val hi]
theorem Own.shape {e:TypeId} {v:Value} {vs:List Value} (h:Own w 0 e v vs) (hn:0 < vs.length):∃g cap,v=.slice (some ⟨g,0,none⟩) vs.length cap:=by
 rcases h.2 with ⟨_,h0⟩|⟨g,cap,_,rfl,_⟩
 ·omega
 ·exact⟨g,cap,rfl⟩
theorem Sat.raw (h:Sat w0 ow γ hp w) {A:Option Addr} (hA:Cu w0 ow A):∃a,A=some a∧w.cell? a=some (A7 w0 A):=by
 obtain⟨a,v,rfl,hlt,ho,hc⟩:=hA
 refine⟨a,rfl,?_⟩
 rw[World.cell?_of_block (h.keeps.block a.block hlt ho),hc]
 simp [A7,hc]
theorem Sat.rdv (h:Sat w0 ow γ hp w) {A:Option Addr} {vs:List Value} (hR:RdO w0 ow A vs):RdV w w0.heap.size A vs:=by
 intro hp'
 obtain⟨b,off,hA,hb,hc⟩:=hR.1 hp'
 refine⟨b,off,hA,hb,fun j u hu=>?_⟩
 rw[World.cell?_of_block (h.keeps.block b hb (hR.2 hp' _ hA))]
 exact hc j u hu
end
end
section
section
variable {P:Program} {w0 w:World} {ow:Nat→Prop} {γ:List Nm} {hp hp':List Res} {c:Prop} {v:Sv}
theorem Yj {t:TypeId} (h:Dk (P.underlying t)=true) (w:World):(isAgg t).run P w=.ok false w:=by
 cases hu:P.underlying t with
 |none=>rw[hu] at h;simp [Dk] at h
 |some d=>
  unfold isAgg
  rw[Sem.run_bind,run_underlying hu w]
  rw[hu] at h
  cases d<;>simp_all [Dk]
theorem Ev {t:TypeId} {n:Nat} (h:sz P t=n) (hn:n≠0):∃i,P.info? t=some i∧i.size=n:=by
 unfold sz at h
 cases hi:P.info? t with
 |none=>simp [hi] at h;omega
 |some i=>exact⟨i,rfl,by simpa [hi] using h⟩
theorem Dg {t:TypeId} {n:Nat} (h:sz P t=n) (hn:n≠0) (w:World):(sizeOf t).run P w=.ok n w:=by
 obtain⟨i,hi,hs⟩:=Ev h hn
 simp [sizeOf,typeInfo,hi,hs]
theorem Qs {t:TypeId} (h:Dk (P.underlying t)=true) {a:Addr} {x:Value} (hx:w.cell? a=some x):(loadVar t a).run P w=.ok x w:=by
 simp [loadVar,Sem.run_bind,Yj h w,hx]
theorem Cont.part_vals {c c':Cont} {off n:Nat} (h:c.part off n=some c'):c'.vals γ=((c.vals γ).drop off).take n:=by
 cases c<;>simp only[Cont.part,Option.some.injEq] at h<;>subst h<;>simp [Cont.vals,List.map_take,List.map_drop]
theorem Cont.cut_vals {c c':Cont} {off n:Nat} (h:c.cut off n=some c'):c'.vals γ=((c.vals γ).drop off).take n:=by
 unfold Cont.cut at h
 split at h
 ·rename_i hq
  simp only[Option.some.injEq] at h
  subst h
  obtain⟨rfl,rfl⟩:=hq
  rw[List.drop_zero,←Cont.len_vals (γ:=γ),List.take_length]
 ·exact Cont.part_vals h
theorem Qt:∀{l:List At} {c:Prop} {m:List UInt8},Hl l=some (c,m)→c→m.map vU8=l.map (At.val γ)
 |[],c,m,h,_=>by simp only[Hl,Option.some.injEq,Prod.mk.injEq] at h;obtain⟨_,rfl⟩:=h;rfl
 |x::r,c,m,h,hc=>by
  unfold Hl at h
  split at h
  ·simp at*
  ·rename_i heq
   obtain⟨rfl,rfl⟩:=List.cons.inj heq
   split at h
   ·rename_i hr
    simp only[Option.some.injEq,Prod.mk.injEq] at h
    obtain⟨rfl,rfl⟩:=h
    simp only[List.map_cons,Qt hr hc.2,vU8,Kf hc.1,At.val]
   ·simp at h
  ·simp at h
theorem Ug:∀{l:List At} {c:Prop} {m:List UInt32},Ij l=some (c,m)→c→m.map Ap=l.map (At.val γ)
 |[],c,m,h,_=>by simp only[Ij,Option.some.injEq,Prod.mk.injEq] at h;obtain⟨_,rfl⟩:=h;rfl
 |x::r,c,m,h,hc=>by
  unfold Ij at h
  split at h
  ·simp at*
  ·rename_i heq
   obtain⟨rfl,rfl⟩:=List.cons.inj heq
   split at h
   ·rename_i hr
    simp only[Option.some.injEq,Prod.mk.injEq] at h
    obtain⟨rfl,rfl⟩:=h
    simp only[List.map_cons,Ug hr hc.2,Ap,Kg hc.1,At.val]
   ·simp at h
  ·simp at h
theorem Uh:∀{l:List At} {c:Prop} {m:List UInt64},Ik l=some (c,m)→c→m.map vU64=l.map (At.val γ)
 |[],c,m,h,_=>by simp only[Ik,Option.some.injEq,Prod.mk.injEq] at h;obtain⟨_,rfl⟩:=h;rfl
 |x::r,c,m,h,hc=>by
  unfold Ik at h
  split at h
  ·simp at*
  ·rename_i heq
   obtain⟨rfl,rfl⟩:=List.cons.inj heq
   split at h
   ·rename_i hr
    simp only[Option.some.injEq,Prod.mk.injEq] at h
    obtain⟨rfl,rfl⟩:=h
    simp only[List.map_cons,Uh hr hc.2,vU64,Kh hc.1,At.val]
   ·simp at h
  ·simp at h
theorem Cont.whole_val {k:Option IntKind} {c:Cont} {q:Prop} {s:Sc} (h:c.whole k=some (q,s)) (hq:q):s.val γ=.agg (c.vals γ).toArray:=by
 have any:∀l:List At,(True,Sc.g l)=(q,s)→s.val γ=.agg ((Cont.c l).vals γ).toArray:=fun l he=>by
  cases he
  rfl
 cases c with
 |c l=>
  unfold Cont.whole at h
  simp only at h
  split at h
  ·split at h
   ·rename_i m hm
    simp only[Option.some.injEq,Prod.mk.injEq] at h
    obtain⟨rfl,rfl⟩:=h
    show Value.agg (arr8 m)=_
    rw[arr8,Qt (γ:=γ) hm hq]
    rfl
   ·exact any l (Option.some.inj h)
  ·split at h
   ·rename_i m hm
    simp only[Option.some.injEq,Prod.mk.injEq] at h
    obtain⟨rfl,rfl⟩:=h
    show Value.agg (arr32 m)=_
    rw[arr32,Ug (γ:=γ) hm hq]
    rfl
   ·exact any l (Option.some.inj h)
  ·split at h
   ·rename_i m hm
    simp only[Option.some.injEq,Prod.mk.injEq] at h
    obtain⟨rfl,rfl⟩:=h
    show Value.agg (arr64 m)=_
    rw[arr64,Uh (γ:=γ) hm hq]
    rfl
   ·exact any l (Option.some.inj h)
  ·exact any l (Option.some.inj h)
 |u8 l=>simp only[Cont.whole,Option.some.injEq,Prod.mk.injEq] at h;obtain⟨_,rfl⟩:=h;rfl
 |u32 l=>simp only[Cont.whole,Option.some.injEq,Prod.mk.injEq] at h;obtain⟨_,rfl⟩:=h;rfl
 |u64 l=>simp only[Cont.whole,Option.some.injEq,Prod.mk.injEq] at h;obtain⟨_,rfl⟩:=h;rfl
 |i64 l=>simp [Cont.whole] at h
 |vs l=>simp [Cont.whole] at h
theorem Yk {t:TypeId} (h:Gg (P.underlying t)=true):∃d,P.underlying t=some d∧(match d with| .struct _| .array _ _=>true|_=>false)=true:=by
 cases hd:P.underlying t with
 |none=>rw[hd] at h;simp [Gg] at h
 |some d=>refine⟨d,rfl,?_⟩;rw[hd] at h;cases d<;>simp_all [Gg]
theorem Yl {t:TypeId} (h:Gg (P.underlying t)=true) {g off:Nat} {xs:List Value} (hx:sz P t=xs.length) (hn:xs.length≠0)
  (hc:∀j u,xs[j]?=some u→w.cell? ⟨g,off+j,none⟩=some u):(loadVar t ⟨g,off,none⟩).run P w=.ok (.agg xs.toArray) w:=by
 obtain⟨d,hd,hd2⟩:=Yk h
 obtain⟨i,hi,hsz⟩:=Ev hx hn
 exact X4 (P:=P) (w:=w) t ⟨g,off,none⟩ xs d hd (by cases d<;>simp_all) (by rw[hi];simpa using hsz) (fun j u hu=>by rw[Bu];exact hc j u hu)
theorem Ki {t:TypeId} {ad:Addr} {x:Value} (h:(loadVar t ad).run P w=.ok x w):(Instr.loadAt t (.pointer (some ad))).run P w=.ok x w:=by
 simp [Instr.loadAt,Instr.sureAddr,h]
theorem Ym {w0:World} {A:Option Addr}:∀(n off:Nat),∀_:Unit,(Cl w0 A n off).length=n
 |0,_,_=>rfl
 |n+1,off,u=>by rw[Cl,List.length_cons,Ym n (off+1) u]
theorem Yn {w0:World} {A:Option Addr}:∀(n off j:Nat) {y:At},(Cl w0 A n off)[j]?=some y→j < n∧y=.v (A7 w0 (Af A (off+j)))
 |0,_,_,_,h=>by simp [Cl] at h
 |n+1,off,0,y,h=>by
  simp only[Cl,List.getElem?_cons_zero,Option.some.injEq] at h
  exact⟨by omega,h.symm⟩
 |n+1,off,j+1,y,h=>by
  simp only[Cl,List.getElem?_cons_succ] at h
  obtain⟨h1,h2⟩:=Yn n (off+1) j h
  exact⟨by omega,by rw[h2,show off+1+j=off+(j+1) from by omega]⟩
theorem Yo {w0:World} {ow:Nat→Prop} {A:Option Addr}:∀(n off:Nat) {j:Nat},F4 w0 ow A n off→j < n→Cu w0 ow (Af A (off+j))
 |0,_,_,_,h=>by omega
 |n+1,off,0,h,_=>h.1
 |n+1,off,j+1,h,hj=>by
  have:=Yo n (off+1) (j:=j) h.2 (by omega)
  rwa [show off+1+j=off+(j+1) from by omega] at this
theorem Ui {t:TypeId} {sv:Sv} (hS:Sat w0 ow γ hp w) (h:Na P w0 ow t hp sv=some (c,v,hp')) (hc:c):hp'=hp∧(Instr.loadAt t (sv.val γ)).run P w=.ok (v.val γ) w:=by
 unfold Na at h
 split at h
 ·rename_i k off
  split at h
  ·rename_i t' ct hr
   split at h
   ·rename_i hf
    simp only[Option.some.injEq,Prod.mk.injEq] at h
    obtain⟨rfl,rfl,rfl⟩:=h
    exact⟨rfl,Ki (Qs hf (hS.cellv hr hc))⟩
   ·split at h
    ·rename_i hf
     split at h
     ·rename_i c' hcut
      split at h
      ·rename_i q s hw
       simp only[Option.some.injEq,Prod.mk.injEq] at h
       obtain⟨rfl,rfl,rfl⟩:=h
       obtain⟨hq,hc⟩:=hc
       refine⟨rfl,Ki ?_⟩
       have hv:=Cont.cut_vals (γ:=γ) hcut
       have hl:(c'.vals γ).length=sz P t:=by rw[hv,List.length_take,List.length_drop,Cont.len_vals];omega
       show (loadVar t ⟨nmB γ k,off,none⟩).run P w=.ok (s.val γ) w
       rw[Cont.whole_val hw hq]
       refine Yl hf hl.symm (by omega) fun j u hu=>?_
       rw[(hS.bv hr).2.1.cell (off+j),List.getElem?_toArray]
       rw[hv,List.getElem?_take] at hu
       split at hu
       ·rw[List.getElem?_drop] at hu;exact hu
       ·cases hu
      ·simp at h
     ·simp at h
    ·simp at h
  ·simp at h
 ·rename_i k i
  split at h
  ·rename_i e ct hr
   split at h
   ·rename_i hf
    simp only[Option.some.injEq,Prod.mk.injEq] at h
    obtain⟨rfl,rfl,rfl⟩:=h
    refine⟨rfl,?_⟩
    obtain⟨_,ho⟩:=hS.own hr
    have hl:0 < (ct.vals γ).length:=by rw[Cont.len_vals];exact Nat.lt_of_le_of_lt (Nat.zero_le _) hc
    obtain⟨g,cap,hg⟩:=ho.shape hl
    have e1:(Sv.x (.a (.q k i))).val γ=.pointer (some ⟨g,0+i,none⟩):=by simp [Sv.val,Sc.val,At.val,hg]
    rw[e1,Nat.zero_add]
    refine Ki (Qs hf ?_)
    have hc':=World.ownsRow.cellAt (w:=w) (g:=g) (n:=(ct.vals γ).length) (cap:=cap) (xs:=ct.vals γ) (base:=0) (e:=e) (size:=1) (by rw[←hg];exact ho) i (by rw[Cont.len_vals];simpa using hc)
    rw[hc',Cont.get_val hc]
    rfl
   ·simp at h
  ·rename_i e m ct hr
   obtain⟨_,ho⟩:=hS.holds _ _ hr
   obtain⟨A,n,cp,hv,hlen,_,_,hrd,hA,hg⟩:=ho.rd
   rw[Cont.len_vals] at hlen
   have hform:0 < ct.len→∃g,A=some ⟨g,0,none⟩∧nmS γ k=.slice (some ⟨g,0,none⟩) n cp∧∀j u,(ct.vals γ)[j]?=some u→w.cell? ⟨g,j,none⟩=some u:=fun hp=>by
    have hn:0 < n:=by
               rcases Nat.eq_zero_or_pos n with h0|h0;· rw[h0,Nat.zero_mul] at hlen;omega
               ·exact h0
    obtain⟨g,rfl⟩:=hg hn
    obtain⟨b,off,hb,_,hcell⟩:=hrd (by rw[Cont.len_vals];exact hp)
    cases hb
    exact⟨g,rfl,hv,fun j u hu=>by have:=hcell j u hu;rwa [Nat.zero_add] at this⟩
   split at h
   ·rename_i hf
    simp only[Option.some.injEq,Prod.mk.injEq] at h
    obtain⟨rfl,rfl,rfl⟩:=h
    obtain⟨g,_,hnm,hcell⟩:=hform (Nat.lt_of_le_of_lt (Nat.zero_le _) hc)
    refine⟨rfl,?_⟩
    have e1:(Sv.x (.a (.q k i))).val γ=.pointer (some ⟨g,0+i,none⟩):=by simp [Sv.val,Sc.val,At.val,hnm]
    rw[e1,Nat.zero_add]
    exact Ki (Qs hf (hcell i _ (Cont.get_val hc)))
   ·split at h
    ·rename_i hf
     split at h
     ·rename_i c' hcut
      split at h
      ·rename_i q s hw
       simp only[Option.some.injEq,Prod.mk.injEq] at h
       obtain⟨rfl,rfl,rfl⟩:=h
       obtain⟨hq,hn0,hc⟩:=hc
       obtain⟨g,_,hnm,hcell⟩:=hform (by omega)
       refine⟨rfl,?_⟩
       have e1:(Sv.x (.a (.q k i))).val γ=.pointer (some ⟨g,0+i,none⟩):=by simp [Sv.val,Sc.val,At.val,hnm]
       rw[e1,Nat.zero_add]
       refine Ki ?_
       have hv:=Cont.part_vals (γ:=γ) hcut
       have hl:(c'.vals γ).length=sz P t:=by rw[hv,List.length_take,List.length_drop,Cont.len_vals];omega
       show (loadVar t ⟨g,i,none⟩).run P w=.ok (s.val γ) w
       rw[Cont.whole_val hw hq]
       refine Yl hf hl.symm (by omega) fun j u hu=>?_
       rw[hv,List.getElem?_take] at hu
       split at hu
       ·rw[List.getElem?_drop] at hu;exact hcell (i+j) u hu
       ·cases hu
      ·simp at h
     ·simp at h
    ·simp at h
  ·simp at h
 ·rename_i A
  split at h
  ·rename_i hf
   simp only[Option.some.injEq,Prod.mk.injEq] at h
   obtain⟨rfl,rfl,rfl⟩:=h
   obtain⟨a,rfl,hx⟩:=hS.raw hc
   exact⟨rfl,Ki (Qs hf hx)⟩
  ·split at h
   ·rename_i hf
    split at h
    ·rename_i q s hw
     simp only[Option.some.injEq,Prod.mk.injEq] at h
     obtain⟨rfl,rfl,rfl⟩:=h
     obtain⟨hq,hn,hA,hraw⟩:=hc
     cases A with
     |none=>cases hA
     |some a=>
      refine⟨rfl,Ki ?_⟩
      show (loadVar t a).run P w=.ok (s.val γ) w
      rw[Cont.whole_val hw hq]
      obtain⟨d,hd,hd2⟩:=Yk hf
      obtain⟨i,hi,hsz⟩:=Ev (P:=P) (t:=t) (n:=sz P t) rfl (by omega)
      have hl:((Cont.c (Cl w0 (some a) (sz P t) 0)).vals γ).length=sz P t:=by simp only[Cont.vals,List.length_map];exact Ym _ _ ()
      refine X4 (P:=P) (w:=w) t a _ d hd (by cases d<;>simp_all) (by rw[hi,hl];simpa using hsz) fun j u hu=>?_
      simp only[Cont.vals,List.getElem?_map,Option.map_eq_some_iff] at hu
      obtain⟨y,hy,rfl⟩:=hu
      obtain⟨hj,rfl⟩:=Yn _ _ _ hy
      obtain⟨a',ha',hc'⟩:=hS.raw (Yo _ _ hraw hj)
      rw[Nat.zero_add] at ha' hc' ⊢
      have e:a.add j=a':=by simpa [Af] using ha'
      rw[e]
      exact hc'
    ·simp at h
   ·simp at h
 ·simp at h
theorem Uj {t:TypeId} (hs:sz P t=1) {a:Addr} {x y:Value} (h1:x.oneCell'=true) (hx:w.cell? a=some y) (hf:w.frozen? a=false):(storeVar t a x).run P w=.ok () (w.setCell a x):=by
 have hcells:x.cells=#[x]:=by cases x<;>first|rfl|simp [Value.oneCell'] at h1
 simp [storeVar,Sem.run_bind,Dg hs (by omega) w,hcells,storeCells,run_store P w a x .plain h1,hx,hf,Addr.add]
theorem Jh (hS:Sat w0 ow γ hp w) {k:Nat} (h:Fz hp k=true):∃A n m,nmS γ k=.slice A n m:=by
 unfold Fz at h
 split at h
 ·rename_i e c hr
  rcases (hS.own hr).2.2 with ⟨h1,_⟩|⟨g,cap,cur,h1,_⟩
  ·exact⟨_,_,_,h1⟩
  ·exact⟨_,_,_,h1⟩
 ·rename_i e c hr
  obtain⟨g,cap,cur,mk,h1,_⟩:=(hS.holds k _ hr).2
  exact⟨_,_,_,h1⟩
 ·rename_i e m c hr
  obtain⟨A,n,cp,h1,_⟩:=OwnN.rd (hS.holds k _ hr).2
  exact⟨_,_,_,h1⟩
 ·cases h
theorem Ahy (hS:Sat w0 ow γ hp w) {k:Nat} (h:Ka hp k=true):(nmS γ k).oneCell'=true:=by
 by_cases ho:Fz hp k=true
 ·obtain⟨A,n,m,e⟩:=Jh hS ho
  rw[e];rfl
 ·unfold Ka at h
  unfold Fz at ho
  split at h<;>rename_i hr
  ·simp [hr] at ho
  ·simp [hr] at ho
  ·simp [hr] at ho
  ·exact (Rep.one _ (hS.holds k _ hr).2.2).1
  ·obtain⟨_,g,es,e,_⟩:=hS.holds k _ hr
   rw[e];rfl
  ·cases h
theorem Ahz (hS:Sat w0 ow γ hp w) {k:Nat} (h:Ka hp k=true):Go.Proofs.YtedaafmfjhjfmaaGreatDoor.scalar (nmS γ k):=by
 by_cases ho:Fz hp k=true
 ·obtain⟨A,n,m,e⟩:=Jh hS ho
  rw[e];trivial
 ·unfold Ka at h
  unfold Fz at ho
  split at h<;>rename_i hr
  ·simp [hr] at ho
  ·simp [hr] at ho
  ·simp [hr] at ho
  ·exact (Rep.one _ (hS.holds k _ hr).2.2).2
  ·obtain⟨_,g,es,e,_⟩:=hS.holds k _ hr
   rw[e];trivial
  ·cases h
theorem At.one_val {x:At} (hS:Sat w0 ow γ hp w) (h:x.one hp):(x.val γ).oneCell'=true:=by
 cases x with
 |v x=>exact h
 |p k o=>rfl
 |s k o l c=>rfl
 |o k=>exact Ahy hS h
 |q k i=>exact h.elim
 |z k l m=>obtain⟨A,n,m',e⟩:=Jh hS h;simp only[At.val,e];rfl
 |y k m l n=>obtain⟨A,n',m',e⟩:=Jh hS h;simp only[At.val,e];rfl
theorem L4 {t:TypeId} {ad:Addr} {x:Value} {w':World} (h:(storeVar t ad x).run P w=.ok () w'):(Instr.storeAt t (.pointer (some ad)) x).run P w=.ok () w':=by
 simp [Instr.storeAt,Instr.sureAddr,h]
theorem Cont.over_vals {ct c':Cont} {s:Sc} {h:Prop} (hS:Sat w0 ow γ hp w) (ho:ct.over hp s=some (h,c')) (hh:h):s.val γ=.agg (c'.vals γ).toArray∧c'.len=ct.len∧∀u∈c'.vals γ,u.oneCell'=true:=by
 unfold Cont.over at ho
 split at ho<;>first|(simp at ho;done)|(simp only[Option.some.injEq,Prod.mk.injEq] at ho;obtain⟨rfl,rfl⟩:=ho)
 ·exact⟨rfl,hh,by simp [Cont.vals,Value.oneCell']⟩
 ·exact⟨rfl,hh,by simp [Cont.vals,Value.oneCell']⟩
 ·exact⟨rfl,hh,by simp [Cont.vals,Value.oneCell']⟩
 ·refine⟨rfl,hh.1,fun u hu=>?_⟩
  simp only[Cont.vals,List.mem_map] at hu
  obtain⟨x,hx,rfl⟩:=hu
  exact At.one_val hS (hh.2 x hx)
theorem Yp:∀(q l:List At) (j:Nat),j+q.length≤l.length→Kc l j q=l.take j++(q++l.drop (j+q.length))
 |[],l,j,_=>by simp [Kc]
 |x::r,l,j,h=>by
  simp only[List.length_cons] at h
  rw[Kc,Yp r _ _ (by rw[List.length_set];omega),List.take_set,List.drop_set_of_lt (by omega),List.length_cons]
  have e:(l.take (j+1)).set j x=l.take j++[x]:=by
   rw[List.take_add_one,List.getElem?_eq_getElem (by omega),List.set_append_right _ _ (by simp;omega)]
   simp [Nat.min_eq_left (show j≤l.length by omega)]
  rw[e,List.append_assoc,show j+1+r.length=j+(r.length+1) by omega]
  rfl
theorem Uk (g:Nat) (e:TypeId) (off:Nat):∀(q l:List At) (i:Nat) (w:World),Blk w g e (l.map (At.val γ)).toArray→off+i+q.length≤l.length→(∀u∈q.map (At.val γ),u.oneCell'=true)→
  ∃w',(storeCells ⟨g,off,none⟩ (q.map (At.val γ)) i).run P w=.ok () w'∧Keeps (fun b=>b=g) w w'∧Blk w' g e ((Kc l (off+i) q).map (At.val γ)).toArray
 |[],l,i,w,hb,_,_=>⟨w,rfl,Keeps.refl _ _,hb⟩
 |x::r,l,i,w,hb,hl,h1=>by
  simp only[List.length_cons] at hl
  have hadd:(⟨g,off,none⟩:Addr).add i=⟨g,off+i,none⟩:=Bu _ _ _
  have hcell:w.cell? ⟨g,off+i,none⟩=some (l[off+i].val γ):=by
   rw[hb.cell];simp [show off+i < l.length from by omega]
  have hx:=h1 (x.val γ) (by simp)
  have hst:(store ((⟨g,off,none⟩:Addr).add i) (x.val γ)).run P w=.ok () (w.setCell ⟨g,off+i,none⟩ (x.val γ)):=by
   rw[hadd,run_store P w _ _ _ hx,hcell]
   simp [hb.frozen]
  have hb2:=hb.set_ (off+i) (x.val γ)
  have e2:(l.map (At.val γ)).toArray.setIfInBounds (off+i) (x.val γ)=((l.set (off+i) x).map (At.val γ)).toArray:=by rw[List.setIfInBounds_toArray,List.map_set]
  rw[e2] at hb2
  obtain⟨w',hr,hk,hb3⟩:=Uk g e off r (l.set (off+i) x) (i+1) _ hb2 (by rw[List.length_set];omega) (fun u hu=>h1 u (by simp only[List.map_cons,List.mem_cons];exact .inr hu))
  refine⟨w',?_,(Keeps.setCell (own:=fun b=>b=g) _ _ _ rfl).trans hk,hb3⟩
  simp only[List.map_cons,storeCells,Sem.run_bind,hst,Result.andThen_ok,hr]
theorem Ah0 {t:TypeId} {sv sx:Sv} (hS:Sat w0 ow γ hp w) (h:P6 P t hp sv sx=some (c,v,hp')) (hc:c):
  v=Ci∧∃w',(Instr.storeAt t (sv.val γ) (sx.val γ)).run P w=.ok () w'∧Sat w0 ow γ hp' w':=by
 unfold P6 at h
 split at h
 ·rename_i k off s
  split at h
  ·rename_i e ct hr
   obtain⟨hn,hb,r0,hr0,hbl,hbl2,hput⟩:=hS.bv hr
   split at h
   ·rename_i hf
    split at h
    ·rename_i x
     split at h
     ·rename_i hx c' hset
      simp only[Option.some.injEq,Prod.mk.injEq] at h
      obtain⟨rfl,rfl,rfl⟩:=h
      obtain⟨⟨h1,h2⟩,h3,h4⟩:=hc
      have h5:=At.one_val hS h3
      obtain⟨hv,hl⟩:=Cont.set_val (γ:=γ) hset h1
      refine⟨rfl,_,L4 (Uj h4 h5 (hS.cellv hr h2) (hb.frozen off)),?_⟩
      refine hS.update hr0 (b:=nmB γ _) (by rw[hbl]) (Keeps.setCell _ _ _ rfl) (hput _ _ ?_) (.inl (hbl2 _))
      have:=hb.set_ off (x.val γ)
      rw[hv]
      rw[List.setIfInBounds_toArray] at this
      exact this
     ·simp at h
    ·simp at h
   ·split at h
    ·rename_i hx c' hpc
     simp only[Option.some.injEq,Prod.mk.injEq] at h
     obtain⟨rfl,rfl,rfl⟩:=h
     unfold Cont.piece at hpc
     split at hpc
     ·rename_i l q
      split at hpc
      ·cases hpc
      ·simp only[Option.some.injEq,Prod.mk.injEq] at hpc
       obtain⟨rfl,rfl⟩:=hpc
       obtain⟨⟨h1,h2,h3⟩,h4⟩:=hc
       obtain⟨i,hi,hsz⟩:=Ev (P:=P) (t:=t) rfl (by omega)
       have hone:∀u∈q.map (At.val γ),u.oneCell'=true:=fun u hu=>by
        obtain⟨x,hx,rfl⟩:=List.mem_map.1 hu
        exact At.one_val hS (h4 x hx)
       obtain⟨w',hr2,hk2,hb2⟩:=Uk (P:=P) (γ:=γ) (nmB γ k) e off q l 0 w hb (by omega) hone
       refine⟨rfl,w',?_,?_⟩
       ·show (Instr.storeAt t (.pointer (some ⟨nmB γ k,off,none⟩)) (.agg (q.map (At.val γ)).toArray)).run P w=_
        refine L4 ?_
        have hs:(q.map (At.val γ)).length=i.size:=by rw[List.length_map];omega
        rw[List.length_map] at hs
        simp [storeVar,sizeOf,typeInfo,hi,Value.cells,hs,hr2]
       ·exact hS.update hr0 (b:=nmB γ _) (by rw[hbl]) hk2 (hput _ _ hb2) (.inl (hbl2 _))
     ·rename_i l q8
      simp only[Option.some.injEq,Prod.mk.injEq] at hpc
      obtain⟨rfl,rfl⟩:=hpc
      obtain⟨h1,h2,h3⟩:=hc
      obtain⟨i,hi,hsz⟩:=Ev (P:=P) (t:=t) rfl (by omega)
      obtain⟨q,hq⟩:∃q,q=q8.map f8:=⟨_,rfl⟩
      have hql:q.length=q8.length:=by rw[hq,List.length_map]
      have hone:∀u∈q.map (At.val γ),u.oneCell'=true:=fun u hu=>by
       rw[hq,List.map_map] at hu
       obtain⟨x,_,rfl⟩:=List.mem_map.1 hu
       rfl
      obtain⟨w',hr2,hk2,hb2⟩:=Uk (P:=P) (γ:=γ) (nmB γ k) e off q l 0 w hb (by omega) hone
      rw[Nat.add_zero,Yp q l off (by omega),hql,h1,hq] at hb2
      refine⟨rfl,w',?_,?_⟩
      ·show (Instr.storeAt t (.pointer (some ⟨nmB γ k,off,none⟩)) (.agg (arr8 q8))).run P w=_
       refine L4 ?_
       have e8:arr8 q8=(q.map (At.val γ)).toArray:=by
        rw[hq,List.map_map]
        rfl
       have hs:q.length=i.size:=by omega
       rw[e8]
       simp [storeVar,sizeOf,typeInfo,hi,Value.cells,hs,hr2]
      ·exact hS.update hr0 (b:=nmB γ _) (by rw[hbl]) hk2 (hput _ _ hb2) (.inl (hbl2 _))
     ·cases hpc
    ·split at h
     ·rename_i hx c' hov
      simp only[Option.some.injEq,Prod.mk.injEq] at h
      obtain⟨rfl,rfl,rfl⟩:=h
      obtain⟨h1,rfl,h3,h4⟩:=hc
      obtain⟨e1,e2,e3⟩:=Cont.over_vals (γ:=γ) hS hov h1
      obtain⟨i,hi,hsz⟩:=Ev h3 (by omega)
      have hrun:=run_storeVar_row (P:=P) w (nmB γ k) e t (ct.vals γ).toArray (c'.vals γ).toArray hb (by rw[hi];simp [Cont.len_vals,e2,hsz]) (by simp [Cont.len_vals,e2]) (by simpa using e3)
      refine⟨rfl,w.setRow (nmB γ k) (c'.vals γ).toArray,?_,?_⟩
      ·show (Instr.storeAt t (.pointer (some ⟨nmB γ k,0,none⟩)) (s.val γ)).run P w=_
       rw[e1]
       exact L4 hrun
      ·exact hS.update hr0 (b:=nmB γ _) (by rw[hbl]) (Keeps.setRow w rfl) (hput _ _ (hb.setRow rfl)) (.inl (hbl2 _))
     ·simp at h
  ·simp at h
 ·rename_i k i x
  split at h
  ·rename_i e ct hr
   obtain⟨hn,ho⟩:=hS.own hr
   split at h
   ·rename_i hf
    split at h
    ·rename_i hx c' hset
     simp only[Option.some.injEq,Prod.mk.injEq] at h
     obtain⟨rfl,rfl,rfl⟩:=h
     obtain⟨⟨h1,h2⟩,h3,h4⟩:=hc
     have h5:=At.one_val hS h3
     obtain⟨hv,hl⟩:=Cont.set_val (γ:=γ) hset h1
     have hlen:0 < (ct.vals γ).length:=by rw[Cont.len_vals];omega
     obtain⟨g,cap,hg⟩:=ho.shape hlen
     have ho':=ho
     rw[hg] at ho'
     have hcell:=World.ownsRow.cellAt ho' i (by rw[Cont.len_vals];simpa using h2)
     have hfr:=World.ownsRow.frozenAt ho' i
     obtain⟨hst,_⟩:=World.ownsRow.stored ho' i (x.val γ)
     have e1:(Sv.x (.a (.q k i))).val γ=.pointer (some ⟨g,i,none⟩):=by simp [Sv.val,Sc.val,At.val,hg]
     refine⟨rfl,w.setCell ⟨g,i,none⟩ (x.val γ),?_,?_⟩
     ·rw[e1]
      exact L4 (Uj h4 h5 (by rw[hcell,Cont.get_val h2]) hfr)
     ·refine hS.update hr (b:=g) (by simp [Res.has,hg,Value.ownBlock]) (Keeps.setCell _ _ _ rfl) ⟨hn,?_⟩ (.inl (by simp [Res.has,hg,Value.ownBlock]))
      unfold Own
      rw[hv,hg,List.length_set]
      exact hst
    ·simp at h
   ·simp at h
  ·rename_i e m ct hr
   obtain⟨hn,hm,n0,ho⟩:=hS.holds k _ hr
   split at h
   ·rename_i hf
    split at h
    ·rename_i hx c' hset
     simp only[Option.some.injEq,Prod.mk.injEq] at h
     obtain⟨rfl,rfl,rfl⟩:=h
     obtain⟨⟨h1,h2⟩,h3,h4⟩:=hc
     have h5:=At.one_val hS h3
     obtain⟨hv,hl⟩:=Cont.set_val (γ:=γ) hset h1
     have hlen:0 < (ct.vals γ).length:=by rw[Cont.len_vals];omega
     have hlm:=ho.1
     have hn0:0 < n0:=Nat.pos_of_ne_zero fun e0=>by rw[e0,Nat.zero_mul] at hlm;omega
     obtain⟨A,n1,cap0,e0,hl0,_,_,_,_,hg0⟩:=OwnN.rd ⟨hm,n0,ho⟩
     have hn1:0 < n1:=Nat.pos_of_ne_zero fun e0=>by rw[e0,Nat.zero_mul] at hl0;omega
     obtain⟨g,rfl⟩:=hg0 hn1
     have hg:nmS γ k=.slice (some ⟨g,0,none⟩) n1 cap0:=e0
     have hnn:n1=n0:=Nat.eq_of_mul_eq_mul_right hm (hl0.symm.trans hlm)
     subst hnn
     have ho':=ho
     rw[hg] at ho'
     have hcell:=World.ownsRow.cellAt ho' i (by rw[←hlm,Cont.len_vals];exact h2)
     have hfr:=World.ownsRow.frozenAt ho' i
     obtain⟨hst,_⟩:=World.ownsRow.stored ho' i (x.val γ)
     have e1:(Sv.x (.a (.q k i))).val γ=.pointer (some ⟨g,i,none⟩):=by simp [Sv.val,Sc.val,At.val,hg]
     refine⟨rfl,w.setCell ⟨g,i,none⟩ (x.val γ),?_,?_⟩
     ·rw[e1]
      exact L4 (Uj h4 h5 (by rw[hcell,Cont.get_val h2]) hfr)
     ·refine hS.update hr (b:=g) (by simp [Res.has,hg,Value.ownBlock]) (Keeps.setCell _ _ _ rfl) ⟨hn,hm,n1,?_⟩ (.inl (by simp [Res.has,hg,Value.ownBlock]))
      rw[hv,hg]
      exact hst
    ·simp at h
   ·simp at h
  ·simp at h
 ·simp at h
end
end
section
section
variable {P:Program} {w:World} {t:TypeId} {c:Prop} {v:Value}
theorem bv8 (x:UInt8):BitVec.ofInt 8 (n8 x)=x.toBitVec:=by
 apply BitVec.eq_of_toNat_eq
 rw[BitVec.toNat_ofInt]
 have:=Lm x
 unfold n8
 simp
 omega
theorem Yq (x:UInt32):BitVec.ofInt 32 (n32 x)=x.toBitVec:=by
 apply BitVec.eq_of_toNat_eq
 rw[BitVec.toNat_ofInt]
 have:=M6 x
 unfold n32
 simp
 omega
theorem Yr (x:UInt64):BitVec.ofInt 64 (n64 x)=x.toBitVec:=by
 apply BitVec.eq_of_toNat_eq
 rw[BitVec.toNat_ofInt]
 have:=x.toNat_lt
 unfold n64
 simp
 omega
theorem Nj (x:UInt8):IntKind.u8.wrap (x.toNat:Int)=n8 x:=Age x
theorem Nk (x:UInt32):IntKind.u32.wrap (x.toNat:Int)=n32 x:=Agf x
theorem Nl (x:UInt64):IntKind.u64.wrap (x.toNat:Int)=n64 x:=Agg x
theorem Ah1 (x y:UInt8):IntKind.u8.wrap (n8 x+n8 y)=n8 (x+y):=by unfold n8;rw[IntKind.wrap_u8'];simp
theorem Ah2 (x y:UInt8):IntKind.u8.wrap (n8 x - n8 y)=n8 (x - y):=by
 have hx:=Lm x
 have hy:=Lm y
 unfold n8;rw[IntKind.wrap_u8',UInt8.toNat_sub];omega
theorem Ah3 (x y:UInt8):IntKind.u8.wrap (n8 x*n8 y)=n8 (x*y):=by unfold n8;rw[IntKind.wrap_u8'];simp
theorem Ah4 (x y:UInt8):IntKind.u8.wrap ((n8 x).tdiv (n8 y))=n8 (x / y):=by
 rw[←Nj (x / y),UInt8.toNat_div];rfl
theorem Ah5 (x y:UInt8):(n8 x).tmod (n8 y)=n8 (x % y):=by unfold n8;rw[UInt8.toNat_mod];rfl
theorem Ah6 (x y:UInt32):IntKind.u32.wrap ((n32 x).tdiv (n32 y))=n32 (x / y):=by
 rw[←Nk (x / y),UInt32.toNat_div];rfl
theorem Ah7 (x y:UInt32):(n32 x).tmod (n32 y)=n32 (x % y):=by unfold n32;rw[UInt32.toNat_mod];rfl
theorem Kj (n:Int):IntKind.u64.wrap n=n % 18446744073709551616:=by simp [IntKind.wrap,IntKind.bits,IntKind.signed]
theorem Ah8 (x y:UInt64):IntKind.u64.wrap (n64 x+n64 y)=n64 (x+y):=by unfold n64;rw[Kj];simp
theorem Ah9 (x y:UInt64):IntKind.u64.wrap (n64 x - n64 y)=n64 (x - y):=by
 have hx:=x.toNat_lt
 have hy:=y.toNat_lt
 unfold n64;rw[Kj,UInt64.toNat_sub];omega
theorem Aia (x y:UInt64):IntKind.u64.wrap (n64 x*n64 y)=n64 (x*y):=by unfold n64;rw[Kj];simp
theorem Aib (x y:UInt64):IntKind.u64.wrap ((n64 x).tdiv (n64 y))=n64 (x / y):=by
 rw[←Nl (x / y),UInt64.toNat_div];rfl
theorem Aic (x y:UInt64):(n64 x).tmod (n64 y)=n64 (x % y):=by unfold n64;rw[UInt64.toNat_mod];rfl
theorem Ys (y:UInt8):n8 y=0↔y=0:=by rw[show (0:Int)=n8 0 from rfl,Po]
theorem Yt (y:UInt32):n32 y=0↔y=0:=by rw[show (0:Int)=n32 0 from rfl,Pp]
theorem Yu (y:UInt64):n64 y=0↔y=0:=by rw[show (0:Int)=n64 0 from rfl,Pq]
theorem Yv (x y:UInt8):n8 x < n8 y↔x < y:=by unfold n8;rw[UInt8.lt_iff_toNat_lt];omega
theorem Yw (x y:UInt32):n32 x < n32 y↔x < y:=by unfold n32;rw[UInt32.lt_iff_toNat_lt];omega
theorem Yx (x y:UInt64):n64 x < n64 y↔x < y:=by unfold n64;rw[UInt64.lt_iff_toNat_lt];omega
theorem Yy (x y:UInt8):n8 x≤n8 y↔x≤y:=by unfold n8;rw[UInt8.le_iff_toNat_le];omega
theorem Yz (x y:UInt32):n32 x≤n32 y↔x≤y:=by unfold n32;rw[UInt32.le_iff_toNat_le];omega
theorem Y0 (x y:UInt64):n64 x≤n64 y↔x≤y:=by unfold n64;rw[UInt64.le_iff_toNat_le];omega
theorem Nn {α:Type} [DecidableEq α] (a b:α):(a==b)=decide (a=b):=by rw[Bool.eq_iff_iff];simp
theorem Np {α:Type} [DecidableEq α] (a b:α):(a != b)=decide (a≠b):=by rw[Bool.eq_iff_iff];simp
theorem Aid {op:BinOp} {x y:UInt8} (h:Px op x y=some (c,v)) (hc:c):(binOp op t (vU8 x) (vU8 y)).run P w=.ok v w:=by
 have e1:BitVec.ofInt IntKind.u8.bits (n8 x)=x.toBitVec:=bv8 x
 have e2:BitVec.ofInt IntKind.u8.bits (n8 y)=y.toBitVec:=bv8 y
 cases op<;>simp only[Px,Option.some.injEq,Prod.mk.injEq,reduceCtorEq] at h<;>obtain⟨rfl,rfl⟩:=h
 ·simp [binOp,Op.intArith,Ah1]
 ·simp [binOp,Op.intArith,Ah2]
 ·simp [binOp,Op.intArith,Ah3]
 ·have h0:¬n8 y=0:=fun e=>hc ((Ys y).1 e)
  simp [binOp,Op.intDiv,h0,Ah4]
 ·have h0:¬n8 y=0:=fun e=>hc ((Ys y).1 e)
  simp [binOp,Op.intDiv,h0,Ah5]
 ·simp only[binOp,Op.intBits,e1,e2];exact congrArg (fun z=>Result.ok (Value.int .u8 z) w) (Nj (x&&& y))
 ·simp only[binOp,Op.intBits,e1,e2];exact congrArg (fun z=>Result.ok (Value.int .u8 z) w) (Nj (x|||y))
 ·simp only[binOp,Op.intBits,e1,e2];exact congrArg (fun z=>Result.ok (Value.int .u8 z) w) (Nj (x ^^^ y))
 ·simp only[binOp,Op.intBits,e1,e2];exact congrArg (fun z=>Result.ok (Value.int .u8 z) w) (Nj (x&&& ~~~y))
 ·simp [binOp,Op.intCmp,Nn,Po]
 ·simp [binOp,Op.intCmp,Np,Po]
 ·simp [binOp,Op.intCmp,Yv]
 ·simp [binOp,Op.intCmp,Yy]
 ·simp [binOp,Op.intCmp,Yv]
 ·simp [binOp,Op.intCmp,Yy]
theorem Aie {op:BinOp} {x y:UInt32} (h:Py op x y=some (c,v)) (hc:c):(binOp op t (Ap x) (Ap y)).run P w=.ok v w:=by
 have e1:BitVec.ofInt IntKind.u32.bits (n32 x)=x.toBitVec:=Yq x
 have e2:BitVec.ofInt IntKind.u32.bits (n32 y)=y.toBitVec:=Yq y
 cases op<;>simp only[Py,Option.some.injEq,Prod.mk.injEq,reduceCtorEq] at h<;>obtain⟨rfl,rfl⟩:=h
 ·simp [binOp,Op.intArith,Af5]
 ·simp [binOp,Op.intArith,Af6]
 ·simp [binOp,Op.intArith,Af7]
 ·have h0:¬n32 y=0:=fun e=>hc ((Yt y).1 e)
  simp [binOp,Op.intDiv,h0,Ah6]
 ·have h0:¬n32 y=0:=fun e=>hc ((Yt y).1 e)
  simp [binOp,Op.intDiv,h0,Ah7]
 ·simp only[binOp,Op.intBits,e1,e2];exact congrArg (fun z=>Result.ok (Value.int .u32 z) w) (Nk (x&&& y))
 ·simp only[binOp,Op.intBits,e1,e2];exact congrArg (fun z=>Result.ok (Value.int .u32 z) w) (Nk (x|||y))
 ·simp only[binOp,Op.intBits,e1,e2];exact congrArg (fun z=>Result.ok (Value.int .u32 z) w) (Nk (x ^^^ y))
 ·simp only[binOp,Op.intBits,e1,e2];exact congrArg (fun z=>Result.ok (Value.int .u32 z) w) (Nk (x&&& ~~~y))
 ·simp [binOp,Op.intCmp,Nn,Pp]
 ·simp [binOp,Op.intCmp,Np,Pp]
 ·simp [binOp,Op.intCmp,Yw]
 ·simp [binOp,Op.intCmp,Yz]
 ·simp [binOp,Op.intCmp,Yw]
 ·simp [binOp,Op.intCmp,Yz]
theorem Aif {op:BinOp} {x y:UInt64} (h:Pz op x y=some (c,v)) (hc:c):(binOp op t (vU64 x) (vU64 y)).run P w=.ok v w:=by
 have e1:BitVec.ofInt IntKind.u64.bits (n64 x)=x.toBitVec:=Yr x
 have e2:BitVec.ofInt IntKind.u64.bits (n64 y)=y.toBitVec:=Yr y
 cases op<;>simp only[Pz,Option.some.injEq,Prod.mk.injEq,reduceCtorEq] at h<;>obtain⟨rfl,rfl⟩:=h
 ·simp [binOp,Op.intArith,Ah8]
 ·simp [binOp,Op.intArith,Ah9]
 ·simp [binOp,Op.intArith,Aia]
 ·have h0:¬n64 y=0:=fun e=>hc ((Yu y).1 e)
  simp [binOp,Op.intDiv,h0,Aib]
 ·have h0:¬n64 y=0:=fun e=>hc ((Yu y).1 e)
  simp [binOp,Op.intDiv,h0,Aic]
 ·simp only[binOp,Op.intBits,e1,e2];exact congrArg (fun z=>Result.ok (Value.int .u64 z) w) (Nl (x&&& y))
 ·simp only[binOp,Op.intBits,e1,e2];exact congrArg (fun z=>Result.ok (Value.int .u64 z) w) (Nl (x|||y))
 ·simp only[binOp,Op.intBits,e1,e2];exact congrArg (fun z=>Result.ok (Value.int .u64 z) w) (Nl (x ^^^ y))
 ·simp only[binOp,Op.intBits,e1,e2];exact congrArg (fun z=>Result.ok (Value.int .u64 z) w) (Nl (x&&& ~~~y))
 ·simp [binOp,Op.intCmp,Nn,Pq]
 ·simp [binOp,Op.intCmp,Np,Pq]
 ·simp [binOp,Op.intCmp,Yx]
 ·simp [binOp,Op.intCmp,Y0]
 ·simp [binOp,Op.intCmp,Yx]
 ·simp [binOp,Op.intCmp,Y0]
theorem G8 {n:Int} (h:Fy n):IntKind.i64.wrap n=n:=IntWalk.i64_in _ h
theorem Aig {op:BinOp} {a b:Int} (h:Pw op a b=some (c,v)) (hc:c):(binOp op t (.int .i64 a) (.int .i64 b)).run P w=.ok v w:=by
 cases op<;>simp only[Pw,Option.some.injEq,Prod.mk.injEq,reduceCtorEq] at h<;>obtain⟨rfl,rfl⟩:=h
 ·simp [binOp,Op.intArith,G8 hc]
 ·simp [binOp,Op.intArith,G8 hc]
 ·simp [binOp,Op.intArith,G8 hc]
 ·simp [binOp,Op.intDiv,hc.1,G8 hc.2]
 ·simp [binOp,Op.intDiv,hc]
 ·simp [binOp,Op.intCmp,Nn]
 ·simp [binOp,Op.intCmp,Np]
 ·simp [binOp,Op.intCmp]
 ·simp [binOp,Op.intCmp]
 ·simp [binOp,Op.intCmp]
 ·simp [binOp,Op.intCmp]
theorem Ul {d:Prop} {r:R1} (h:ban d r=some (c,v)) (hc:c):∃e,r=some (e,v)∧e∧d:=by
 cases r with
 |none=>simp [ban] at h
 |some q=>
  obtain⟨e,u⟩:=q
  simp only[ban,Option.some.injEq,Prod.mk.injEq] at h
  obtain⟨rfl,rfl⟩:=h
  exact⟨e,rfl,hc.2,hc.1⟩
theorem Aih {op:BinOp} {k:IntKind} {a b:Int} (h:P2 op a b=some (c,v)) (hc:c):(binOp op t (.int k a) (.int k b)).run P w=.ok v w:=by
 cases op<;>simp only[P2,Option.some.injEq,Prod.mk.injEq,reduceCtorEq] at h<;>obtain⟨rfl,rfl⟩:=h
 ·simp [binOp,Op.intCmp,Nn]
 ·simp [binOp,Op.intCmp,Np]
 ·simp [binOp,Op.intCmp]
 ·simp [binOp,Op.intCmp]
 ·simp [binOp,Op.intCmp]
 ·simp [binOp,Op.intCmp]
theorem Aii {op:BinOp} {k:IntKind} {a b:Int} (h:P3 op k a b=some (c,v)) (hc:c):(binOp op t (.int k a) (.int k b)).run P w=.ok v w:=by
 cases k<;>simp only[P3,reduceCtorEq] at h
 ·exact Aih h hc
 ·exact Aig h hc
 ·obtain⟨e,h1,h2,h3,h4⟩:=Ul h hc
  have:=Aid (P:=P) (w:=w) (t:=t) h1 h2
  rwa [vU8,vU8,Kf h3,Kf h4] at this
 ·obtain⟨e,h1,h2,h3,h4⟩:=Ul h hc
  have:=Aie (P:=P) (w:=w) (t:=t) h1 h2
  rwa [Ap,Ap,Kg h3,Kg h4] at this
 ·obtain⟨e,h1,h2,h3,h4⟩:=Ul h hc
  have:=Aif (P:=P) (w:=w) (t:=t) h1 h2
  rwa [vU64,vU64,Kh h3,Kh h4] at this
theorem Aij (x:UInt8) (m:Nat):IntKind.u8.wrap (n8 x*2 ^ min m 8)=n8 (T6 x m):=by
 unfold T6
 split
 ·rename_i h
  have e:(UInt8.ofNat m).toNat % 8=m:=by simp;omega
  rw[IntKind.wrap_u8',Nat.min_eq_left (by omega)]
  unfold n8
  rw[UInt8.toNat_shiftLeft,e,Nat.shiftLeft_eq,Int.natCast_emod,Int.natCast_mul,Int.natCast_pow]
  rfl
 ·rename_i h
  rw[IntKind.wrap_u8',Nat.min_eq_right (by omega)]
  show n8 x*256 % 256=0
  omega
theorem Aik (x:UInt8) (m:Nat):(n8 x).fdiv (2 ^ min m 8)=n8 (T7 x m):=by
 rw[Int.fdiv_eq_ediv_of_nonneg _ (by exact Int.le_of_lt (Int.pow_pos (by omega)))]
 unfold T7
 split
 ·rename_i h
  have e:(UInt8.ofNat m).toNat % 8=m:=by simp;omega
  rw[Nat.min_eq_left (by omega)]
  unfold n8
  rw[UInt8.toNat_shiftRight,e,Nat.shiftRight_eq_div_pow,Int.natCast_ediv,Int.natCast_pow]
  rfl
 ·rename_i h
  rw[Nat.min_eq_right (by omega)]
  have:=Tw x
  show n8 x / 256=0
  omega
theorem Ail (x:UInt32) (m:Nat):IntKind.u32.wrap (n32 x*2 ^ min m 32)=n32 (T8 x m):=by
 unfold T8
 split
 ·rename_i h
  have e:(UInt32.ofNat m).toNat % 32=m:=by simp;omega
  rw[IntKind.wrap_u32',Nat.min_eq_left (by omega)]
  unfold n32
  rw[UInt32.toNat_shiftLeft,e,Nat.shiftLeft_eq,Int.natCast_emod,Int.natCast_mul,Int.natCast_pow]
  rfl
 ·rename_i h
  rw[IntKind.wrap_u32',Nat.min_eq_right (by omega)]
  show n32 x*4294967296 % 4294967296=0
  omega
theorem Aim (x:UInt32) (m:Nat):(n32 x).fdiv (2 ^ min m 32)=n32 (T9 x m):=by
 rw[Int.fdiv_eq_ediv_of_nonneg _ (by exact Int.le_of_lt (Int.pow_pos (by omega)))]
 unfold T9
 split
 ·rename_i h
  have e:(UInt32.ofNat m).toNat % 32=m:=by simp;omega
  rw[Nat.min_eq_left (by omega)]
  unfold n32
  rw[UInt32.toNat_shiftRight,e,Nat.shiftRight_eq_div_pow,Int.natCast_ediv,Int.natCast_pow]
  rfl
 ·rename_i h
  rw[Nat.min_eq_right (by omega)]
  have:=Tx x
  show n32 x / 4294967296=0
  omega
theorem Ain (x:UInt64) (m:Nat):IntKind.u64.wrap (n64 x*2 ^ min m 64)=n64 (J9 x m):=by
 unfold J9
 split
 ·rename_i h
  have e:(UInt64.ofNat m).toNat % 64=m:=by simp;omega
  rw[Kj,Nat.min_eq_left (by omega)]
  unfold n64
  rw[UInt64.toNat_shiftLeft,e,Nat.shiftLeft_eq,Int.natCast_emod,Int.natCast_mul,Int.natCast_pow]
  rfl
 ·rename_i h
  rw[Kj,Nat.min_eq_right (by omega)]
  show n64 x*18446744073709551616 % 18446744073709551616=0
  omega
theorem Aio (x:UInt64) (m:Nat):(n64 x).fdiv (2 ^ min m 64)=n64 (Ii x m):=by
 rw[Int.fdiv_eq_ediv_of_nonneg _ (by exact Int.le_of_lt (Int.pow_pos (by omega)))]
 unfold Ii
 split
 ·rename_i h
  have e:(UInt64.ofNat m).toNat % 64=m:=by simp;omega
  rw[Nat.min_eq_left (by omega)]
  unfold n64
  rw[UInt64.toNat_shiftRight,e,Nat.shiftRight_eq_div_pow,Int.natCast_ediv,Int.natCast_pow]
  rfl
 ·rename_i h
  rw[Nat.min_eq_right (by omega)]
  have:=Ty x
  show n64 x / 18446744073709551616=0
  omega
theorem Y1 {left:Bool} {k yk:IntKind} {a b:Int} (h:shS left k a b=some (c,v)) (hc:c):(binOp (if left=true then .shl else .shr) t (.int k a) (.int yk b)).run P w=.ok v w:=by
 have main:∀(z:Int),0≤b→(if left=true then k.wrap (a*2 ^ min b.toNat k.bits) else a.fdiv (2 ^ min b.toNat k.bits))=z→(binOp (if left=true then .shl else .shr) t (.int k a) (.int yk b)).run P w=.ok (.int k z) w:=by
  intro z hb hz
  have hb':¬b < 0:=by omega
  cases left
  ·simp only[Bool.false_eq_true,if_false] at hz ⊢
   simp [binOp,Op.shift,hb',hz]
  ·simp only[if_true] at hz ⊢
   simp [binOp,Op.shift,hb',hz]
 cases k<;>simp only[shS,reduceCtorEq] at h
 ·have hp:(0:Int)≤2 ^ b.toNat:=Int.le_of_lt (Int.pow_pos (by omega))
  cases left
  ·simp only[Bool.false_eq_true,if_false,Option.some.injEq,Prod.mk.injEq] at h
   obtain⟨rfl,rfl⟩:=h
   refine main _ hc.1 ?_
   have e:min b.toNat IntKind.i64.bits=b.toNat:=Nat.min_eq_left (by show _≤64;omega)
   simp only[Bool.false_eq_true,if_false,e]
   exact Int.fdiv_eq_ediv_of_nonneg _ hp
  ·simp only[if_true,Option.some.injEq,Prod.mk.injEq] at h
   obtain⟨rfl,rfl⟩:=h
   refine main _ hc.1 ?_
   have e:min b.toNat IntKind.i64.bits=b.toNat:=Nat.min_eq_left (by show _≤64;omega)
   simp only[if_true,e]
   exact G8 hc.2.2
 ·simp only[Option.some.injEq,Prod.mk.injEq] at h
  obtain⟨rfl,rfl⟩:=h
  refine main _ hc.2 ?_
  have ea:=Kf hc.1
  cases left
  ·simp only[Bool.false_eq_true,if_false];rw[←Aik,ea];rfl
  ·simp only[if_true];rw[←Aij,ea];rfl
 ·simp only[Option.some.injEq,Prod.mk.injEq] at h
  obtain⟨rfl,rfl⟩:=h
  refine main _ hc.2 ?_
  have ea:=Kg hc.1
  cases left
  ·simp only[Bool.false_eq_true,if_false];rw[←Aim,ea];rfl
  ·simp only[if_true];rw[←Ail,ea];rfl
 ·simp only[Option.some.injEq,Prod.mk.injEq] at h
  obtain⟨rfl,rfl⟩:=h
  refine main _ hc.2 ?_
  have ea:=Kh hc.1
  cases left
  ·simp only[Bool.false_eq_true,if_false];rw[←Aio,ea];rfl
  ·simp only[if_true];rw[←Ain,ea];rfl
theorem Aip {k dst:IntKind} {a:Int} (h:P4 k dst a=some (c,v)) (hc:c):(Conv.intToInt dst a).run P w=.ok v w:=by
 have main:∀z,dst.wrap a=z→(Conv.intToInt dst a).run P w=.ok (.int dst z) w:=by
  rintro z rfl
  rfl
 cases k<;>cases dst<;>simp only[P4,Option.some.injEq,Prod.mk.injEq,reduceCtorEq] at h<;>obtain⟨rfl,rfl⟩:=h
 ·exact main _ (G8 hc)
 ·refine main _ ?_
  rw[IntKind.wrap_u8'];unfold n8 UInt8.ofInt;rw[UInt8.toNat_ofNat'];omega
 ·refine main _ ?_
  rw[IntKind.wrap_u32'];unfold n32 UInt32.ofInt;rw[UInt32.toNat_ofNat'];omega
 ·refine main _ ?_
  rw[Kj];unfold n64 UInt64.ofInt;rw[UInt64.toNat_ofNat'];omega
 ·refine main _ (G8 ?_)
  unfold Ds at hc;unfold Fy;omega
 ·refine main _ ?_
  unfold Ds at hc;rw[IntKind.wrap_u8'];omega
 ·refine main _ ?_
  rw[←Af8,Kf hc]
 ·refine main _ ?_
  rw[←Agb,Kf hc]
 ·exact main _ (G8 (by unfold Fy;omega))
 ·refine main _ (G8 ?_)
  unfold Dt at hc;unfold Fy;omega
 ·refine main _ ?_
  rw[←Agc,Kg hc]
 ·refine main _ ?_
  unfold Dt at hc;rw[IntKind.wrap_u32'];omega
 ·refine main _ ?_
  rw[←Aga,Kg hc]
 ·exact main _ (G8 hc)
 ·refine main _ ?_
  rw[←Agd,Kh hc]
 ·refine main _ ?_
  rw[←Af9,Kh hc]
 ·refine main _ ?_
  unfold D6 at hc;rw[Kj];omega
end
end
end Go.Proofs.YtedaafmfjhjfmaaGreatDoor
