import Derived.WalkKit
import Derived.WalkLawsBesides
import Derived.Laws.Rows
import Derived.Laws.CopyOwn
import Derived.Laws.IdiomCopy
import Derived.Below
import Derived.Lib.Hide
import Derived.Outline
import Derived.StillTailTactics
import Derived.Deep.QuietTactic
import Derived.BigQuiet
import Derived.Deep.Cut
import Derived.RangeFuncNested
import Derived.Maps.AppendAt
import Derived.OwnWalk
import Derived.Laws.OwnMore
import Derived.Deep.Quiet
import Derived.ChangeKeysEq
import Derived.Laws.BytesArg
/- Base: M, Own, Mix, Eq, Apz, Bs, joined. -/
/- Words for memory: blocks known whole, byte and word arrays as values. No program in sight. -/
namespace Go.Proofs.YtedaafmfjhjfmaaGreatDoor
open Go.RowKit
section
def ix {α:Type} [Inhabited α] (l:List α) (i:Nat):α:=l.getD i default
def n8 (b:UInt8):Int:=b.toNat
def n32 (b:UInt32):Int:=b.toNat
def n64 (b:UInt64):Int:=b.toNat
abbrev vU8 (b:UInt8):Value:=.int .u8 (n8 b)
abbrev Ap (b:UInt32):Value:=.int .u32 (n32 b)
abbrev vU64 (b:UInt64):Value:=.int .u64 (n64 b)
def arr8 (l:List UInt8):Array Value:=(l.map vU8).toArray
def arr32 (l:List UInt32):Array Value:=(l.map Ap).toArray
def arr64 (l:List UInt64):Array Value:=(l.map vU64).toArray
@[simp] theorem arr8_size (l:List UInt8):(arr8 l).size=l.length:=by simp [arr8]
@[simp] theorem arr32_size (l:List UInt32):(arr32 l).size=l.length:=by simp [arr32]
@[simp] theorem arr64_size (l:List UInt64):(arr64 l).size=l.length:=by simp [arr64]
@[simp] theorem arr8_one (l:List UInt8):(arr8 l).all (·.oneCell')=true:=by simp [arr8,Value.oneCell']
@[simp] theorem arr32_one (l:List UInt32):(arr32 l).all (·.oneCell')=true:=by simp [arr32,Value.oneCell']
@[simp] theorem arr64_one (l:List UInt64):(arr64 l).all (·.oneCell')=true:=by simp [arr64,Value.oneCell']
theorem Tv (l:List UInt8) (i:Nat) (h:i < l.length):(arr8 l)[i]?=some (vU8 (ix l i)):=by
 simp [arr8,ix,List.getD_eq_getElem?_getD,List.getElem?_eq_getElem h]
theorem Af3 (l:List UInt32) (i:Nat) (h:i < l.length):(arr32 l)[i]?=some (Ap (ix l i)):=by
 simp [arr32,ix,List.getD_eq_getElem?_getD,List.getElem?_eq_getElem h]
theorem Af4 (l:List UInt64) (i:Nat) (h:i < l.length):(arr64 l)[i]?=some (vU64 (ix l i)):=by
 simp [arr64,ix,List.getD_eq_getElem?_getD,List.getElem?_eq_getElem h]
section
variable (x y:UInt32) (c d:UInt8) (z:UInt64)
theorem M6:x.toNat < 4294967296:=x.toNat_lt
theorem Lm:c.toNat < 256:=c.toNat_lt
theorem Tw:0≤n8 c∧n8 c≤255:=by have:=Lm c;unfold n8;omega
theorem Tx:0≤n32 x∧n32 x≤4294967295:=by have:=M6 x;unfold n32;omega
theorem Ty:0≤n64 z∧n64 z≤18446744073709551615:=by have:=z.toNat_lt;unfold n64;omega
theorem Po {c d:UInt8}:n8 c=n8 d↔c=d:=by
 unfold n8;rw[←UInt8.toNat_inj];omega
theorem Pp {c d:UInt32}:n32 c=n32 d↔c=d:=by
 unfold n32;rw[←UInt32.toNat_inj];omega
theorem Pq {c d:UInt64}:n64 c=n64 d↔c=d:=by
 unfold n64;rw[←UInt64.toNat_inj];omega
theorem Af5:IntKind.u32.wrap (n32 x+n32 y)=n32 (x+y):=by
 unfold n32;rw[IntKind.wrap_u32'];simp
theorem Af6:IntKind.u32.wrap (n32 x - n32 y)=n32 (x - y):=by
 have hx:=M6 x
 have hy:=M6 y
 unfold n32;rw[IntKind.wrap_u32',UInt32.toNat_sub];omega
theorem Af7:IntKind.u32.wrap (n32 x*n32 y)=n32 (x*y):=by
 unfold n32;rw[IntKind.wrap_u32'];simp
theorem Af8:IntKind.u32.wrap (n8 c)=n32 c.toUInt32:=by
 have hc:=Lm c
 unfold n32 n8;rw[IntKind.wrap_u32',UInt8.toNat_toUInt32];omega
theorem Af9:IntKind.u32.wrap (n64 z)=n32 z.toUInt32:=by
 unfold n32 n64;rw[IntKind.wrap_u32'];simp
theorem Aga:IntKind.u64.wrap (n32 x)=n64 x.toUInt64:=by
 have hx:=M6 x
 unfold n32 n64;rw[IntKind.wrap_u64,UInt32.toNat_toUInt64];omega
theorem Agb:IntKind.u64.wrap (n8 c)=n64 c.toUInt64:=by
 have hc:=Lm c
 unfold n8 n64;rw[IntKind.wrap_u64,UInt8.toNat_toUInt64];omega
theorem Agc:IntKind.u8.wrap (n32 x)=n8 x.toUInt8:=by
 unfold n8 n32;rw[IntKind.wrap_u8'];simp
theorem Agd:IntKind.u8.wrap (n64 z)=n8 z.toUInt8:=by
 unfold n8 n64;rw[IntKind.wrap_u8'];simp
theorem Age:IntKind.u8.wrap (n8 c)=n8 c:=IntWalk.u8_in _ (Tw c)
theorem Agf:IntKind.u32.wrap (n32 x)=n32 x:=IntWalk.u32_in _ (Tx x)
theorem Agg:IntKind.u64.wrap (n64 z)=n64 z:=IntWalk.u64_in _ (Ty z)
end
def Blk (w:World) (g:Nat) (t:TypeId) (cs:Array Value):Prop:=w.heap[g]?=some (.cells cs t (0,0))
section
variable {w w':World} {g:Nat} {t:TypeId} {cs:Array Value}
theorem Blk.lt (h:Blk w g t cs):g < w.heap.size:=by
 rcases Nat.lt_or_ge g w.heap.size with hlt|hge
 ·exact hlt
 ·unfold Blk at h;rw[Array.getElem?_eq_none hge] at h;cases h
theorem Blk.cell (h:Blk w g t cs) (i:Nat):w.cell? ⟨g,i,none⟩=cs[i]?:=cell_of_row w g i cs t (0,0) h
theorem Blk.frozen (h:Blk w g t cs) (i:Nat):w.frozen? ⟨g,i,none⟩=false:=frozen_of_row w g i cs t h
theorem Blk.new (w:World) (t:TypeId) (cs:Array Value):Blk (w.alloc (.cells cs t)) w.heap.size t cs:=heap_alloc_new w _
theorem Blk.drew (h:Blk w g t cs):Blk w.drew g t cs:=h
theorem Blk.alloc (h:Blk w g t cs) (o:Obj):Blk (w.alloc o) g t cs:=(Below.heap_alloc w o g h.lt).trans h
theorem Blk.set_ (h:Blk w g t cs) (i:Nat) (u:Value):Blk (w.setCell ⟨g,i,none⟩ u) g t (cs.setIfInBounds i u):=heap_setCell_same w g i cs t u h
theorem Blk.far (h:Blk w g t cs) {p:Addr} (hp:g≠p.block) (u:Value):Blk (w.setCell p u) g t cs:=(heap_setCell_other w p g u hp).trans h
theorem Blk.below {B:Nat} (h:Blk w g t cs) (hb:Below B w w') (hg:g < B):Blk w' g t cs:=(hb.block g hg).trans h
end
section
variable {P:Program} {w:World} {ops:Array Oper} {rest:List Oper} {o:Oper} {a:Act} {Q:Exit→Act→World→Prop}
end
section
variable {w w2:World} {g:Nat} {t:TypeId} {old cs:Array Value}
theorem Blk.setRow (h:Blk w g t old) (hw:w2=w.setRow g cs):Blk w2 g t cs:=by subst hw;exact setRow_heap w g old cs t (0,0) h
end
def Drawn (w w2:World):Prop:=∃n,w2=w.drewN n
theorem Drawn.refl (w:World):Drawn w w:=⟨0,rfl⟩
theorem Drawn.heap {w w2:World} (h:Drawn w w2):w2.heap=w.heap:=by obtain⟨n,rfl⟩:=h;rfl
theorem Drawn.trans {w w2 w3:World} (h:Drawn w w2) (h':Drawn w2 w3):Drawn w w3:=by
 obtain⟨n,rfl⟩:=h
 obtain⟨m,rfl⟩:=h'
 exact⟨n+m,by rw[World.drewN_drewN]⟩
theorem Drawn.below {w w2 w0:World} {B:Nat} (h:Drawn w w2) (hb:Below B w0 w):Below B w0 w2:=by
 obtain⟨n,rfl⟩:=h
 exact⟨hb.os,hb.tape,hb.output,hb.size,hb.block⟩
theorem Drawn.blk {w w2:World} {g:Nat} {t:TypeId} {cs:Array Value} (h:Drawn w w2) (hb:Blk w g t cs):Blk w2 g t cs:=by
 obtain⟨n,rfl⟩:=h
 exact hb
section
variable {P:Program} {w w2:World} {ops:Array Oper} {rest:List Oper} {o:Oper} {a:Act} {Q:Exit→Act→World→Prop} {v:Value}
end
section
variable {P:Program} {w:World} {o:Oper} {ρ:Operand→Value}
theorem X4 (ty:TypeId) (ad:Addr) (cs:List Value) (d:TypeDesc) (hu:P.underlying ty=some d) (hd:(match d with| .struct _| .array _ _=>true|_=>false)=true)
  (hi:(P.info? ty).map (·.size)=some cs.length) (h:∀j v,cs[j]?=some v→w.cell? (ad.add j)=some v):(loadVar ty ad).run P w=.ok (.agg cs.toArray) w:=by
 have hl:(loadCells ad cs.length).run P w=.ok cs.toArray w:=run_loadCells_list (P:=P) w ad cs h
 cases hq:P.info? ty with
 |none=>simp [hq] at hi
 |some i=>
  have hs:i.size=cs.length:=by simpa [hq] using hi
  have hagg:(isAgg ty).run P w=.ok true w:=by
   unfold isAgg
   rw[Sem.run_bind,run_underlying hu w]
   cases d<;>simp_all
  simp [loadVar,Sem.run_bind,hagg,sizeOf,typeInfo,hq,hs,hl]
end
theorem Blk.load {P:Program} {w:World} {g:Nat} {t:TypeId} {cs:Array Value} (hg:Blk w g t cs) (ty:TypeId) (n:Nat) (d:TypeDesc) (hu:P.underlying ty=some d) (hi:(P.info? ty).map (·.size)=some n) (hn:cs.size=n)
  (hd:(match d with| .struct _| .array _ _=>true|_=>false)=true):(loadVar ty ⟨g,0,none⟩).run P w=.ok (.agg cs) w:=
 run_loadVar_row w g t ty cs (0,0) d hg hu hd (by rw[hn];exact hi)
def RdV (w:World) (B:Nat) (A:Option Addr) (vs:List Value):Prop:=
 0 < vs.length→∃b off,A=some ⟨b,off,none⟩∧b < B∧∀j u,vs[j]?=some u→w.cell? ⟨b,off+j,none⟩=some u
section
variable {w w':World} {B B':Nat} {A:Option Addr} {vs:List Value}
theorem Bu (b off j:Nat):(⟨b,off,none⟩:Addr).add j=⟨b,off+j,none⟩:=by
 unfold Addr.add
 split
 ·subst_vars;rfl
 ·rfl
theorem RdV.nil_:RdV w B A []:=fun h=>absurd h (by simp)
theorem RdV.keep (h:RdV w B A vs) (hk:∀b,b < B→w'.heap[b]?=w.heap[b]?):RdV w' B A vs:=fun hp=>by
 obtain⟨b,off,hA,hb,hc⟩:=h hp
 exact⟨b,off,hA,hb,fun j u hu=>(World.cell?_of_block (hk b hb)).trans (hc j u hu)⟩
theorem RdV.below (h:RdV w B A vs) (hb:Below B w w'):RdV w' B A vs:=h.keep fun _ hk=>hb.block _ hk
theorem RdV.more (h:RdV w B A vs) (hB:B≤B'):RdV w B' A vs:=fun hp=>by
 obtain⟨b,off,hA,hb,hc⟩:=h hp
 exact⟨b,off,hA,by omega,hc⟩
theorem RdV.cut (h:RdV w B A vs) {k c:Nat} (hc:vs.length≤c):RdV w B (if c=k then A else A.map (·.add k)) (vs.drop k):=fun hp=>by
 have hk:k < vs.length:=by rw[List.length_drop] at hp;omega
 obtain⟨b,off,rfl,hb,hcc⟩:=h (by omega)
 rw[if_neg (by omega)]
 refine⟨b,off+k,by simp [Bu],hb,fun j u hu=>?_⟩
 rw[Nat.add_assoc]
 exact hcc _ u (by rw[←hu,List.getElem?_drop])
end
structure Keeps (own:Nat→Prop) (A B:World):Prop where
 os:B.os=A.os
 tape:B.tape=A.tape
 output:B.output=A.output
 size:A.heap.size≤B.heap.size
 block:∀k,k < A.heap.size→¬own k→B.heap[k]?=A.heap[k]?
section
variable {own own':Nat→Prop} {A B C:World}
theorem Keeps.refl (own:Nat→Prop) (A:World):Keeps own A A:=⟨rfl,rfl,rfl,Nat.le_refl _,fun _ _ _=>rfl⟩
theorem Keeps.trans (h:Keeps own A B) (k:Keeps own B C):Keeps own A C:=
 ⟨k.os.trans h.os,k.tape.trans h.tape,k.output.trans h.output,Nat.le_trans h.size k.size,fun i hi ho=>(k.block i (Nat.lt_of_lt_of_le hi h.size) ho).trans (h.block i hi ho)⟩
theorem Keeps.mono (h:Keeps own A B) (ho:∀k,own k→own' k):Keeps own' A B:=⟨h.os,h.tape,h.output,h.size,fun i hi hn=>h.block i hi (fun e=>hn (ho i e))⟩
theorem Keeps.of_below (h:Below A.heap.size A B):Keeps own A B:=⟨h.os,h.tape,h.output,h.size,fun k hk _=>h.block k hk⟩
theorem Keeps.setCell (A:World) (p:Addr) (v:Value) (hp:own p.block):Keeps own A (A.setCell p v):=
 ⟨rfl,rfl,rfl,by simp [World.setCell],fun k _ hn=>Below.heap_setCell A p v k (fun e=>hn (e▸hp))⟩
theorem Keeps.setRow {g:Nat} {cs:Array Value} (A:World) (hg:own g):Keeps own A (A.setRow g cs):=
 ⟨rfl,rfl,rfl,by simp,fun k _ hn=>setRow_other A g k cs (fun e=>hn (e▸hg))⟩
theorem Keeps.below {n:Nat} (h:Keeps own A B) (hn:n≤A.heap.size) (ho:∀k,own k→n≤k):Below n A B:=
 ⟨h.os,h.tape,h.output,h.size,fun k hk=>h.block k (by omega) (fun e=>by have:=ho k e;omega)⟩
theorem Keeps.blk {g:Nat} {t:TypeId} {cs:Array Value} (h:Keeps own A B) (hb:Blk A g t cs) (hg:¬own g):Blk B g t cs:=(h.block g hb.lt hg).trans hb
end
def z8 (n:Nat):Array Value:=arr8 (List.replicate n 0)
end
section
def Own (w:World) (base:Nat) (e:TypeId) (v:Value) (vs:List Value):Prop:=w.ownsRow base e 1 v vs.length vs
theorem X5 {w w':World} {row:Option Nat} (h:w.grownBy w' row):Keeps (fun k=>some k=row) w w':=
 ⟨h.os,h.tape,h.output,h.size,fun k hk hn=>h.block k hk hn⟩
section
variable {w w':World} {base:Nat} {e:TypeId} {v:Value} {vs:List Value} {own:Nat→Prop}
theorem Own.nil_ (w:World) (base:Nat) (e:TypeId):Own w base e (.slice none 0 0) []:=World.ownsRow_nil w base e 1
theorem Own.lt (h:Own w base e v vs):∀k,v.ownBlock=some k→base≤k∧k < w.heap.size:=World.ownsRow.lt h
theorem Own.keep (h:Own w base e v vs) (hk:Keeps own w w') (hn:∀k,v.ownBlock=some k→¬own k):Own w' base e v vs:=by
 unfold Own at*
 rcases h with ⟨h0,h1|⟨g,cap,cur,rfl,hb,hh,r⟩⟩
 ·exact⟨h0,.inl h1⟩
 ·refine⟨h0,.inr ⟨g,cap,cur,rfl,hb,?_,r⟩⟩
  have hlt:g < w.heap.size:=(Array.getElem?_eq_some_iff.1 hh).1
  exact (hk.block g hlt (hn g rfl)).trans hh
theorem Own.below {B:Nat} (h:Own w base e v vs) (hb:Below B w w') (hB:∀k,v.ownBlock=some k→k < B):Own w' base e v vs:=
 h.keep (own:=fun k=>B≤k) ⟨hb.os,hb.tape,hb.output,hb.size,fun k _ hn=>hb.block k (by omega)⟩ (fun k hk h=>by have:=hB k hk;omega)
theorem Own.later (h:Own w base e v vs) (hb:Below w.heap.size w w'):Own w' base e v vs:=h.below hb (fun k hk=>(h.lt k hk).2)
theorem Own.drawn (h:Own w base e v vs) (hd:Drawn w w'):Own w' base e v vs:=by obtain⟨n,rfl⟩:=hd;exact h
theorem Own.rd (h:Own w base e v vs):∃A c,v=.slice A vs.length c∧vs.length≤c∧c≤maxLen∧RdV w w.heap.size A vs∧∀b,A=some b→b.spot=none∧b.off=0∧base≤b.block∧v.ownBlock=some b.block:=by
 have h':=h
 rcases h with ⟨h0,⟨rfl,h1⟩|⟨g,cap,cur,rfl,hb,hh,hnc,hc,hs,ht⟩⟩
 ·have:vs=[]:=List.eq_nil_of_length_eq_zero h1
  subst this
  exact⟨none,0,rfl,by simp,by simp,RdV.nil_,fun b hb=>by cases hb⟩
 ·have hlt:g < w.heap.size:=(Array.getElem?_eq_some_iff.1 hh).1
  refine⟨some ⟨g,0,none⟩,cap,rfl,hnc,hc,fun _=>⟨g,0,rfl,hlt,fun j u hu=>?_⟩,fun b hb'=>by cases hb';exact⟨rfl,rfl,hb,rfl⟩⟩
  have:=World.ownsRow.cells h' (g:=g) rfl j u hu
  rwa [Bu] at this
end
theorem Agh {P:Program} (w:World) (base:Nat) (t e:TypeId) (bytes:Nat) (ht:P.underlying t=some (.slice e)) (z:Value) (hz:z.cells.size=1)
  (hinfo:(P.info? e).map (fun i=>(i.zero,i.size,i.bytes))=some (some z,1,bytes))
  (v:Value) (vs:List Value) (hown:Own w base e v vs) (A:Option Addr) (m c B:Nat) (news:List Value) (hR:RdV w B A news) (hm:news.length=m) (h1:∀u∈news,u.oneCell'=true)
  (h63:vs.length+m≤maxLen) (hbytes:(vs.length+m)*bytes≤140737488355328) (hbase:base≤w.heap.size):
  ∃v' w',(∀ty,(Builtin.append_ #[t,t] ty #[v,.slice A m c]).run P w=.ok v' w')∧Own w' base e v' (vs++news)∧Keeps (fun k=>v.ownBlock=some k) w w'∧
   (v'.ownBlock=v.ownBlock∨v'.ownBlock=some w.heap.size):=by
 obtain⟨i,hi,hz0,hz1,hz2⟩:=info_parts hinfo
 by_cases hm0:m=0
 ·subst hm0
  obtain rfl:news=[]:=List.eq_nil_of_length_eq_zero hm
  refine⟨v,w,fun ty=>?_,by simpa using hown,Keeps.refl _ _,.inl rfl⟩
  have hl:∀(x:Addr),(loadCells x 0).run P w=.ok #[] w:=fun x=>by simpa using run_loadCells_list (P:=P) w x [] (by simp)
  rcases hown.2 with ⟨rfl,_⟩|⟨g,cap,cur,rfl,_,_,hnc,_⟩
  ·cases A<;>simp [Builtin.append_,run_underlying ht,sizeOf,typeInfo,hi,Builtin.lenOf,Builtin.firstCells,hl]
  ·cases A<;>simp [Builtin.append_,run_underlying ht,sizeOf,typeInfo,hi,hz1,Builtin.lenOf,Builtin.firstCells,hl,hnc,storeCells]
 ·obtain⟨b,off,rfl,_,hc⟩:=hR (by omega)
  obtain⟨v',w',hrun,h2,h3,h4,h5⟩:=run_append_own_at (P:=P) w base t 0 e i z 1 bytes ht hi hz0 hz1 hz2 hz (by decide) v vs.length vs hown ⟨b,off,none⟩ m c news (by omega)
   (fun j u hu=>by rw[Bu];exact hc j u hu) h1 h63 hbytes hbase
  refine⟨v',w',fun ty=>hrun,?_,?_,h5⟩
  ·unfold Own
   rw[List.length_append,hm]
   exact h2
  ·exact (X5 h3).mono (fun k h=>h.symm)
theorem Tz {P:Program} {w:World} {o:Oper} {ρ:Operand→Value} (s x:Operand) (t:TypeId) (ho:o.op=.call {callee:=.builtin .append,args:=#[s,x],argTypes:=#[t,t]}) (vs vx:Value) (hs:ρ s=vs) (hx:ρ x=vx) (r:Value) (w2:World)
  (h:(Builtin.append_ #[t,t] o.type #[vs,vx]).run P w=.ok r w2):(execOp ρ o).run P w=.ok (.value r) w2:=by
 simp [execOp,ho,resolve,invoke,builtin,hs,hx,h,Result.andThen]
end
section
def Hi (P:Program) (o:Oper) (a:Act) (w:World) (v:Value):Prop:=Oper.quietUpon P (fun x=>x=w) w v ((execOp a.eval o).run P w)
def NoQ:Exit→Act→World→Prop:=fun _ _ _=>False
section
variable {P:Program} {ops:Array Oper} {md:Region.Mode}
def YieldsR (P:Program) (ops:Array Oper) (C:World→Prop) (o:Oper) (v:Value) (a:Act):Prop:=
 (Region.wanted o (yielded ops a.tmps)=true∧∀w,C w→Hi P o a w v)∨(Region.wanted o (yielded ops a.tmps)=false∧v=undef)
def mOp (P:Program) (ops:Array Oper) (i:Nat) (C:World→Prop) (K:(World→Prop)→Act→World→Prop) (a:Act) (w:World):Prop:=
 match ops[i]? with
 |none=>K C a w
 |some o=>if Region.wanted o (yielded ops a.tmps) then o.wp P a w (fun a' w'=>∃C2:World→Prop,C2 w'∧(∀x,C2 x→C x)∧K C2 a' w') NoQ else K C (a.put o.dst undef) w
theorem X6:¬LetsOut NoQ:=fun⟨_,_,h⟩=>h
theorem Ig {o:Oper} {a:Act} {w:World} {K K':Act→World→Prop} {Q':Exit→Act→World→Prop} (h:∀a w,K a w→K' a w) (hh:o.wp P a w K NoQ):o.wp P a w K' Q':=by
 unfold Oper.wp at*
 generalize (execOp a.eval o).run P w=r at*
 cases r with
 |ok n w'=>
  cases n<;>simp only[Oper.upon] at hh ⊢
  case value u=>exact h _ _ hh
  case skip=>exact h _ _ hh
  case defer d=>exact h _ _ hh
  case enter f args=>
   refine hh.mono fun e w'' he=>?_
   cases e with
   |returned v=>exact h _ _ he
   |panicked c=>exact he.elim
   |outgrown=>exact (X6 he).elim
  case row row args=>exact hh.mono fun v w'' he=>h _ _ he
 |halt x w'=>cases x<;>simp only[Oper.upon] at hh ⊢<;>exact hh.elim
theorem X7 {i:Nat} {C:World→Prop} {K K':(World→Prop)→Act→World→Prop} {a:Act} {w:World} (h:∀C a w,K C a w→K' C a w) (hh:mOp P ops i C K a w):mOp P ops i C K' a w:=by
 unfold mOp at*
 split
 ·rename_i ho;simp only[ho] at hh;exact h _ _ _ hh
 ·rename_i o ho
  simp only[ho] at hh
  split
  ·rename_i hw;simp only[hw,if_true] at hh;exact Ig (fun a w ⟨C2,h1,h2,h3⟩=>⟨C2,h1,h2,h _ _ _ h3⟩) hh
  ·rename_i hw;simp only[hw] at hh;exact h _ _ _ hh
theorem Agi {o:Oper} {a:Act} {w:World} {v:Value} {K:Act→World→Prop} {Q':Exit→Act→World→Prop} (h1:Hi P o a w v) (h:K (a.put o.dst v) w):o.wp P a w K Q':=by
 unfold Hi at h1
 unfold Oper.wp
 generalize (execOp a.eval o).run P w=r at*
 cases r with
 |ok n w'=>
  cases n<;>simp only[Oper.quietUpon] at h1<;>simp only[Oper.upon]
  case value u=>obtain⟨rfl,rfl⟩:=h1;exact h
  case skip=>obtain⟨rfl,rfl⟩:=h1;exact h
  case enter f args=>
   obtain⟨e1,hc⟩:=h1
   rw[e1]
   exact hc.mono fun e w'' ⟨he,hw''⟩=>by subst he;subst hw'';exact h
 |halt x w'=>simp only[Oper.quietUpon] at h1
theorem YieldsR.mOp {i:Nat} {o:Oper} {v:Value} {a:Act} {w:World} {C:World→Prop} (hi:ops[i]?=some o) (hC:C w) (hy:YieldsR P ops C o v a) {K:(World→Prop)→Act→World→Prop} (h:K C (a.put o.dst v) w):mOp P ops i C K a w:=by
 unfold Go.Proofs.YtedaafmfjhjfmaaGreatDoor.mOp
 simp only[hi]
 rcases hy with ⟨hw,hv⟩|⟨hw,rfl⟩
 ·simp only[hw,if_true];exact Agi (hv w hC) ⟨C,hC,fun _ h=>h,h⟩
 ·simp only[hw,Bool.false_eq_true,if_false];exact h
theorem YieldsR.of_same {o:Oper} {v:Value} {a a':Act} {C C':World→Prop} (hy:YieldsR P ops C o v a) (hC:∀x,C' x→C x) (he:execOp a'.eval o=execOp a.eval o)
  (hw:Region.wanted o (yielded ops a'.tmps)=Region.wanted o (yielded ops a.tmps)):YieldsR P ops C' o v a':=by
 unfold YieldsR Hi at*
 rw[he,hw]
 exact hy.imp (fun h=>⟨h.1,fun w hw'=>h.2 w (hC w hw')⟩) id
theorem Agj (a:Act) (d:List Deferred):({a with defers:=d}:Act).eval=a.eval:=by funext x;cases x<;>rfl
theorem X8 {j:Nat} {oi oj:Oper} {v:Value} (hj:ops[j]?=some oj) (hap:oi.apart ops oj=true)
  (hsi:∀cs b,oi.op≠ .select cs b) (hsj:∀cs b,oj.op≠ .select cs b) {C:World→Prop} {K:(World→Prop)→Act→World→Prop} {a:Act} {w:World} (hC:C w)
  (hy:YieldsR P ops C oi v a) (h:mOp P ops j C K (a.put oi.dst v) w):
  mOp P ops j C (fun C2 a' w'=>C2 w'∧YieldsR P ops C2 oi v a'∧K C2 (a'.put oi.dst v) w') a w:=by
 obtain⟨h1,h2,h3⟩:=Oper.apart_spec hap
 have keep:∀(C2:World→Prop),(∀x,C2 x→C x)→∀u,YieldsR P ops C2 oi v (a.put oj.dst u):=fun C2 hC2 u=>
  hy.of_same hC2 (execOp_put oi hsi a oj.dst u h3) (wanted_put oi a oj.dst u h3)
 unfold mOp at*
 simp only[hj] at*
 rw[wanted_put oj a oi.dst v h1] at h
 split
 ·rename_i hw
  simp only[hw,if_true] at h
  unfold Oper.wp at*
  rw[execOp_put oj hsj a oi.dst v h1] at h
  generalize (execOp a.eval oj).run P w=r at*
  have one:∀u w',(∃C2:World→Prop,C2 w'∧(∀x,C2 x→C x)∧K C2 ((a.put oi.dst v).put oj.dst u) w')→
    ∃C2:World→Prop,C2 w'∧(∀x,C2 x→C x)∧(C2 w'∧YieldsR P ops C2 oi v (a.put oj.dst u)∧K C2 ((a.put oj.dst u).put oi.dst v) w'):=by
   rintro u w' ⟨C2,c1,c2,hk⟩
   exact⟨C2,c1,c2,c1,keep C2 c2 u,by rw[←Act.put_comm a v u h2];exact hk⟩
  cases r with
  |ok n w'=>
   cases n<;>simp only[Oper.upon] at h ⊢
   case value u=>exact one u w' h
   case skip=>exact one undef w' h
   case defer d=>
    obtain⟨C2,c1,c2,hk⟩:=h
    refine⟨C2,c1,c2,c1,?_,?_⟩
    ·have hy2:YieldsR P ops C oi v {a with defers:=d::a.defers}:=hy.of_same (fun _ h=>h) (by rw[Agj]) rfl
     exact hy2.of_same c2 (execOp_put oi hsi _ oj.dst undef h3) (wanted_put oi _ oj.dst undef h3)
    ·have e:({a.put oi.dst v with defers:=d::(a.put oi.dst v).defers}:Act)=({a with defers:=d::a.defers}:Act).put oi.dst v:=by
      cases oi.dst<;>rfl
     rw[e,Act.put_comm _ v undef h2] at hk
     exact hk
   case enter f args=>
    refine h.mono fun e w'' he=>?_
    cases e with
    |returned u=>exact one u w'' he
    |panicked c=>exact he.elim
    |outgrown=>exact (X6 he).elim
   case row row args=>exact h.mono fun u w'' he=>one u w'' he
  |halt x w'=>cases x<;>simp only[Oper.upon] at h ⊢<;>exact h.elim
 ·rename_i hw
  simp only[hw] at h
  exact⟨hC,keep C (fun _ h=>h) _,by rw[←Act.put_comm a v undef h2];exact h⟩
def M7 (P:Program) (md:Region.Mode) (ops:Array Oper) (Q:Act→World→Prop):Nat→Array Bool→(World→Prop)→Act→World→Prop
 |0,listed,_,a,w=>Region.ready md ops listed=[]∧Q a w
 |f+1,listed,C,a,w=>Region.ready md ops listed≠[]∧∀i∈Region.ready md ops listed,mOp P ops i C (M7 P md ops Q f (listed.setIfInBounds i true)) a w
theorem Ps {Q:Act→World→Prop} {Q':Exit→Act→World→Prop} (hQ:∀a w,Q a w→Q' .normal a w):∀(f:Nat) (listed:Array Bool) (C:World→Prop) (a:Act) (w:World),
  M7 P md ops Q f listed C a w→wpAny P md ops Q' f listed a w
 |0,_,_,_,_,h=>⟨h.1,hQ _ _ h.2⟩
 |f+1,listed,C,a,w,h=>by
  refine⟨fun h0=>absurd h0 h.1,fun i hi=>?_⟩
  have hm:=h.2 i hi
  unfold mOp at hm
  unfold wpOp
  split
  ·rename_i ho;simp only[ho] at hm;exact Ps hQ f _ _ _ _ hm
  ·rename_i o ho
   simp only[ho] at hm
   split
   ·rename_i hw;simp only[hw,if_true] at hm;exact .inl (Ig (fun a w ⟨C2,_,_,h3⟩=>Ps hQ f _ _ _ _ h3) hm)
   ·rename_i hw;simp only[hw] at hm;exact Ps hQ f _ _ _ _ hm
theorem Agk {Q:Act→World→Prop} {i:Nat} {oi:Oper} {v:Value} (hi:ops[i]?=some oi) (hsel:∀(j:Nat) (o:Oper) cs b,ops[j]?=some o→o.op≠ .select cs b):
  ∀(f:Nat) (listed:Array Bool) (C:World→Prop) (a:Act) (w:World),
   (∀j oj,ops[j]?=some oj→j≠i→listed.getD j true=false→(∀e∈oj.after,Region.binds md e=true→e.on≠i)→oi.apart ops oj=true)→
   i∈Region.ready md ops listed→C w→YieldsR P ops C oi v a→
   M7 P md ops Q f (listed.setIfInBounds i true) C (a.put oi.dst v) w→M7 P md ops Q (f+1) listed C a w:=by
 intro f
 induction f with
 |zero=>
  intro listed C a w _ hr hC hy H
  refine⟨fun h=>(by rw[h] at hr;cases hr),fun j hj=>?_⟩
  by_cases hji:j=i
  ·subst hji;exact hy.mOp hi hC H
  ·have:=ready_mono hj hji
   rw[H.1] at this
   cases this
 |succ f ih=>
  intro listed C a w hfree hr hC hy H
  refine⟨fun h=>(by rw[h] at hr;cases hr),fun j hj=>?_⟩
  by_cases hji:j=i
  ·subst hji;exact hy.mOp hi hC H
  ·have h1:=H.2 j (ready_mono hj hji)
   obtain⟨hjun,oj,hoj,hall⟩:=mem_ready.1 hj
   have hnot:∀e∈oj.after,Region.binds md e=true→e.on≠i:=fun e he hb heq=>by
    have h1:=hall e he hb
    have h0:=(mem_ready.1 hr).1
    rw[heq,getD_both h0] at h1
    cases h1
   have h2:=X8 hoj (hfree j oj hoj hji hjun hnot) (fun cs b=>hsel i oi cs b hi) (fun cs b=>hsel j oj cs b hoj) hC hy h1
   have hfree':∀k ok,ops[k]?=some ok→k≠i→(listed.setIfInBounds j true).getD k true=false→
     (∀e∈ok.after,Region.binds md e=true→e.on≠i)→oi.apart ops ok=true:=fun k ok hk hki hun hno=>by
    refine hfree k ok hk hki ?_ hno
    by_cases hjk:j=k
    ·subst hjk;exact hjun
    ·rw[getD_set_ne true hjk] at hun;exact hun
   refine X7 (fun C2 a' w' h3=>ih (listed.setIfInBounds j true) C2 a' w' hfree' (ready_mono hr (Ne.symm hji)) h3.1 h3.2.1 ?_) h2
   rw[Array.setIfInBounds_comm _ _ hji]
   exact h3.2.2
def Ca (P:Program) (ops:Array Oper) (Q:Act→World→Prop):List (Nat×Bool)→(World→Prop)→Act→World→Prop
 |[],_,a,w=>Q a w
 |(i,rd)::rest,C,a,w=>
  match ops[i]? with
  |none=>False
  |some o=>
   if Region.wanted o (yielded ops a.tmps) then
    if rd then ∃v,(∀x,C x→Hi P o a x v)∧Ca P ops Q rest C (a.put o.dst v) w
    else o.wp P a w (fun a' w'=>∃C2:World→Prop,C2 w'∧(∀x,C2 x→C x)∧Ca P ops Q rest C2 a' w') NoQ
   else Ca P ops Q rest C (a.put o.dst undef) w
def Ih (md:Region.Mode) (ops:Array Oper):List (Nat×Bool)→Array Bool→Bool
 |[],listed=>(Region.ready md ops listed).isEmpty
 |(i,true)::r,listed=>(Region.ready md ops listed).contains i&&Region.free md ops listed i&&Ih md ops r (listed.setIfInBounds i true)
 |(i,false)::r,listed=>decide (Region.ready md ops listed=[i])&&Ih md ops r (listed.setIfInBounds i true)
theorem Pt {Q:Act→World→Prop} (hs:Region.noSelect ops=true):∀(l:List (Nat×Bool)) (listed:Array Bool) (C:World→Prop) (a:Act) (w:World),C w→
  Ih md ops l listed=true→Ca P ops Q l C a w→M7 P md ops Q l.length listed C a w
 |[],_,_,_,_,_,hB,h=>⟨by simpa [Ih] using hB,h⟩
 |(i,true)::l,listed,C,a,w,hC,hB,h=>by
  simp only[Ih,Bool.and_eq_true] at hB
  obtain⟨⟨hr,hf⟩,hB'⟩:=hB
  have hr':i∈Region.ready md ops listed:=by simpa using hr
  obtain⟨_,o,ho,_⟩:=mem_ready.1 hr'
  simp only[Ca,ho] at h
  have hv:∃v,YieldsR P ops C o v a∧Ca P ops Q l C (a.put o.dst v) w:=by
   by_cases hw:Region.wanted o (yielded ops a.tmps)=true
   ·simp only[hw,if_true] at h
    obtain⟨v,h1,h2⟩:=h
    exact⟨v,.inl ⟨hw,h1⟩,h2⟩
   ·simp only[hw] at h
    exact⟨undef,.inr ⟨by simpa using hw,rfl⟩,h⟩
  obtain⟨v,hy,hK⟩:=hv
  exact Agk ho (Region.noSelect_spec hs) l.length listed C a w (Region.free_spec ho hf) hr' hC hy (Pt hs l _ C _ w hC hB' hK)
 |(i,false)::l,listed,C,a,w,hC,hB,h=>by
  simp only[Ih,Bool.and_eq_true,decide_eq_true_eq] at hB
  refine⟨fun h0=>(by rw[hB.1] at h0;cases h0),fun j hj=>?_⟩
  rw[hB.1] at hj
  have hji:j=i:=by simpa using hj
  subst hji
  unfold mOp
  simp only[Ca] at h
  split
  ·rename_i ho;simp only[ho] at h
  ·rename_i o ho
   simp only[ho] at h
   split
   ·rename_i hw;simp only[hw,if_true,Bool.false_eq_true,if_false] at h;exact Ig (fun a w ⟨C2,h1,h2,h3⟩=>⟨C2,h1,h2,Pt hs l _ C2 _ w h1 hB.2 h3⟩) h
   ·rename_i hw;simp only[hw] at h;exact Pt hs l _ C _ w hC hB.2 h
theorem X9 {id:Nat} {Q:Exit→Act→World→Prop} {a:Act} {w:World} {l:List Oper} (p:List (Nat×Bool)) (hm:P.follows .mixedOrders=true) (hs:Region.noSelect l.toArray=true) (hp:p.length=l.length)
  (hB:Ih .any l.toArray p (Array.replicate l.length false)=true) (C:World→Prop)
  (h:∀w2:World,Hid (Drawn w w2)→C w2∧Ca P l.toArray (fun a' w'=>Q .normal a' w') p C a w2):(Code.region id l.toArray true).wp P Q a w:=by
 refine wp_region_any hm ?_
 obtain⟨h1,h2⟩:=h {w with drawn:=w.drawn+1} (Lib.hid ⟨1,rfl⟩)
 have:=Ps (Q':=Q) (fun _ _ h=>h) _ _ _ _ _ (Pt (md:=.any) hs p _ C a _ h1 hB h2)
 rw[hp] at this
 simpa using this
def Gz (P:Program) (md:Region.Mode) (ops:Array Oper) (n:Nat) (L:Array Bool→Act→World→Prop):Nat→Array Bool→(World→Prop)→Act→World→Prop
 |0,listed,_,a,w=>L listed a w
 |f+1,listed,C,a,w=>Region.ready md ops listed≠[]∧∀i∈Region.ready md ops listed,i < n∧mOp P ops i C (Gz P md ops n L f (listed.setIfInBounds i true)) a w
theorem Ln {n g:Nat} {L:Array Bool→Act→World→Prop} {Q':Exit→Act→World→Prop} (hL:∀listed a w,L listed a w→wpAny P md ops Q' g listed a w):∀(f:Nat) (listed:Array Bool) (C:World→Prop) (a:Act) (w:World),
  Gz P md ops n L f listed C a w→wpAny P md ops Q' (f+g) listed a w
 |0,_,_,_,_,h=>by rw[Nat.zero_add];exact hL _ _ _ h
 |f+1,listed,C,a,w,h=>by
  rw[show f+1+g=(f+g)+1 by omega]
  refine⟨fun h0=>absurd h0 h.1,fun i hi=>?_⟩
  have hm:=(h.2 i hi).2
  unfold mOp at hm
  unfold wpOp
  split
  ·rename_i ho;simp only[ho] at hm;exact Ln hL f _ _ _ _ hm
  ·rename_i o ho
   simp only[ho] at hm
   split
   ·rename_i hw;simp only[hw,if_true] at hm;exact .inl (Ig (fun a w ⟨C2,_,_,h3⟩=>Ln hL f _ _ _ _ h3) hm)
   ·rename_i hw;simp only[hw] at hm;exact Ln hL f _ _ _ _ hm
theorem T0 {n i:Nat} {oi:Oper} {v:Value} {L:Array Bool→Act→World→Prop} (hi:ops[i]?=some oi) (hsel:∀(j:Nat) (o:Oper) cs b,ops[j]?=some o→o.op≠ .select cs b)
  (hs:Region.sinkB md ops n=true) (hc:Region.chainB md ops n=true) (hn:n < ops.size) (hin:i < n) (hdone:∀listed a w,L listed a w→∀j∈Region.ready md ops listed,n≤j):
  ∀(f:Nat) (listed:Array Bool) (C:World→Prop) (a:Act) (w:World),HeadInv md ops n listed→
   (∀j oj,ops[j]?=some oj→j≠i→listed.getD j true=false→(∀e∈oj.after,Region.binds md e=true→e.on≠i)→oi.apart ops oj=true)→
   i∈Region.ready md ops listed→C w→YieldsR P ops C oi v a→
   Gz P md ops n L f (listed.setIfInBounds i true) C (a.put oi.dst v) w→Gz P md ops n L (f+1) listed C a w:=by
 intro f
 induction f with
 |zero=>
  intro listed C a w inv _ hr hC hy H
  have hun:=(mem_ready.1 hr).1
  refine⟨fun h=>(by rw[h] at hr;cases hr),fun j hj=>?_⟩
  have hjn:j < n:=by
   rcases Nat.lt_or_ge j n with h|h
   ·exact h
   ·exact absurd hj (tail_waits hs hc hn inv _ i rfl hin hun j h)
  refine⟨hjn,?_⟩
  by_cases hji:j=i
  ·subst hji;exact hy.mOp hi hC H
  ·have:=hdone _ _ _ H j (ready_mono hj hji)
   omega
 |succ f ih=>
  intro listed C a w inv hfree hr hC hy H
  have hun:=(mem_ready.1 hr).1
  refine⟨fun h=>(by rw[h] at hr;cases hr),fun j hj=>?_⟩
  have hjn:j < n:=by
   rcases Nat.lt_or_ge j n with h|h
   ·exact h
   ·exact absurd hj (tail_waits hs hc hn inv _ i rfl hin hun j h)
  refine⟨hjn,?_⟩
  by_cases hji:j=i
  ·subst hji;exact hy.mOp hi hC H
  ·have h1:=(H.2 j (ready_mono hj hji)).2
   obtain⟨hjun,oj,hoj,hall⟩:=mem_ready.1 hj
   have hnot:∀e∈oj.after,Region.binds md e=true→e.on≠i:=fun e he hb heq=>by
    have h1:=hall e he hb
    rw[heq,getD_both hun] at h1
    cases h1
   have h2:=X8 hoj (hfree j oj hoj hji hjun hnot) (fun cs b=>hsel i oi cs b hi) (fun cs b=>hsel j oj cs b hoj) hC hy h1
   have hfree':∀k ok,ops[k]?=some ok→k≠i→(listed.setIfInBounds j true).getD k true=false→
     (∀e∈ok.after,Region.binds md e=true→e.on≠i)→oi.apart ops ok=true:=fun k ok hk hki hun hno=>by
    refine hfree k ok hk hki ?_ hno
    by_cases hjk:j=k
    ·subst hjk;exact hjun
    ·rw[getD_set_ne true hjk] at hun;exact hun
   refine X7 (fun C2 a' w' h3=>ih (listed.setIfInBounds j true) C2 a' w' (inv.set hj hjn) hfree' (ready_mono hr (Ne.symm hji)) h3.1 h3.2.1 ?_) h2
   rw[Array.setIfInBounds_comm _ _ hji]
   exact h3.2.2
def J7 (md:Region.Mode) (ops:Array Oper) (n g:Nat):List (Nat×Bool)→Array Bool→Bool
 |[],listed=>Region.seqB md ops g n listed
 |(i,true)::r,listed=>decide (i < n)&&(Region.ready md ops listed).contains i&&Region.free md ops listed i&&J7 md ops n g r (listed.setIfInBounds i true)
 |(i,false)::r,listed=>decide (i < n)&&decide (Region.ready md ops listed=[i])&&J7 md ops n g r (listed.setIfInBounds i true)
theorem Pu {n g:Nat} {Q:Act→World→Prop} (hsel:Region.noSelect ops=true) (hs:Region.sinkB md ops n=true) (hc:Region.chainB md ops n=true) (hn:n < ops.size):
  ∀(l:List (Nat×Bool)) (listed:Array Bool) (C:World→Prop) (a:Act) (w:World),C w→HeadInv md ops n listed→
  J7 md ops n g l listed=true→Ca P ops Q l C a w→Gz P md ops n (fun listed' a' w'=>Region.seqB md ops g n listed'=true∧Q a' w') l.length listed C a w
 |[],_,_,_,_,_,_,hB,h=>⟨by simpa [J7] using hB,h⟩
 |(i,true)::l,listed,C,a,w,hC,inv,hB,h=>by
  simp only[J7,Bool.and_eq_true,decide_eq_true_eq] at hB
  obtain⟨⟨⟨hin,hr⟩,hf⟩,hB'⟩:=hB
  have hr':i∈Region.ready md ops listed:=by simpa using hr
  obtain⟨_,o,ho,_⟩:=mem_ready.1 hr'
  simp only[Ca,ho] at h
  have hv:∃v,YieldsR P ops C o v a∧Ca P ops Q l C (a.put o.dst v) w:=by
   by_cases hw:Region.wanted o (yielded ops a.tmps)=true
   ·simp only[hw,if_true] at h
    obtain⟨v,h1,h2⟩:=h
    exact⟨v,.inl ⟨hw,h1⟩,h2⟩
   ·simp only[hw] at h
    exact⟨undef,.inr ⟨by simpa using hw,rfl⟩,h⟩
  obtain⟨v,hy,hK⟩:=hv
  exact T0 ho (Region.noSelect_spec hsel) hs hc hn hin (fun listed' a' w' hL=>seqB_ready hL.1) l.length listed C a w inv (Region.free_spec ho hf) hr' hC hy
   (Pu hsel hs hc hn l _ C _ w hC (inv.set hr' hin) hB' hK)
 |(i,false)::l,listed,C,a,w,hC,inv,hB,h=>by
  simp only[J7,Bool.and_eq_true,decide_eq_true_eq] at hB
  obtain⟨⟨hin,hrd⟩,hB'⟩:=hB
  have hr':i∈Region.ready md ops listed:=by rw[hrd];simp
  refine⟨fun h0=>(by rw[hrd] at h0;cases h0),fun j hj=>?_⟩
  rw[hrd] at hj
  have hji:j=i:=by simpa using hj
  subst hji
  refine⟨hin,?_⟩
  unfold mOp
  simp only[Ca] at h
  split
  ·rename_i ho;simp only[ho] at h
  ·rename_i o ho
   simp only[ho] at h
   split
   ·rename_i hw;simp only[hw,if_true,Bool.false_eq_true,if_false] at h;exact Ig (fun a w ⟨C2,h1,h2,h3⟩=>⟨C2,h1,h2,Pu hsel hs hc hn l _ C2 _ w h1 (inv.set hr' hin) hB' h3⟩) h
   ·rename_i hw;simp only[hw] at h;exact Pu hsel hs hc hn l _ C _ w hC (inv.set hr' hin) hB' h
def T1 (md:Region.Mode) (ops:Array Oper) (n:Nat) (p:List (Nat×Bool)):Bool:=
 Region.noSelect ops&&decide (n < ops.size)&&Region.sinkB md ops n&&Region.chainB md ops n&&decide (p.length=n)&&J7 md ops n (ops.size - n) p (Array.replicate ops.size false)
theorem Agl {id:Nat} {Q:Exit→Act→World→Prop} {a:Act} {w:World} {l:List Oper} (n:Nat) (p:List (Nat×Bool)) (hm:P.follows .mixedOrders=true) (hB:T1 .any l.toArray n p=true) (C:World→Prop)
  (h:∀w2:World,Hid (Drawn w w2)→C w2∧Ca P l.toArray (fun a' w'=>wpList P l.toArray Q (l.drop n) a' w') p C a w2):(Code.region id l.toArray true).wp P Q a w:=by
 simp only[T1,Bool.and_eq_true,decide_eq_true_eq] at hB
 obtain⟨⟨⟨⟨⟨hsel,hn⟩,hs⟩,hc⟩,hpn⟩,hmix⟩:=hB
 have hn':n < l.length:=by simpa using hn
 have hdl:(l.drop n).length=l.toArray.size - n:=by simp
 have inv0:HeadInv .any l.toArray n (Array.replicate l.toArray.size false):=
  ⟨by simp,fun j oj _ hl=>(by rw[getD_replicate_false] at hl;cases hl),fun t _ ht=>getD_in (by simpa using ht) (getD_replicate_false _ _)⟩
 refine wp_region_any hm ?_
 obtain⟨h1,h2⟩:=h {w with drawn:=w.drawn+1} (Lib.hid ⟨1,rfl⟩)
 have H:=Pu (md:=.any) (g:=l.toArray.size - n) hsel hs hc hn p _ C a _ h1 inv0 hmix h2
 have:=Ln (Q':=Q) (g:=l.toArray.size - n) (fun listed a' w' hL=>by
  have:=wpAny_of_seq (md:=.any) (Q':=Q) (l.drop n) n listed a' w' (fun j=>by simp [List.getElem?_drop]) (by rw[hdl];exact hL.1) hL.2
  rwa [hdl] at this) _ _ _ _ _ H
 rw[hpn,show n+(l.toArray.size - n)=l.toArray.size by omega] at this
 exact this
end
end
section
section
variable {P:Program} (w:World)
theorem T2 (d:Nat) (e:TypeId) (k:IntKind) (he:P.underlying e=some (.int k)) (hp:P.plainKey e=true) (xs ys:Array Value) (f g:Nat→Int):
  ∀is:List Nat,(∀i∈is,xs[i]?=some (.int k (f i))∧ys[i]?=some (.int k (g i)))→(Op.eqItems (d+1) e 1 xs ys is).run P w=.ok (is.all fun i=>f i==g i) w
 |[],_=>by simp [Op.eqItems]
 |i::is,h=>by
  obtain⟨hx,hy⟩:=h i (by simp)
  have ih:=T2 d e k he hp xs ys f g is (fun j hj=>h j (by simp [hj]))
  simp only[Op.eqItems,Sem.run_bind,Nat.mul_one,run_part_plain w hp hx,run_part_plain w hp hy,Result.andThen_ok,run_equalIn_int w d e k k _ _ he,List.all_cons]
  cases hq:(f i==g i)
  ·simp
  ·simpa using ih
theorem Agm (d:Nat) {t e:TypeId} {n:Nat} (ht:P.underlying t=some (.array n e)) (he:P.underlying e=some (.int .u8)) (hs:(P.info? e).map (·.size)=some 1) (hp:P.plainKey e=true) (a b:List UInt8) (ha:a.length=n) (hb:b.length=n):
  (Op.equalIn (d+2) t (.agg (arr8 a)) (.agg (arr8 b))).run P w=.ok (decide (a=b)) w:=by
 cases hi:P.info? e with
 |none=>simp [hi] at hs
 |some i=>
  have h1:P.cellsOf e=1:=by simpa [Program.cellsOf,hi] using hs
  rw[run_equalIn_array w (d+1) (arr8 a) (arr8 b) ht hi,h1,T2 w d e .u8 he hp (arr8 a) (arr8 b) (fun i=>n8 (ix a i)) (fun i=>n8 (ix b i)) (List.range n)
   (fun j hj=>by rw[List.mem_range] at hj;exact⟨Tv a j (by omega),Tv b j (by omega)⟩)]
  congr 1
  rw[Bool.eq_iff_iff]
  simp only[List.all_eq_true,List.mem_range,decide_eq_true_eq,beq_iff_eq]
  constructor
  ·intro h
   apply List.ext_getElem (by omega)
   intro j h1 h2
   have:=Po.1 (h j (by omega))
   simpa [ix,List.getD_eq_getElem?_getD,List.getElem?_eq_getElem h1,List.getElem?_eq_getElem h2] using this
  ·rintro rfl j _;rfl
end
section
variable {P:Program} {w w2:World} {ops:Array Oper} {rest:List Oper} {o:Oper} {a:Act} {Q:Exit→Act→World→Prop} {v:Value}
end
end
section
theorem T3 (z:Value) (m:Nat):Builtin.zeroCells #[z] m=(List.replicate m z).toArray:=by
 apply Array.ext'
 simp only[Builtin.zeroCells,Array.toList_map,Array.toList_range]
 apply List.ext_getElem
 ·simp
 ·intro j h1 h2
  simp [Nat.mod_one]
theorem Agn {P:Program} (w:World) (base:Nat) (t ti e:TypeId) (kk:IntKind) (z zc:Value) (hzc:z.cells=#[zc]) (h1c:zc.oneCell'=true) (bytes:Nat) (ht:P.underlying t=some (.slice e)) (hti:P.underlying ti=some (.int kk)) (hinfo:(P.info? e).map (fun i=>(i.zero,i.size,i.bytes))=some (some z,1,bytes))
  (v:Value) (vs:List Value) (hown:Own w base e v vs) (m:Nat) (h63:vs.length+m≤maxLen) (hbytes:(vs.length+m)*bytes≤140737488355328) (hbase:base≤w.heap.size):
  ∃v' w',(∀ty,(Builtin.append_ #[t,ti] ty #[v,.int .i64 (m:Int)]).run P w=.ok v' w')∧Own w' base e v' (vs++List.replicate m zc)∧Keeps (fun k=>v.ownBlock=some k) w w'∧(v'.ownBlock=v.ownBlock∨v'.ownBlock=some w.heap.size):=by
 obtain⟨i,hi,hz0,hz1,hz2⟩:=info_parts hinfo
 have hm63:vs.length+m≤9223372036854775807:=by simp only[maxLen] at h63;omega
 have wl:IntKind.i64.wrap (m:Int)=m:=by rw[IntKind.wrap_i64];omega
 have hmb:m*bytes≤140737488355328:=Nat.le_trans (Nat.mul_le_mul_right _ (by omega)) hbytes
 have n1:¬((m:Int) < 0):=by omega
 have n2:¬(281474976710656 < (m:Int)*(bytes:Int)):=by
  have:((m*bytes:Nat):Int)≤140737488355328:=by omega
  rw[Int.natCast_mul] at this
  omega
 rcases hown with ⟨h0,⟨rfl,h1⟩|⟨g,cap,cur,rfl,hb,hh,hnc,hcm,hcs,htk⟩⟩
 ·have:vs=[]:=List.eq_nil_of_length_eq_zero h1
  subst this
  by_cases hm:m=0
  ·subst hm
   refine⟨.slice none 0 0,w,fun ty=>?_,by simpa using Own.nil_ _ _ _,Keeps.refl _ _,.inl rfl⟩
   have w0:IntKind.i64.wrap 0=0:=by rw[IntKind.wrap_i64];rfl
   simp [Builtin.append_,run_underlying ht,run_underlying hti,sizeOf,typeInfo,hi,asInt,asIntOf,w0]
  ·have h63':¬(9223372036854775807 < (m:Int)):=by simp at hm63;omega
   have h48':¬(281474976710656 < Builtin.nextslicecap m 0*bytes):=by rw[nextslicecap_zero (by omega)];omega
   refine⟨.slice (some ⟨w.heap.size,0,none⟩) m (grownCap w m 0 e),w.drew.alloc (.cells ((List.replicate m zc).toArray++(List.replicate (grownCap w m 0 e - m) zc).toArray) e),fun ty=>?_,?_,?_,.inr rfl⟩
   rotate_left
   ·refine⟨?_,.inr ⟨w.heap.size,grownCap w m 0 e,((List.replicate m zc).toArray++(List.replicate (grownCap w m 0 e - m) zc).toArray),by simp,hbase,heap_alloc_new w.drew _,?_,?_,?_,?_⟩⟩
    ·simp
    ·simpa using grownCap_ge w m 0 e
    ·exact grownCap_le_maxLen w m 0 e (by simpa using h63)
    ·have:=grownCap_ge w m 0 e
     simp;omega
    ·simp
   ·exact Keeps.of_below ((Below.refl _ _).drew.alloc (by simp) _)
   ·simp [Builtin.append_,run_underlying ht,run_underlying hti,sizeOf,typeInfo,zeroValue,hi,hz0,hz1,hz2,hzc,asInt,asIntOf,wl,n1,n2,hm,h63',h48',Question.forced,run_firstCells_none,newRow,grownCap,T3]
 ·have hcell:∀j u,vs[j]?=some u→w.cell? ((⟨g,0,none⟩:Addr).add j)=some u:=World.ownsRow.cells ⟨h0,.inr ⟨g,cap,cur,rfl,hb,hh,hnc,hcm,hcs,htk⟩⟩ rfl
  by_cases hroom:vs.length+m≤cap
  ·have hst:=run_storeCells_at P g vs.length e (List.replicate m zc) 0 cur w hh (by simp;omega) (by simp [h1c])
   simp only[Nat.add_zero,List.length_replicate] at hst
   refine⟨.slice (some ⟨g,0,none⟩) (vs.length+m) cap,w.setRow g (cur.toList.take vs.length++List.replicate m zc++cur.toList.drop (vs.length+m)).toArray,fun ty=>?_,?_,?_,.inl rfl⟩
   rotate_left
   ·refine⟨?_,.inr ⟨g,cap,(cur.toList.take vs.length++List.replicate m zc++cur.toList.drop (vs.length+m)).toArray,by simp,hb,setRow_heap w g cur _ e _ hh,?_,hcm,?_,?_⟩⟩
    ·simp
    ·simpa using hroom
    ·simp;omega
    ·have htk':cur.toList.take vs.length=vs:=by simpa using htk
     rw[htk',List.toList_toArray,List.append_assoc,←List.append_assoc,List.length_append,List.length_replicate,Nat.mul_one]
     exact List.take_left' (by simp)
   ·exact Keeps.setRow w rfl
   ·by_cases hm:m=0
    ·subst hm
     have w0:IntKind.i64.wrap 0=0:=by rw[IntKind.wrap_i64];rfl
     have hst0:(storeCells ⟨g,vs.length,none⟩ [] 0).run P w=_:=hst
     simp [Builtin.append_,run_underlying ht,run_underlying hti,sizeOf,typeInfo,hi,hz1,asInt,asIntOf,w0,hnc,Addr.add_lit] at hst0 ⊢
     rw[hst0]
     rfl
    ·simp [Builtin.append_,run_underlying ht,run_underlying hti,sizeOf,typeInfo,zeroValue,hi,hz0,hz1,hz2,hzc,asInt,asIntOf,wl,n1,n2,hm,hroom,T3,Addr.add_lit,hst]
  ·have h63':¬(9223372036854775807 < ((vs.length:Int)+(m:Int))):=by omega
   have h48':¬(281474976710656 < Builtin.nextslicecap (vs.length+m) cap*bytes):=by have:=growslice_fits (old:=cap) (need:=vs.length+m) (by omega) hbytes;omega
   have hm:m≠0:=by omega
   have hfo:=run_firstCells_some (P:=P) w.drew 1 vs.length ⟨g,0,none⟩ vs.length cap vs (by simp) (by simpa using hcell)
   refine⟨.slice (some ⟨w.heap.size,0,none⟩) (vs.length+m) (grownCap w (vs.length+m) cap e),w.drew.alloc (.cells (vs.toArray++(List.replicate m zc).toArray++(List.replicate (grownCap w (vs.length+m) cap e - (vs.length+m)) zc).toArray) e),fun ty=>?_,?_,?_,.inr rfl⟩
   rotate_left
   ·refine⟨?_,.inr ⟨w.heap.size,grownCap w (vs.length+m) cap e,(vs.toArray++(List.replicate m zc).toArray++(List.replicate (grownCap w (vs.length+m) cap e - (vs.length+m)) zc).toArray),by simp,hbase,heap_alloc_new w.drew _,?_,?_,?_,?_⟩⟩
    ·simp
    ·simpa using grownCap_ge w (vs.length+m) cap e
    ·exact grownCap_le_maxLen w (vs.length+m) cap e h63
    ·have:=grownCap_ge w (vs.length+m) cap e
     simp;omega
    ·simp only[Array.toList_append,List.length_append,List.length_replicate,Nat.mul_one]
     exact List.take_left' (by simp)
   ·exact Keeps.of_below ((Below.refl _ _).drew.alloc (by simp) _)
   ·simp [Builtin.append_,run_underlying ht,run_underlying hti,sizeOf,typeInfo,zeroValue,hi,hz0,hz1,hz2,hzc,asInt,asIntOf,wl,n1,n2,hm,hroom,h63',h48',Question.forced,hfo,newRow,grownCap,T3]
end
section
def Hj (l:List UInt8):ByteArray:=⟨l.toArray⟩
theorem Ago (l:List UInt8):strOfNums (l.map n8)=Hj l:=by
 unfold strOfNums Hj
 congr 2
 rw[List.map_map]
 conv=>rhs;rw[←List.map_id l]
 apply List.map_congr_left
 intro x _
 simp [n8]
theorem Ya {P:Program} {w:World} {B:Nat} {A:Option Addr} (l:List UInt8) (c:Nat) (src e:TypeId) (hs:P.underlying src=some (.slice e)) (he:P.underlying e=some (.int .u8)) (hR:RdV w B A (l.map vU8)) (dst:TypeId) (hd:P.underlying dst=some .string):
  (convert src dst (.slice A l.length c)).run P w=.ok (.string (Hj l)) w:=by
 by_cases h0:l=[]
 ·subst h0
  rw[show ([]:List UInt8).length=0 from rfl,run_convert_bytes_string w src dst e A 0 c hs he hd]
  cases A<;>simp [Conv.bytesToString,loadCells,Hj]
  all_goals rfl
 ·obtain⟨b,off,rfl,_,hc⟩:=hR (by simpa using List.length_pos_iff.2 h0)
  have:=run_convert_bytes_arg (P:=P) w src e hs he b off l.length c (l.map n8) (by simp) (fun i hi=>by
   have:=hc i (vU8 l[i]) (by simp [hi])
   rw[this]
   simp [vU8,List.getD_eq_getElem?_getD,hi]) dst hd
  rw[this,Ago]
end
end Go.Proofs.YtedaafmfjhjfmaaGreatDoor
