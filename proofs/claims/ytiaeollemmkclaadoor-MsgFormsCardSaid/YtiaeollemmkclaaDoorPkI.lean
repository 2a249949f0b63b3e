import Derived.Test.YtiaeollemmkclaaDoorSetA
import Derived.Test.YtiaeollemmkclaaDoorVs
import Derived.Test.YtiaeollemmkclaaDoorPkC
import Derived.Test.YtiaeollemmkclaaDoorOpn
import Derived.Test.YtiaeollemmkclaaDoorPreA
/- Rows of whole numbers, compared (law 33's nums). -/
namespace Go.Proofs.YtiaeollemmkclaaDoor
open Go.RowKit
set_option linter.unusedSimpArgs false
attribute [local irreducible] Af Ad Av Bh Bf A6 Aw A9
section
variable (a b:List UInt64) (A:Option Addr) (c:Nat) (A2:Option Addr) (c2:Nat) (w:World) (hm:a.length≤100000) (hR:RdV w w.heap.size A (a.map vU64)) (hR2:RdV w w.heap.size A2 (b.map vU64))
include hm hR hR2
end
end Go.Proofs.YtiaeollemmkclaaDoor
/- Fields as they came in; law 13's same, blank, great. -/
namespace Go.Proofs.YtiaeollemmkclaaDoor
open Go.RowKit
set_option linter.unusedSimpArgs false
set_option linter.unusedVariables false
structure SlR (α:Type) where
 A:Option Addr
 c:Nat
 l:List α
def SlR.val {α:Type} (s:SlR α):Value:=.slice s.A s.l.length s.c
structure SlR.Ok {α:Type} (s:SlR α) (f:α→Value) (w:World):Prop where
 len:s.l.length≤s.c
 rd:RdV w w.heap.size s.A (s.l.map f)
structure FdR where
 k:UInt8
 n:UInt64
 l:SlR UInt64
 b:SlR UInt8
 s:List UInt8
 x:SlR UInt32
 many:Int
 most:UInt64
def FdR.fd (f:FdR):Fd:=⟨f.k,f.n,f.l.l,f.b.l,f.s,f.x.l,f.many,f.most⟩
def fdV (f:FdR):List Value:=[vU8 f.k,vU64 f.n,f.l.val,f.b.val]++(f.s.map vU8++[f.x.val,.int .i64 f.many,vU64 f.most])
def fdA (f:FdR):List At:=[.v (vU8 f.k),.v (vU64 f.n),.v f.l.val,.v f.b.val]++(f.s.map f8++[.v f.x.val,.v (.int .i64 f.many),.v (vU64 f.most)])
structure FdR.Ok (f:FdR) (w:World):Prop where
 l:f.l.Ok vU64 w
 b:f.b.Ok vU8 w
 s:f.s.length=32
 x:f.x.Ok Ap w
 many:-9223372036854775808≤f.many∧f.many≤9223372036854775807
theorem L0 (f:FdR):fdA f=(fdV f).map At.v:=by
 unfold fdA fdV
 rw[List.map_append,List.map_append,List.map_map]
 rfl
theorem A5n (f:FdR) (γ:List Nm):(fdA f).map (At.val γ)=fdV f:=by
 rw[L0,List.map_map]
 show (fdV f).map (fun x=>x)=_
 exact List.map_id' _
theorem L1 (f:FdR) (γ:List Nm):(Sv.x (.g (fdA f))).val γ=.agg (fdV f).toArray:=by
 show Value.agg _=_
 rw[A5n]
theorem Cl {f:FdR} (h:f.s.length=32):(fdA f).length=39:=by simp [fdA,h]
theorem Ez {f:FdR} (h:f.s.length=32):(∀d,(fdA f).getD 0 d=.v (vU8 f.k))∧(∀d,(fdA f).getD 1 d=.v (vU64 f.n))∧(∀d,(fdA f).getD 2 d=.v f.l.val)∧(∀d,(fdA f).getD 3 d=.v f.b.val)∧(∀d,(fdA f).getD 36 d=.v f.x.val)∧(∀d,(fdA f).getD 37 d=.v (.int .i64 f.many))∧(∀d,(fdA f).getD 38 d=.v (vU64 f.most)):=by
 refine⟨fun d=>rfl,fun d=>rfl,fun d=>rfl,fun d=>rfl,fun d=>?_,fun d=>?_,fun d=>?_⟩<;>simp [fdA,List.getD_eq_getElem?_getD,h]
theorem Iw {f:FdR} (h:f.s.length=32):((fdA f).drop 4).take 32=f.s.map f8:=by
 have e:(fdA f).drop 4=f.s.map f8++[.v f.x.val,.v (.int .i64 f.many),.v (vU64 f.most)]:=rfl
 rw[e,List.take_append_of_le_length (by simp [h]),List.take_of_length_le (by simp [h])]
theorem Ws {f:FdR} {q:At→Prop} (h:∀v:Value,v.oneCell'=true→scalar v→q (.v v)):(∀x∈fdA f,q x)=True:=eq_true fun x hx=>by
 unfold fdA at hx
 simp only[List.mem_append,List.mem_cons,List.mem_map,List.not_mem_nil,or_false] at hx
 rcases hx with (rfl|rfl|rfl|rfl)|⟨y,_,rfl⟩|rfl|rfl|rfl<;>exact h _ rfl trivial
theorem A5o (f:FdR) (hp:List Res):(∀x∈fdA f,x.scalar hp)=True:=Ws fun v _ h=>h
theorem Cs (f:FdR) (hp:List Res):(∀x∈fdA f,x.one hp)=True:=Ws fun v h _=>h
theorem Ix (f:FdR) (n:Nat):(∀x∈fdA f,x.bnd n)=True:=Ws fun v _ _=>trivial
theorem A5p (f:FdR) (ρ:List Nat):(fdA f).map (At.ren ρ)=fdA f:=by
 rw[L0,List.map_map]
 rfl
theorem Gd (f:FdR) (hp:List Res):Sc.cont hp (.g (fdA f))=(True,.c (fdA f)):=by
 show (_,_)=_
 rw[A5o]
theorem Nf (f:FdR) (ρ:List Nat):Cont.ren ρ (.c (fdA f))=.c (fdA f):=by
 show Cont.c _=_
 rw[A5p]
theorem Wt (a b:List UInt8):((Fa a).toList==(Fa b).toList)=decide (a=b):=by
 rw[ByteArray.toList_eq,ByteArray.toList_eq]
 show (a==b)=decide (a=b)
 by_cases h:a=b
 ·subst h;simp
 ·rw[decide_eq_false h,beq_eq_false_iff_ne]
  exact h
def Bc7 (f g:Fd):Bool:=decide (f.n=g.n∧f.l=g.l∧f.b=g.b∧f.s=g.s∧f.x=g.x)
attribute [local irreducible] Af Ad Av Bh Bf A6 Aw A9
attribute [local irreducible] fdA
def Bc8 (w0:World) (hp:List Res) (sv:Sv) (f:Fd):Prop:=∀γ w,Sat w0 No γ hp w→∃a:FdR,sv.val γ=.agg (fdV a).toArray∧a.Ok w∧a.fd=f
end Go.Proofs.YtiaeollemmkclaaDoor
/- law 13's write: a field more; how a writer's caller sees it. -/
namespace Go.Proofs.YtiaeollemmkclaaDoor
open Go.RowKit
set_option linter.unusedSimpArgs false
set_option linter.unusedVariables false
theorem FW.call {w w':World} {X Y:Nat→Prop} {γ:List Nm} {hp:List Res} {A:Option Addr} {vs:List Value} (h:FW w X A vs) (hS:Sat w X γ hp w') (hY:∀b,Y b→∃(k:Nat) (r:Res),hp[k]?=some r∧r.has γ k b):FW w' Y A vs:=by
 refine⟨fun hp=>?_,fun hp a ha hy=>?_⟩
 ·obtain⟨b,off,h1,h2,h3⟩:=h.rd hp
  exact⟨b,off,h1,Nat.lt_of_lt_of_le h2 hS.keeps.size,fun j u hu=>(World.cell?_of_block (hS.keeps.block b h2 (h.far hp _ h1))).trans (h3 j u hu)⟩
 ·obtain⟨b,off,h1,h2,h3⟩:=h.rd hp
  rw[ha] at h1
  cases h1
  obtain⟨k,r,hr,hb⟩:=hY _ hy
  rcases (hS.mine k r _ hr hb).1 with h4|h4
  ·exact h.far hp _ ha h4
  ·exact absurd h2 (Nat.not_lt.2 h4)
structure FdR.OkX (f:FdR) (X:Nat→Prop) (w:World):Prop where
 ok:f.Ok w
 l:FW w X f.l.A (f.l.l.map vU64)
 b:FW w X f.b.A (f.b.l.map vU8)
 x:FW w X f.x.A (f.x.l.map Ap)
section
variable {w0:World} {ow:Nat→Prop} {hp:List Res} {k0 k1 n:Nat} {r:List (List UInt8)} {b:List UInt8} {f:FuncId} {args:List Sv}
theorem Iy (hn:n+b.length≤1000000000) (hn1:k0≠k1) (hbr:∀r∈hp,Res.bnd hp.length r) (hk:B3 hp[k0]?=some (47,.c [.o k1,.v (.int .i64 (n:Int))])) (h1:hp[k1]?=some (.abs (ChR 125 r)))
  (ha:∀γ γ',List.map (Sv.val γ) args=List.map (Sv.val γ') args) (hG:∀γ w,Sat w0 ow γ hp w→∀X:Nat→Prop,(∀b,X b→∃(k:Nat) (r:Res),k∈[k0,k1]∧hp[k]?=some r∧r.has γ k b)→WrG f args b X w):
  Ad Tryd.prog w0 ow f (.x (.a (.p k0 0))::args) hp (.t []) (wrS hp k0 [k0,k1] r n b):=
 Acm hn1 hbr hk h1 fun γ w hS X hX γ0 g hS0 e=>by
  have:=hG γ w hS X hX r n g γ0 hn hS0
  rw[List.map_cons,e,ha γ0 γ] at this
  exact this
end
attribute [local irreducible] Af Ad Av Bh Bf A6 Aw A9
attribute [local irreducible] fdA Al Bl Bw Bc
section
variable {X:Nat→Prop} {w:World}
end
section
variable {w0:World} {ow:Nat→Prop} {hp:List Res} {k0:Nat} {s t:RS}
theorem Gz {f:FuncId} {args:List Sv} {sv:Sv} {new:List Res} (hbr:∀r∈hp,Res.bnd hp.length r) (hk:B3 hp[k0]?=some (132,(.c [.v (.slice s.A s.l.length s.c),.v (.bool s.bad)]))) (hb1:∀r∈new,Res.bnd (new.length+1) r) (hsb:sv.bnd (new.length+1)) (ha:∀γ γ',List.map (Sv.val γ) args=List.map (Sv.val γ') args)
  (hs:s.Far w0 ow hp k0) (h:∀X w,s.Ok X w→RdG f args sv s t new X w):Ad Tryd.prog w0 ow f (.x (.a (.p k0 0))::args) hp (rdV hp k0 new sv) (rdS hp k0 t new):=
 S5 hbr hk hb1 hsb ha fun γ w hS X hX=>h X w (hs γ w hS X hX)
theorem A5q (hl:s.l.length≤10000000) (hk:B3 hp[k0]?=some (132,(.c [.v (.slice s.A s.l.length s.c),.v (.bool s.bad)]))):Ad Tryd.prog w0 ow 17 [.x (.a (.p k0 0))] hp (.x (.a (.v (if s.bad=false∧s.l=[] then .nilIface else .iface 137 (.int .i64 3))))) hp:=Ca fun γ w hS=>by
 have d0:=hS.cellv hk (i:=0) (by show 0 < 2;omega)
 have d1:=hS.cellv hk (i:=1) (by show 1 < 2;omega)
 obtain⟨h1,h2,h3,h4,h5,h6⟩:=Two.of d0 d1
 exact A5a hl h1 h2 h3 h4 h5 h6
end
section
variable {w0:World} {ow:Nat→Prop} {hp:List Res}
set_option maxRecDepth 100000 in
theorem A5r (l:List UInt8) (A:Option Addr) (c:Nat) {γ:List Nm} {w:World} (hl:l.length≤10000000) (hc:l.length≤c) (hR:RdV w w.heap.size A (l.map vU8)):
  Calls Tryd.prog 20 (List.map (Sv.val []) [.x (.a (.v (.slice A l.length c)))]).toArray w fun e w'=>∃γ1,e=.returned ((Sv.x (.a (.p 0 0))).val γ1)∧Sat w No γ1 [.blk 132 (.c [.o 1,.v (.bool false)]),.own 5 (.u8 l)] w':=by
 refine Cy (n:=7) Tryd.func20 rfl Tryd.ntmps20 _ (Sat.init w No) (by simp) _ _ ?_
 simp (maxSteps:=10^6) only[push_cast,↓reduceIte,reduceCtorEq,Nat.reduceLT]
 (repeat (refine And.intro (by first|omega|decide) ?_))
 refine Fw rfl Azg rfl (A45 (l:=l) hl (Dq hR _ _ (by simp) hc) (by simp only[push_cast])) (Aa rfl) (by simp only[push_cast]) ?_
 simp (maxSteps:=10^6) only[push_cast,↓reduceIte,reduceCtorEq,Nat.reduceLT,Nat.reduceAdd]
 refine Bp [1,0] ?_
 simp (maxSteps:=10^6) only[push_cast,↓reduceIte,reduceCtorEq,Nat.reduceLT,Nat.reduceAdd]
theorem A5s (l:List UInt8) {sv:Sv} (hl:l.length≤10000000) (hbr:∀r∈hp,Res.bnd hp.length r) (h:Cx w0 ow hp sv (l.map vU8)):
  Ad Tryd.prog w0 ow 20 [sv] hp (.x (.a (.p hp.length 0))) (hp++[.blk 132 (.c [.o (hp.length+1),.v (.bool false)]),.own 5 (.u8 l)]):=by
 have:=My (P:=Tryd.prog) (w0:=w0) (ow:=ow) (f:=20) (svs:=[sv]) (hp:=hp) (sv1:=.x (.a (.p 0 0))) (hp1:=[.blk 132 (.c [.o 1,.v (.bool false)]),.own 5 (.u8 l)]) [] hbr
  (by simp only[push_cast,Nat.reduceLT,Nat.reduceAdd]) (by simp only[push_cast,Nat.reduceLT,Nat.reduceAdd]) fun γ w hS=>⟨No,fun b h=>h.elim,by
   obtain⟨A,c,e1,b1,r1⟩:=h γ w hS
   rw[List.length_map] at e1 b1
   have:=A5r (γ:=γ) l A c hl b1 r1
   rw[show List.map (Sv.val γ) [sv]=List.map (Sv.val []) [.x (.a (.v (.slice A l.length c)))] from by simp only[List.map_cons,List.map_nil,e1];rfl]
   exact this⟩
 exact this
end
end Go.Proofs.YtiaeollemmkclaaDoor
/- law 13's read: a field of a kind, read. -/
namespace Go.Proofs.YtiaeollemmkclaaDoor
open Go.RowKit
set_option linter.unusedSimpArgs false
set_option linter.unusedVariables false
def fdL (k n l b:At) (s:List UInt8) (x:At):List At:=k::n::l::b::(s.map f8++[x,.v (.int .i64 0),.v (.int .u64 0)])
def nl:At:=.v (.slice none 0 0)
theorem Cq (ρ:List Nat) (l:List UInt8):(l.map f8).map (At.ren ρ)=l.map f8:=by rw[List.map_map];rfl
theorem Ac4 (s:RS):(Dn s).1.length=32:=by
 unfold Dn
 split
 ·rfl
 ·show (s.l.take 32).length=32
  rw[List.length_take]
  omega
theorem Wu (a b c x:At):(List.map f8 (List.replicate 32 0)++[a,b,c]).set 32 x=List.map f8 (List.replicate 32 0)++[x,b,c]:=rfl
theorem Br:ZOk Tryd.prog 32 (.c (.v (.int .u8 0):: .v (.int .u64 0):: .v (.slice none 0 0):: .v (.slice none 0 0)::(List.map f8 (List.replicate 32 0)++[.v (.slice none 0 0),.v (.int .i64 0),.v (.int .u64 0)])))=True:=
 eq_true ⟨.agg ([Value.int .u8 0,Value.int .u64 0,Value.slice none 0 0,Value.slice none 0 0]++(List.replicate 32 (Value.int .u8 0)++[Value.slice none 0 0,Value.int .i64 0,Value.int .u64 0])).toArray,by kernel_rfl,fun _=>rfl⟩
attribute [local irreducible] Af Ad Av Bh Bf A6 Aw A9
attribute [local irreducible] fdA
section
variable {X:Nat→Prop} {w:World} {s:RS}
end
end Go.Proofs.YtiaeollemmkclaaDoor
/- Rows of fields as they came in; law 13's great, blank. -/
namespace Go.Proofs.YtiaeollemmkclaaDoor
open Go.RowKit
set_option linter.unusedSimpArgs false
set_option linter.unusedVariables false
def Pp (l:List UInt8):List UInt8:=(l++List.replicate 32 0).take 32
theorem A5t (l:List UInt8):(Pp l).length=32:=by simp [Pp]
theorem A5u {l:List UInt8} (h:l.length=32):Pp l=l:=by
 unfold Pp
 rw[List.take_append_of_le_length (by omega),List.take_of_length_le (by omega)]
def fdW (f:FdR):List Value:=fdV {f with s:=Pp f.s}
theorem Ta (f:FdR):(fdW f).length=39:=by simp [fdW,fdV,A5t]
theorem Ac5 {f:FdR} (h:f.s.length=32):fdW f=fdV f:=by unfold fdW;rw[A5u h]
instance {α:Type}:Inhabited (SlR α):=⟨⟨none,0,[]⟩⟩
instance:Inhabited FdR:=⟨⟨0,0,default,default,[],default,0,0⟩⟩
theorem Ac6 {w:World} {A:Option Addr}:∀(n off:Nat) (vs:List Value),vs.length=n→(∀k v,vs[k]?=some v→B2 w (Ar A (off+k))=v)→D0 w A n off=vs.map At.v
 |0,_,vs,h,_=>by
  obtain rfl:=List.eq_nil_of_length_eq_zero h
  rfl
 |n+1,off,v::vs,h,hc=>by
  rw[D0,List.map_cons,Ac6 n (off+1) vs (by simpa using h) (fun k u hu=>by
   have:=hc (k+1) u (by simpa using hu)
   rwa [show off+(k+1)=off+1+k by omega] at this)]
  have:=hc 0 v rfl
  rw[Nat.add_zero] at this
  rw[this]
theorem Ac7 {w:World} {ow:Nat→Prop} {A:Option Addr}:∀(n off:Nat),(∀k,k < n→C8 w ow (Ar A (off+k)))→I6 w ow A n off
 |0,_,_=>trivial
 |n+1,off,h=>⟨by have:=h 0 (by omega);rwa [Nat.add_zero] at this,Ac7 n (off+1) fun k hk=>by have:=h (k+1) (by omega);rwa [show off+(k+1)=off+1+k by omega] at this⟩
structure FL (w:World) (A:Option Addr) (l:List FdR):Prop where
 some_:0 < l.length→A.isSome=true
 cell:∀i k v,i < l.length→(fdV (ix l i))[k]?=some v→B2 w (Ar A (i*39+k))=v∧C8 w No (Ar A (i*39+k))
 whole:∀i,i < l.length→D0 w (Ar A (i*39)) 39 0=fdA (ix l i)∧I6 w No (Ar A (i*39)) 39 0
theorem FL.of {w:World} {A:Option Addr} {l:List FdR} (hR:RdV w w.heap.size A (l.flatMap fdW)) (hs:∀f∈l,f.s.length=32):FL w A l:=by
 have F:=FV.no hR
 have hl:(l.flatMap fdW).length=l.length*39:=O1 Ta l
 have hc:∀i k v,i < l.length→(fdV (ix l i))[k]?=some v→B2 w (Ar A (i*39+k))=v∧C8 w No (Ar A (i*39+k)):=fun i k v hi hv=>by
  have h32:=hs (ix l i) (Lq hi)
  rw[←Ac5 h32] at hv
  have hk:k < 39:=by
   have:=(List.getElem?_eq_some_iff.1 hv).1
   rwa [Ta] at this
  exact F.cell (by rw[Lo Ta l i k hi hk];exact hv)
 refine⟨fun hp=>F.some_ (by rw[hl];omega),hc,fun i hi=>?_⟩
 have h32:=hs (ix l i) (Lq hi)
 have h39:(fdV (ix l i)).length=39:=by rw[←Ac5 h32];exact Ta _
 constructor
 ·rw[L0]
  refine Ac6 39 0 _ h39 fun k v hv=>?_
  rw[Dl,Nat.zero_add]
  exact (hc i k v hi hv).1
 ·refine Ac7 39 0 fun k hk=>?_
  rw[Dl,Nat.zero_add]
  exact (hc i k _ hi (List.getElem?_eq_getElem (by omega))).2
def A5v (f:Fd):Bool:=decide (60 < f.l.length∨300 < f.b.length∨60 < f.x.length)
def Bc9 (l:List Fd):Bool:=(l.take 20).any A5v||decide (20 < l.length)
attribute [local irreducible] Af Ad Av Bh Bf A6 Aw A9
end Go.Proofs.YtiaeollemmkclaaDoor
/- law 13's blank: has a field what its kind does not write? -/
namespace Go.Proofs.YtiaeollemmkclaaDoor
open Go.RowKit
set_option linter.unusedSimpArgs false
set_option linter.unusedVariables false
attribute [local irreducible] Af Ad Av Bh Bf A6 Aw A9
attribute [local irreducible] fdA
def Bda (f:Fd):Bool:=decide (f.k≠0∧f.n≠0∨f.k≠1∧0 < f.l.length∨f.k≠2∧0 < f.b.length∨f.k≠3∧f.s≠List.replicate 32 0∨f.k < 4∧0 < f.x.length)
end Go.Proofs.YtiaeollemmkclaaDoor
/- An error's number (law 13's num): nil's is nought, an Errno's is its own. -/
namespace Go.Proofs.YtiaeollemmkclaaDoor
open Go.RowKit Go.Extern.Stop Go.Stop Go.Extern
end Go.Proofs.YtiaeollemmkclaaDoor
/- law 13's sure: what must come whatever the input is. -/
namespace Go.Proofs.YtiaeollemmkclaaDoor
open Go.RowKit
set_option linter.unusedSimpArgs false
set_option linter.unusedVariables false
section
variable {w0:World} {ow:Nat→Prop} {hp:List Res} {k0 k1 n:Nat} {r:List (List UInt8)} {b:List UInt8} {f:FuncId}
theorem Wv {sv:Sv} {vs:List Value} (hn:n+b.length≤1000000000) (hn1:k0≠k1) (hbr:∀r∈hp,Res.bnd hp.length r) (hk:B3 hp[k0]?=some (47,.c [.o k1,.v (.int .i64 (n:Int))])) (h1:hp[k1]?=some (.abs (ChR 125 r)))
  (hsv:Ace w0 ow hp [k0,k1] sv vs) (hG:∀(A:Option Addr) (c:Nat) (X:Nat→Prop) (w:World),vs.length≤c→FW w X A vs→WrG f [.x (.a (.v (.slice A vs.length c)))] b X w):
  Ad Tryd.prog w0 ow f [.x (.a (.p k0 0)),sv] hp (.t []) (wrS hp k0 [k0,k1] r n b):=
 Acm hn1 hbr hk h1 fun γ w hS X hX γ0 g hS0 e=>by
  obtain⟨A,c,e1,h2,h3⟩:=hsv γ w hS
  have:=hG A c X w h2 (h3 X hX) r n g γ0 hn hS0
  rw[List.map_cons,e] at this
  rw[show List.map (Sv.val γ) [.x (.a (.p k0 0)),sv]=(Sv.x (.a (.p k0 0))).val γ::List.map (Sv.val γ0) [.x (.a (.v (.slice A vs.length c)))] from by simp only[List.map_cons,List.map_nil,e1];rfl]
  exact this
end
def RS.From (s:RS) (A:Option Addr) (vs:List Value):Prop:=∀X w,FW w X A vs→s.Ok X w
theorem RS.From.far {s:RS} {A:Option Addr} {vs:List Value} {n c:Nat} {w0:World} {ow:Nat→Prop} {hp:List Res} {k0 k:Nat} {l:List Fct} (h:s.From A vs) (hk:hp[k]?=some (.abs (fctRep l))) (hf:⟨.slice A n c,n,vs⟩∈l) (hn:k∉[k0]):s.Far w0 ow hp k0:=
 fun γ w hS X hX=>h X w (Sz hS hk hf (Sub.refl A vs) [k0] hn hX)
theorem RS.From.start {A:Option Addr} {c:Nat} {l:List UInt8} (hc:l.length≤c) (hm:l.length≤10000000):(⟨A,c,l,false⟩:RS).From A (l.map vU8):=fun X w h=>⟨hc,hm,h⟩
theorem RS.From.num {s:RS} {A:Option Addr} {vs:List Value} (h:s.From A vs) (most:UInt64):(numS most s).2.2.From A vs:=fun X w hf=>Hh (h X w hf)
theorem RS.From.nums {s:RS} {A:Option Addr} {vs:List Value} (h:s.From A vs) (many:Int) (most:UInt64):(Dd many most s).2.From A vs:=fun X w hf=>Jj (h X w hf)
theorem RS.From.bytes {s:RS} {A:Option Addr} {vs:List Value} (h:s.From A vs) (many:Int):(Pm many s).2.From A vs:=fun X w hf=>Acw (h X w hf)
theorem RS.From.sum {s:RS} {A:Option Addr} {vs:List Value} (h:s.From A vs):(Dn s).2.From A vs:=fun X w hf=>Wn (h X w hf)
theorem RS.From.row {s:RS} {A:Option Addr} {vs:List Value} (h:s.From A vs) (many:Int):(Do many s).2.From A vs:=fun X w hf=>Wr (h X w hf)
theorem RS.From.max {s:RS} {A:Option Addr} {vs:List Value} (h:s.From A vs) (l:List UInt8) (e:s.rs=(l,s.bad)) (hl:l.length≤10000000):s.l.length≤10000000:=by
 have:s.l=l:=congrArg Prod.fst e
 rw[this];exact hl
def A5w:List UInt8:=1::List.replicate 31 0
def A5x:List UInt8:=[249,1,44,2,97,98,2,0,0,0,7,128,0,0,0,2,5,6,1]++List.replicate 31 0
attribute [local irreducible] Af Ad Av Bh Bf A6 Aw A9
attribute [local irreducible] fdA Al Bl Bw Bc C3 A5x A5w
end Go.Proofs.YtiaeollemmkclaaDoor
