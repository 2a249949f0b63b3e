import Derived.Test.YtiaeollemmkclaaDoorDrA
import Derived.Test.YtiaeollemmkclaaDoorOpn
import Derived.Test.YtiaeollemmkclaaDoorMg0
/- Slices of structs and variables as they lie there; who there is (layer 21), as it lies there. -/
namespace Go.Proofs.YtiaeollemmkclaaDoor
open Go.RowKit
set_option linter.unusedSimpArgs false
set_option linter.unusedVariables false
structure SlV (α:Type) where
 A:Option Addr
 c:Nat
 l:List α
def SlV.val {α:Type} (s:SlV α):Value:=.slice s.A s.l.length s.c
instance {α:Type}:Inhabited (SlV α):=⟨⟨none,0,[]⟩⟩
theorem V9 {w:World} {A:Option Addr}:∀(n off:Nat) (vs:List Value),vs.length=n→(∀k v,vs[k]?=some v→B2 w (Ar A (off+k))=v)→D0 w A n off=vs.map At.v
 |0,_,vs,h,_=>by
  obtain rfl:=List.eq_nil_of_length_eq_zero h
  rfl
 |n+1,off,v::vs,h,hc=>by
  rw[D0,List.map_cons,V9 n (off+1) vs (by simpa using h) (fun k u hu=>by
   have:=hc (k+1) u (by simpa using hu)
   rwa [show off+(k+1)=off+1+k by omega] at this)]
  have:=hc 0 v rfl
  rw[Nat.add_zero] at this
  rw[this]
theorem Wa {w:World} {ow:Nat→Prop} {A:Option Addr}:∀(n off:Nat),(∀k,k < n→C8 w ow (Ar A (off+k)))→I6 w ow A n off
 |0,_,_=>trivial
 |n+1,off,h=>⟨by have:=h 0 (by omega);rwa [Nat.add_zero] at this,Wa n (off+1) fun k hk=>by have:=h (k+1) (by omega);rwa [show off+(k+1)=off+1+k by omega] at this⟩
structure FLm {α:Type} [Inhabited α] (m:Nat) (e:α→List Value) (w:World) (A:Option Addr) (l:List α):Prop where
 some_:0 < l.length→A.isSome=true
 cell:∀i k v,i < l.length→(e (ix l i))[k]?=some v→B2 w (Ar A (i*m+k))=v∧C8 w No (Ar A (i*m+k))
 whole:∀i,i < l.length→D0 w (Ar A (i*m)) m 0=(e (ix l i)).map At.v∧I6 w No (Ar A (i*m)) m 0
theorem FLm.of {α:Type} [Inhabited α] {m:Nat} {e:α→List Value} {w:World} {A:Option Addr} {l:List α} (hm:∀x,(e x).length=m) (h0:0 < m) (hR:RdV w w.heap.size A (l.flatMap e)):FLm m e w A l:=by
 have F:=FV.no hR
 have hl:(l.flatMap e).length=l.length*m:=O1 hm l
 have hc:∀i k v,i < l.length→(e (ix l i))[k]?=some v→B2 w (Ar A (i*m+k))=v∧C8 w No (Ar A (i*m+k)):=fun i k v hi hv=>by
  have hk:k < m:=by
   have:=(List.getElem?_eq_some_iff.1 hv).1
   rwa [hm] at this
  exact F.cell (by rw[Lo hm l i k hi hk];exact hv)
 refine⟨fun hp=>F.some_ (by rw[hl];exact Nat.mul_pos hp h0),hc,fun i hi=>?_⟩
 constructor
 ·refine V9 m 0 _ (hm _) fun k v hv=>?_
  rw[Dl,Nat.zero_add]
  exact (hc i k v hi hv).1
 ·refine Wa m 0 fun k hk=>?_
  rw[Dl,Nat.zero_add]
  exact (hc i k _ hi (List.getElem?_eq_getElem (by rw[hm];exact hk))).2
structure Vr (w:World) (A:Option Addr) (vs:List Value):Prop where
 some_:A.isSome=true
 none_:A.isNone=false
 cell:∀k v,vs[k]?=some v→B2 w (Ar A k)=v∧C8 w No (Ar A k)
theorem Vr.of {w:World} {g:Nat} {vs:List Value} (h:∀k v,vs[k]?=some v→w.cell? ⟨g,k,none⟩=some v):Vr w (some ⟨g,0,none⟩) vs:=
 ⟨rfl,rfl,fun k v hv=>by
  have hc:=h k v hv
  have e:Ar (some ⟨g,0,none⟩) k=some ⟨g,k,none⟩:=by
   show some (Addr.add _ k)=_
   rw[Cm,Nat.zero_add]
  rw[e]
  exact⟨by simp [B2,hc],⟨_,_,rfl,block_lt_of_cell hc,fun h=>h,hc⟩⟩⟩
theorem Vr.whole {w:World} {A:Option Addr} {vs:List Value} (h:Vr w A vs):D0 w A vs.length 0=vs.map At.v∧I6 w No A vs.length 0:=
 ⟨V9 _ 0 _ rfl fun k v hv=>by rw[Nat.zero_add];exact (h.cell k v hv).1,Wa _ 0 fun k hk=>by rw[Nat.zero_add];exact (h.cell k _ (List.getElem?_eq_getElem hk)).2⟩
theorem Vr.later {w w':World} {A:Option Addr} {vs:List Value} (h:Vr w A vs) (hk:Keeps No w w'):Vr w' A vs:=
 ⟨h.some_,h.none_,fun k v hv=>by
  obtain⟨h1,a,x,h2,h3,_,h5⟩:=h.cell k v hv
  have hb:=hk.block a.block h3 (fun h=>h)
  have e:x=v:=by rw[h2] at h1;simpa [B2,h5] using h1
  subst e
  have h6:w'.cell? a=some x:=by
   unfold World.cell? at h5 ⊢
   rw[hb]
   exact h5
  exact⟨by rw[h2];simp [B2,h6],⟨a,x,h2,block_lt_of_cell h6,fun h=>h,h6⟩⟩⟩
def plV (p:PlS):List Value:=[.int .i64 p.parent,.int .i64 p.spare,.int .i64 p.need]
structure GrR where
 place:Int
 ids:SlV Int
 need:Int
instance:Inhabited GrR:=⟨⟨0,default,0⟩⟩
def grV (g:GrR):List Value:=[.int .i64 g.place,g.ids.val,.int .i64 g.need]
def GrR.gr (g:GrR):GrS:=⟨g.place,g.ids.l,g.need⟩
structure GrR.Ok (g:GrR) (w:World):Prop where
 len:g.ids.l.length≤g.ids.c
 few:g.ids.l.length≤1000000
 rd:RdV w w.heap.size g.ids.A (g.ids.l.map (Value.int .i64))
structure CfR where
 dim:Int
 ps:SlV PlS
 gs:SlV GrR
 least:Int
 term:Int
def cfV (c:CfR):List Value:=[.int .i64 c.dim,c.ps.val,c.gs.val,.int .i64 c.least,.int .i64 c.term]
def CfR.cf (c:CfR):CfS:=⟨c.dim,c.ps.l,c.gs.l.map GrR.gr,c.least,c.term⟩
structure CfR.Ok (c:CfR) (w:World):Prop where
 plen:c.ps.l.length≤c.ps.c
 pfew:c.ps.l.length≤1000000
 prd:RdV w w.heap.size c.ps.A (c.ps.l.flatMap plV)
 glen:c.gs.l.length≤c.gs.c
 gfew:c.gs.l.length≤1000000
 grd:RdV w w.heap.size c.gs.A (c.gs.l.flatMap grV)
 ids:∀g∈c.gs.l,g.Ok w
theorem CfR.Ok.later {w0 w:World} {c:CfR} {γ:List Nm} {hp:List Res} (h:c.Ok w0) (hS:Sat w0 No γ hp w):c.Ok w:=
 ⟨h.plen,h.pfew,Fz h.prd hS,h.glen,h.gfew,Fz h.grd hS,fun g hg=>⟨(h.ids g hg).len,(h.ids g hg).few,Fz (h.ids g hg).rd hS⟩⟩
def cfA (c:CfR):List At:=[.v (.int .i64 c.dim),.v c.ps.val,.v c.gs.val,.v (.int .i64 c.least),.v (.int .i64 c.term)]
def grA (g:GrR):List At:=[.v (.int .i64 g.place),.v g.ids.val,.v (.int .i64 g.need)]
def Bc6 (w0:World) (hp:List Res) (sv:Sv) (c:CfS):Prop:=∀γ w,Sat w0 No γ hp w→∃a:CfR,sv.val γ=.agg (cfV a).toArray∧a.Ok w∧a.cf=c
end Go.Proofs.YtiaeollemmkclaaDoor
/- Messages as they lie there; layer 16: msg.kindOf, Form, Name, within. -/
namespace Go.Proofs.YtiaeollemmkclaaDoor
open Go.RowKit
set_option linter.unusedSimpArgs false
set_option linter.unusedVariables false
structure MgR where
 k:UInt8
 pl:Int
 ot:Int
 cl:Int
 ge:Int
 nu:UInt64
 sm:List UInt8
 ids:SlV Int
 ns:SlV UInt64
 ps:SlV Pr
 xs:SlV UInt32
 re:Int
def MgR.mg (m:MgR):MgS:=⟨m.k,m.pl,m.ot,m.cl,m.ge,m.nu,m.sm,m.ids.l,m.ns.l,m.ps.l,m.xs.l,m.re⟩
def mgL (k pl ot cl ge nu:At) (sm:List UInt8) (i n p x r:At):List At:=[k,pl,ot,cl,ge,nu]++(sm.map f8++[i,n,p,x,r])
def mgV (m:MgR):List Value:=[vU8 m.k,.int .i64 m.pl,.int .i64 m.ot,.int .i64 m.cl,.int .i64 m.ge,vU64 m.nu]++(m.sm.map vU8++[m.ids.val,m.ns.val,m.ps.val,m.xs.val,.int .i64 m.re])
def mgA (m:MgR):List At:=mgL (.v (vU8 m.k)) (.v (.int .i64 m.pl)) (.v (.int .i64 m.ot)) (.v (.int .i64 m.cl)) (.v (.int .i64 m.ge)) (.v (vU64 m.nu)) m.sm (.v m.ids.val) (.v m.ns.val) (.v m.ps.val) (.v m.xs.val) (.v (.int .i64 m.re))
structure SlV.Ok {α:Type} (s:SlV α) (vs:List Value) (w:World):Prop where
 len:s.l.length≤s.c
 few:s.l.length≤1000
 rd:RdV w w.heap.size s.A vs
structure MgR.Ok (m:MgR) (w:World):Prop where
 s:m.sm.length=32
 ids:m.ids.Ok (m.ids.l.map (Value.int .i64)) w
 ns:m.ns.Ok (m.ns.l.map vU64) w
 ps:m.ps.Ok (pvs m.ps.l) w
 xs:m.xs.Ok (m.xs.l.map Ap) w
theorem SlV.Ok.later {α:Type} {s:SlV α} {vs:List Value} {w0 w:World} {γ:List Nm} {hp:List Res} (h:s.Ok vs w0) (hS:Sat w0 No γ hp w):s.Ok vs w:=⟨h.len,h.few,Fz h.rd hS⟩
theorem MgR.Ok.later {m:MgR} {w0 w:World} {γ:List Nm} {hp:List Res} (h:m.Ok w0) (hS:Sat w0 No γ hp w):m.Ok w:=
 ⟨h.s,h.ids.later hS,h.ns.later hS,h.ps.later hS,h.xs.later hS⟩
theorem O7 (k pl ot cl ge nu:At) (sm:List UInt8) (i n p x r:At) (γ:List Nm):(mgL k pl ot cl ge nu sm i n p x r).map (At.val γ)=[k.val γ,pl.val γ,ot.val γ,cl.val γ,ge.val γ,nu.val γ]++(sm.map vU8++[i.val γ,n.val γ,p.val γ,x.val γ,r.val γ]):=by
 unfold mgL
 rw[List.map_append,List.map_append,List.map_map]
 rfl
theorem A2i (m:MgR) (γ:List Nm):(mgA m).map (At.val γ)=mgV m:=O7 ..
theorem Es (m:MgR) (γ:List Nm):(Sv.x (.g (mgA m))).val γ=.agg (mgV m).toArray:=by
 show Value.agg _=_
 rw[A2i]
theorem O8 {k pl ot cl ge nu:At} {sm:List UInt8} {i n p x r:At} (h:sm.length=32):(mgL k pl ot cl ge nu sm i n p x r).length=43:=by simp [mgL,h]
theorem Ss {k pl ot cl ge nu:At} {sm:List UInt8} {i n p x r:At} (h:sm.length=32):(∀d,(mgL k pl ot cl ge nu sm i n p x r).getD 0 d=k)∧(∀d,(mgL k pl ot cl ge nu sm i n p x r).getD 1 d=pl)∧(∀d,(mgL k pl ot cl ge nu sm i n p x r).getD 2 d=ot)∧(∀d,(mgL k pl ot cl ge nu sm i n p x r).getD 3 d=cl)∧(∀d,(mgL k pl ot cl ge nu sm i n p x r).getD 4 d=ge)∧(∀d,(mgL k pl ot cl ge nu sm i n p x r).getD 5 d=nu)∧
  (∀d,(mgL k pl ot cl ge nu sm i n p x r).getD 38 d=i)∧(∀d,(mgL k pl ot cl ge nu sm i n p x r).getD 39 d=n)∧(∀d,(mgL k pl ot cl ge nu sm i n p x r).getD 40 d=p)∧(∀d,(mgL k pl ot cl ge nu sm i n p x r).getD 41 d=x)∧(∀d,(mgL k pl ot cl ge nu sm i n p x r).getD 42 d=r):=by
 refine⟨fun d=>rfl,fun d=>rfl,fun d=>rfl,fun d=>rfl,fun d=>rfl,fun d=>rfl,fun d=>?_,fun d=>?_,fun d=>?_,fun d=>?_,fun d=>?_⟩<;>simp [mgL,List.getD_eq_getElem?_getD,h]
theorem Cj {m:MgR} (h:m.sm.length=32):(mgA m).length=43:=O8 h
theorem Dw {m:MgR} (h:m.sm.length=32):(∀d,(mgA m).getD 0 d=.v (vU8 m.k))∧(∀d,(mgA m).getD 1 d=.v (.int .i64 m.pl))∧(∀d,(mgA m).getD 2 d=.v (.int .i64 m.ot))∧(∀d,(mgA m).getD 3 d=.v (.int .i64 m.cl))∧(∀d,(mgA m).getD 4 d=.v (.int .i64 m.ge))∧(∀d,(mgA m).getD 5 d=.v (vU64 m.nu))∧
  (∀d,(mgA m).getD 38 d=.v m.ids.val)∧(∀d,(mgA m).getD 39 d=.v m.ns.val)∧(∀d,(mgA m).getD 40 d=.v m.ps.val)∧(∀d,(mgA m).getD 41 d=.v m.xs.val)∧(∀d,(mgA m).getD 42 d=.v (.int .i64 m.re)):=Ss h
theorem A2j {k pl ot cl ge nu:At} {sm:List UInt8} {i n p x r:At} (h:sm.length=32):((mgL k pl ot cl ge nu sm i n p x r).drop 6).take 32=sm.map f8:=by
 have e:(mgL k pl ot cl ge nu sm i n p x r).drop 6=sm.map f8++[i,n,p,x,r]:=rfl
 rw[e,List.take_append_of_le_length (by simp [h]),List.take_of_length_le (by simp [h])]
theorem Gw {m:MgR} (h:m.sm.length=32):((mgA m).drop 6).take 32=m.sm.map f8:=A2j h
theorem St {q:At→Prop} {k pl ot cl ge nu:At} {sm:List UInt8} {i n p x r:At} (h0:∀y:UInt8,q (.v (vU8 y))) (h1:q k) (h2:q pl) (h3:q ot) (h4:q cl) (h5:q ge) (h6:q nu) (h7:q i) (h8:q n) (h9:q p) (h10:q x) (h11:q r):∀y∈mgL k pl ot cl ge nu sm i n p x r,q y:=fun y hy=>by
 unfold mgL at hy
 simp only[List.mem_append,List.mem_cons,List.mem_map,List.not_mem_nil,or_false] at hy
 rcases hy with (rfl|rfl|rfl|rfl|rfl|rfl)|⟨z,_,rfl⟩|rfl|rfl|rfl|rfl|rfl
 ·exact h1
 ·exact h2
 ·exact h3
 ·exact h4
 ·exact h5
 ·exact h6
 ·exact h0 z
 ·exact h7
 ·exact h8
 ·exact h9
 ·exact h10
 ·exact h11
theorem Wb {q:At→Prop} (m:MgR) (h:∀v:Value,v.oneCell'=true→scalar v→q (.v v)):(∀x∈mgA m,q x)=True:=eq_true (St (fun _=>h _ rfl trivial) (h _ rfl trivial) (h _ rfl trivial) (h _ rfl trivial) (h _ rfl trivial) (h _ rfl trivial) (h _ rfl trivial) (h _ rfl trivial) (h _ rfl trivial) (h _ rfl trivial) (h _ rfl trivial) (h _ rfl trivial))
theorem A2k (m:MgR) (hp:List Res):(∀x∈mgA m,x.scalar hp)=True:=Wb m fun v _ h=>h
theorem C1 (m:MgR) (hp:List Res):(∀x∈mgA m,x.one hp)=True:=Wb m fun v h _=>h
theorem Co (m:MgR) (n:Nat):(∀x∈mgA m,x.bnd n)=True:=Wb m fun v _ _=>trivial
theorem Wc (ρ:List Nat) (k pl ot cl ge nu:At) (sm:List UInt8) (i n p x r:At):(mgL k pl ot cl ge nu sm i n p x r).map (At.ren ρ)=mgL (k.ren ρ) (pl.ren ρ) (ot.ren ρ) (cl.ren ρ) (ge.ren ρ) (nu.ren ρ) sm (i.ren ρ) (n.ren ρ) (p.ren ρ) (x.ren ρ) (r.ren ρ):=by
 unfold mgL
 rw[List.map_append,List.map_append,List.map_map]
 rfl
theorem Ab3 (m:MgR) (ρ:List Nat):(mgA m).map (At.ren ρ)=mgA m:=Wc ..
theorem A2l (m:MgR) (n:Nat):Sc.bnd n (.g (mgA m))=True:=Co m n
theorem Ba (m:MgR) (hp:List Res):Sc.cont hp (.g (mgA m))=(True,.c (mgA m)):=by
 show (_,_)=_
 rw[A2k]
theorem Ak (m:MgR) (ρ:List Nat):Cont.ren ρ (.c (mgA m))=.c (mgA m):=by
 show Cont.c _=_
 rw[Ab3]
theorem Lu (m:MgR) (ρ:List Nat):Sc.ren ρ (.g (mgA m))=.g (mgA m):=by
 show Sc.g _=_
 rw[Ab3]
def Dg (w0:World) (hp:List Res) (sv:Sv) (m:MgS):Prop:=∀γ w,Sat w0 No γ hp w→∃a:MgR,sv.val γ=.agg (mgV a).toArray∧a.Ok w∧a.mg=m
theorem Dh {w0:World} {hp:List Res} {a:MgR} (h:a.Ok w0):Dg w0 hp (.x (.g (mgA a))) a.mg:=fun γ w hS=>⟨a,Es a γ,h.later hS,rfl⟩
theorem Kd (m:MgR) (γ γ':List Nm):(Sv.x (.g (mgA m))).val γ=(Sv.x (.g (mgA m))).val γ':=by rw[Es,Es]
def zeroR:MgR:=⟨0,0,0,0,0,0,List.replicate 32 0,default,default,default,default,0⟩
theorem A2m:ZOk Tryd.prog 89 (.c (.v (.int .u8 0):: .v (.int .i64 0):: .v (.int .i64 0):: .v (.int .i64 0):: .v (.int .i64 0):: .v (.int .u64 0)::(List.map f8 (List.replicate 32 0)++[.v (.slice none 0 0),.v (.slice none 0 0),.v (.slice none 0 0),.v (.slice none 0 0),.v (.int .i64 0)])))=True:=
 eq_true ⟨.agg ([Value.int .u8 0,.int .i64 0,.int .i64 0,.int .i64 0,.int .i64 0,.int .u64 0]++(List.replicate 32 (Value.int .u8 0)++[Value.slice none 0 0,.slice none 0 0,.slice none 0 0,.slice none 0 0,.int .i64 0])).toArray,by kernel_rfl,fun _=>rfl⟩
theorem B4:(.v (.int .u8 0):: .v (.int .i64 0):: .v (.int .i64 0):: .v (.int .i64 0):: .v (.int .i64 0):: .v (.int .u64 0)::(List.map f8 (List.replicate 32 0)++[.v (.slice none 0 0),.v (.slice none 0 0),.v (.slice none 0 0),.v (.slice none 0 0),.v (.int .i64 0)]))=mgA zeroR:=rfl
theorem Cv:ZOk Tryd.prog 89 (.c (mgA zeroR))=True:=by rw[←B4];exact A2m
theorem B5:(mgA zeroR).length=43:=rfl
theorem A2n {n most:Int} (h:0≤n) (h2:n≤most):wiM n most=true:=decide_eq_true ⟨h,h2⟩
theorem A2o {n most:Int} (h:¬0≤n):wiM n most=false:=decide_eq_false fun e=>h e.1
theorem A2p {n most:Int} (h:¬n≤most):wiM n most=false:=decide_eq_false fun e=>h e.2
attribute [local irreducible] Af Ad Av Bh Bf A6 Aw A9
attribute [local irreducible] wiM
section
variable {w0:World} {ow:Nat→Prop} {hp:List Res}
set_option maxRecDepth 100000 in
theorem A2q (n most:Int) (w:World):Calls Tryd.prog 134 #[.int .i64 n,.int .i64 most] w fun e w'=>e=.returned (.bool (wiM n most))∧Below w.heap.size w w':=by
 refine By (n:=12) Tryd.func134 rfl Tryd.ntmps134 [.x (.a (.v (.int .i64 n))),.x (.a (.v (.int .i64 most)))] (by simp) (.x (.a (.v (.bool (wiM n most))))) (fun _=>rfl) ?_
 by_cases h:0≤n
 ·by_cases h1:n≤most
  ·have hd:=A2n h h1
   simp (maxSteps:=10^6) only[h,h1,hd,push_cast,↓reduceIte,reduceCtorEq,Nat.reduceEqDiff,Nat.reduceLT]
   done
  ·have hd:=A2p h1
   simp (maxSteps:=10^6) only[h,h1,hd,push_cast,↓reduceIte,reduceCtorEq,Nat.reduceEqDiff,Nat.reduceLT]
   done
 ·have hd:=A2o (most:=most) h
  simp (maxSteps:=10^6) only[h,hd,undef,push_cast,↓reduceIte,reduceCtorEq,Nat.reduceEqDiff,Nat.reduceLT]
  done
theorem O9 (n most:Int):Ad Tryd.prog w0 ow 134 [.x (.a (.v (.int .i64 n))),.x (.a (.v (.int .i64 most)))] hp (.x (.a (.v (.bool (wiM n most))))) hp:=Ca fun γ w _=>A2q n most w
def Nb (k:UInt8):List Sc:=[.a (.v (.string (Fa (Hx k).1))),.a (.v (.string (Fa (Hx k).2)))]
set_option maxRecDepth 100000 in
set_option maxHeartbeats 2000000 in
theorem A2r (k:UInt8) (w:World):Calls Tryd.prog 100 #[vU8 k] w fun e w'=>e=.returned ((Sv.t (Nb k)).val [])∧Below w.heap.size w w':=by
 refine By (n:=43) Tryd.func100 rfl Tryd.ntmps100 [.x (.a (.v (vU8 k)))] (by simp) (.t (Nb k)) (fun _=>rfl) ?_
 unfold Nb Hx
 by_cases h:k=1
 ·have g1:(k=1)=True:=eq_true h
  simp (maxSteps:=10^6) only[g1,push_cast,↓reduceIte,reduceCtorEq,Nat.reduceEqDiff,Nat.reduceLT]
  rfl
 have g1:(k=1)=False:=eq_false h
 clear h
 by_cases h:k=2
 ·have g2:(k=2)=True:=eq_true h
  simp (maxSteps:=10^6) only[g1,g2,push_cast,↓reduceIte,reduceCtorEq,Nat.reduceEqDiff,Nat.reduceLT]
  rfl
 have g2:(k=2)=False:=eq_false h
 clear h
 by_cases h:k=3
 ·have g3:(k=3)=True:=eq_true h
  simp (maxSteps:=10^6) only[g1,g2,g3,push_cast,↓reduceIte,reduceCtorEq,Nat.reduceEqDiff,Nat.reduceLT]
  rfl
 have g3:(k=3)=False:=eq_false h
 clear h
 by_cases h:k=4
 ·have g4:(k=4)=True:=eq_true h
  simp (maxSteps:=10^6) only[g1,g2,g3,g4,push_cast,↓reduceIte,reduceCtorEq,Nat.reduceEqDiff,Nat.reduceLT]
  rfl
 have g4:(k=4)=False:=eq_false h
 clear h
 by_cases h:k=5
 ·have g5:(k=5)=True:=eq_true h
  simp (maxSteps:=10^6) only[g1,g2,g3,g4,g5,push_cast,↓reduceIte,reduceCtorEq,Nat.reduceEqDiff,Nat.reduceLT]
  rfl
 have g5:(k=5)=False:=eq_false h
 clear h
 by_cases h:k=6
 ·have g6:(k=6)=True:=eq_true h
  simp (maxSteps:=10^6) only[g1,g2,g3,g4,g5,g6,push_cast,↓reduceIte,reduceCtorEq,Nat.reduceEqDiff,Nat.reduceLT]
  rfl
 have g6:(k=6)=False:=eq_false h
 clear h
 by_cases h:k=7
 ·have g7:(k=7)=True:=eq_true h
  simp (maxSteps:=10^6) only[g1,g2,g3,g4,g5,g6,g7,push_cast,↓reduceIte,reduceCtorEq,Nat.reduceEqDiff,Nat.reduceLT]
  rfl
 have g7:(k=7)=False:=eq_false h
 clear h
 by_cases h:k=8
 ·have g8:(k=8)=True:=eq_true h
  simp (maxSteps:=10^6) only[g1,g2,g3,g4,g5,g6,g7,g8,push_cast,↓reduceIte,reduceCtorEq,Nat.reduceEqDiff,Nat.reduceLT]
  rfl
 have g8:(k=8)=False:=eq_false h
 clear h
 by_cases h:k=9
 ·have g9:(k=9)=True:=eq_true h
  simp (maxSteps:=10^6) only[g1,g2,g3,g4,g5,g6,g7,g8,g9,push_cast,↓reduceIte,reduceCtorEq,Nat.reduceEqDiff,Nat.reduceLT]
  rfl
 have g9:(k=9)=False:=eq_false h
 clear h
 by_cases h:k=10
 ·have g10:(k=10)=True:=eq_true h
  simp (maxSteps:=10^6) only[g1,g2,g3,g4,g5,g6,g7,g8,g9,g10,push_cast,↓reduceIte,reduceCtorEq,Nat.reduceEqDiff,Nat.reduceLT]
  rfl
 have g10:(k=10)=False:=eq_false h
 clear h
 by_cases h:k=11
 ·have g11:(k=11)=True:=eq_true h
  simp (maxSteps:=10^6) only[g1,g2,g3,g4,g5,g6,g7,g8,g9,g10,g11,push_cast,↓reduceIte,reduceCtorEq,Nat.reduceEqDiff,Nat.reduceLT]
  rfl
 have g11:(k=11)=False:=eq_false h
 clear h
 by_cases h:k=12
 ·have g12:(k=12)=True:=eq_true h
  simp (maxSteps:=10^6) only[g1,g2,g3,g4,g5,g6,g7,g8,g9,g10,g11,g12,push_cast,↓reduceIte,reduceCtorEq,Nat.reduceEqDiff,Nat.reduceLT]
  rfl
 have g12:(k=12)=False:=eq_false h
 clear h
 by_cases h:k=13
 ·have g13:(k=13)=True:=eq_true h
  simp (maxSteps:=10^6) only[g1,g2,g3,g4,g5,g6,g7,g8,g9,g10,g11,g12,g13,push_cast,↓reduceIte,reduceCtorEq,Nat.reduceEqDiff,Nat.reduceLT]
  rfl
 have g13:(k=13)=False:=eq_false h
 clear h
 by_cases h:k=14
 ·have g14:(k=14)=True:=eq_true h
  simp (maxSteps:=10^6) only[g1,g2,g3,g4,g5,g6,g7,g8,g9,g10,g11,g12,g13,g14,push_cast,↓reduceIte,reduceCtorEq,Nat.reduceEqDiff,Nat.reduceLT]
  rfl
 have g14:(k=14)=False:=eq_false h
 clear h
 by_cases h:k=15
 ·have g15:(k=15)=True:=eq_true h
  simp (maxSteps:=10^6) only[g1,g2,g3,g4,g5,g6,g7,g8,g9,g10,g11,g12,g13,g14,g15,push_cast,↓reduceIte,reduceCtorEq,Nat.reduceEqDiff,Nat.reduceLT]
  rfl
 have g15:(k=15)=False:=eq_false h
 clear h
 by_cases h:k=16
 ·have g16:(k=16)=True:=eq_true h
  simp (maxSteps:=10^6) only[g1,g2,g3,g4,g5,g6,g7,g8,g9,g10,g11,g12,g13,g14,g15,g16,push_cast,↓reduceIte,reduceCtorEq,Nat.reduceEqDiff,Nat.reduceLT]
  rfl
 have g16:(k=16)=False:=eq_false h
 clear h
 by_cases h:k=17
 ·have g17:(k=17)=True:=eq_true h
  simp (maxSteps:=10^6) only[g1,g2,g3,g4,g5,g6,g7,g8,g9,g10,g11,g12,g13,g14,g15,g16,g17,push_cast,↓reduceIte,reduceCtorEq,Nat.reduceEqDiff,Nat.reduceLT]
  rfl
 have g17:(k=17)=False:=eq_false h
 clear h
 by_cases h:k=18
 ·have g18:(k=18)=True:=eq_true h
  simp (maxSteps:=10^6) only[g1,g2,g3,g4,g5,g6,g7,g8,g9,g10,g11,g12,g13,g14,g15,g16,g17,g18,push_cast,↓reduceIte,reduceCtorEq,Nat.reduceEqDiff,Nat.reduceLT]
  rfl
 have g18:(k=18)=False:=eq_false h
 clear h
 by_cases h:k=19
 ·have g19:(k=19)=True:=eq_true h
  simp (maxSteps:=10^6) only[g1,g2,g3,g4,g5,g6,g7,g8,g9,g10,g11,g12,g13,g14,g15,g16,g17,g18,g19,push_cast,↓reduceIte,reduceCtorEq,Nat.reduceEqDiff,Nat.reduceLT]
  rfl
 have g19:(k=19)=False:=eq_false h
 clear h
 simp (maxSteps:=10^6) only[g1,g2,g3,g4,g5,g6,g7,g8,g9,g10,g11,g12,g13,g14,g15,g16,g17,g18,g19,push_cast,↓reduceIte,reduceCtorEq,Nat.reduceEqDiff,Nat.reduceLT]
 rfl
theorem Ab4 (k:UInt8):Ad Tryd.prog w0 ow 100 [.x (.a (.v (vU8 k)))] hp (.t (Nb k)) hp:=Ca fun γ w _=>A2r k w
def Hf (k:UInt8):ByteArray:=Fa (Hx k).1
def Ah (k:UInt8):ByteArray:=Fa (Aj k)
set_option maxRecDepth 100000 in
theorem A2s (k:UInt8) (w:World):Calls Tryd.prog 48 #[vU8 k] w fun e w'=>e=.returned (.string (Ah k))∧Below w.heap.size w w':=by
 refine By (n:=11) Tryd.func48 rfl Tryd.ntmps48 [.x (.a (.v (vU8 k)))] (by simp) (.x (.a (.v (.string (Ah k))))) (fun _=>rfl) ?_
 simp (maxSteps:=10^6) only[push_cast,↓reduceIte,reduceCtorEq,Nat.reduceLT]
 (repeat (refine And.intro (by first|omega|decide) ?_))
 refine A8 rfl Aar rfl (Ab4 k) (Aa rfl) ?_
 unfold Nb Ah Aj
 simp (maxSteps:=10^6) only[push_cast,↓reduceIte,Nat.reduceEqDiff,Nat.reduceLT]
 done
theorem Ke (k:UInt8):Ad Tryd.prog w0 ow 48 [.x (.a (.v (vU8 k)))] hp (.x (.a (.v (.string (Ah k))))) hp:=Ca fun γ w _=>A2s k w
set_option maxRecDepth 100000 in
theorem A2t (k:UInt8) (w:World):Calls Tryd.prog 50 #[vU8 k] w fun e w'=>e=.returned (.string (Hf k))∧Below w.heap.size w w':=by
 refine By (n:=11) Tryd.func50 rfl Tryd.ntmps50 [.x (.a (.v (vU8 k)))] (by simp) (.x (.a (.v (.string (Hf k))))) (fun _=>rfl) ?_
 simp (maxSteps:=10^6) only[push_cast,↓reduceIte,reduceCtorEq,Nat.reduceLT]
 (repeat (refine And.intro (by first|omega|decide) ?_))
 refine A8 rfl Aar rfl (Ab4 k) (Aa rfl) ?_
 unfold Nb Hf
 simp (maxSteps:=10^6) only[push_cast,↓reduceIte,Nat.reduceEqDiff,Nat.reduceLT]
 done
theorem Pa (k:UInt8):Ad Tryd.prog w0 ow 50 [.x (.a (.v (vU8 k)))] hp (.x (.a (.v (.string (Hf k))))) hp:=Ca fun γ w _=>A2t k w
end
end Go.Proofs.YtiaeollemmkclaaDoor
