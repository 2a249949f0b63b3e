import Derived.Test.YtedaafmfjhjfmaaGreatDoorLf1
import Derived.Test.YtedaafmfjhjfmaaGreatDoorLfG
/- The plain law of layer 28: what a new leaf has; what its partial sums up. No program in sight. -/
namespace Go.Proofs.YtedaafmfjhjfmaaGreatDoor
set_option linter.unusedVariables false
theorem Abn {n:Int}:∀{gs:List GrS} {last:Int} {seen out:List Int},Gz n gs last seen=some out→∀g∈gs,Br (-1) g.ids=true∧1≤g.need∧g.need≤g.ids.length
 |[],_,_,_,_,g,hg=>by cases hg
 |a::gs,last,seen,out,h,g,hg=>by
  rw[Gz] at h
  by_cases hf:Gy n a last seen=true
  ·rw[if_pos hf] at h
   rcases List.mem_cons.1 hg with rfl|hg
   ·unfold Gy at hf
    simp only[Bool.and_eq_true] at hf
    obtain⟨⟨⟨⟨_,h1⟩,h2⟩,_⟩,h3⟩:=hf
    have h3:=Ji.1 h3
    have h1:=Ji.1 h1
    exact⟨h2,by omega,h3.2⟩
   ·exact Abn h g hg
  ·rw[if_neg hf] at h
   cases h
theorem Rq {c:CfS} (h:cfF c=true) {g:GrS} (hg:g∈c.groups):(1≤c.dim∧c.dim≤32)∧(1≤c.term∧c.term≤1000)∧Br (-1) g.ids=true∧1≤g.need∧g.need≤g.ids.length:=by
 unfold cfF at h
 simp only[Bool.and_eq_true] at h
 obtain⟨⟨⟨⟨h1,h2⟩,_⟩,h3⟩,_⟩:=h
 refine⟨Ji.1 h1,Ji.1 h2,?_⟩
 unfold grF at h3
 by_cases hl:1≤c.groups.length∧c.groups.length < c.places.length
 ·rw[if_pos hl] at h3
  cases hgo:Gz c.places.length c.groups 0 [] with
  |none=>rw[hgo] at h3;cases h3
  |some out=>exact Abn hgo g hg
 ·rw[if_neg hl] at h3;cases h3
def LfS.new (c:CfS) (g:GrS) (place gen parent:Int) (above:List Int):LfS:=
 ⟨place,gen,c.dim,c.term,g.need,parent,above,g.ids,0,g.ids,Tal.new g.ids g.need c.term,[],[],[],[],Ko⟩
theorem A2d {c:CfS} (h:cfF c=true) {g:GrS} (hg:g∈c.groups) (place gen parent:Int) (above:List Int):LfInv (LfS.new c g place gen parent above) [] none:=by
 obtain⟨h1,_,h3,h4,h5⟩:=Rq h hg
 exact⟨h4,rfl,rfl,fun _=>h5,h3,rfl,fun x hx=>(by cases hx),⟨by have:=h1.1;show 0≤c.dim;omega,h1.2⟩,.inl rfl,fun _=>⟨rfl,rfl⟩,fun q=>(by rcases q with q|q<;>cases q),fun _=>rfl,fun q=>(by cases q)⟩
theorem A2e {a b:List UInt32} (h:a.length=b.length):(Im a b).length=a.length:=by
 unfold Im
 rw[List.length_zipWith]
 omega
def Ky (R:List (Int×List UInt32)):List Int→List UInt32→List UInt32
 |[],r=>r
 |id::ids,r=>Ky R ids (Im r ((Aq R id).getD []))
theorem A2f (s:LfS) (ids:List Int):s.rowSum ids=Ky s.rows ids (List.replicate s.dim.toNat 0):=by
 have h:∀(l:List Int) (r:List UInt32),l.foldl (fun r id=>Im r ((Aq s.rows id).getD [])) r=Ky s.rows l r:=fun l=>by
  induction l with
  |nil=>exact fun _=>rfl
  |cons id l ih=>exact fun r=>ih _
 exact h ids _
theorem A2g {s:LfS} {R:List (Int×List UInt32)} {told:Option MgS} (h:LfInv s R told) (hp:s.phase=3):
  Ky R s.sum.ids (List.replicate s.dim.toNat 0)=s.sum.xs∧s.sum.ids.length=R.length∧1≤s.sum.ids.length∧s.sum.ids.length≤s.sum.ps.length∧(∀t,told=some t→t=s.sum)∧
  (∀x∈s.sum.ids,∃r,Aq R x=some r∧(r.length:Int)=s.dim)∧LfInv s R (some s.sum):=by
 obtain⟨r1,r2,r3,r4⟩:=h.rows (.inr hp)
 obtain⟨t1,t2,t3,t4,t5,t6⟩:=h.told hp
 refine⟨?_,by rw[t3,r2],t6,t5,fun t ht=>?_,fun x hx=>?_,⟨h.need,h.tneed,h.twho,h.wlen,h.wset,h.inset,h.sub,h.dim,h.ph,h.early,h.rows,fun q=>absurd hp q,fun _=>⟨.inr rfl,t2,t3,t4,t5,t6⟩⟩⟩
 ·rw[t4,A2f,r1,t3]
 ·rcases t1 with e|e
  ·rw[e] at ht;cases ht
  ·rw[e] at ht;exact (Option.some.inj ht).symm
 ·rw[t3] at hx
  obtain⟨r,hr⟩:=(r3 x).1 hx
  exact⟨r,hr,r4 x r hr⟩
end Go.Proofs.YtedaafmfjhjfmaaGreatDoor
/- A tally and a leaf (layers 23 and 28), as they lie there. -/
namespace Go.Proofs.YtedaafmfjhjfmaaGreatDoor
open Go.RowKit
set_option linter.unusedSimpArgs false
set_option linter.unusedVariables false
def Hy (l:List Int):List Value:=l.map (Value.int .i64)
def SlF {α:Type} (Fs:List Fct) (s:SlV α) (vs:List Value):Prop:=s=⟨none,0,[]⟩∨(⟨s.val,s.l.length,vs⟩:Fct)∈Fs
theorem SlF.more {α:Type} {Fs Gs:List Fct} {s:SlV α} {vs:List Value} (h:SlF Fs s vs) (hg:∀f∈Fs,f∈Gs):SlF Gs s vs:=h.imp id (hg _)
theorem SlF.left {α:Type} {Fs Gs:List Fct} {s:SlV α} {vs:List Value} (h:SlF Fs s vs):SlF (Fs++Gs) s vs:=h.more fun f hf=>List.mem_append_left _ hf
theorem SlF.new {α:Type} {Fs:List Fct} {A:Option Addr} {c:Nat} {l:List α} {vs:List Value} {n:Nat} (hn:n=l.length) (h:(⟨.slice A n c,n,vs⟩:Fct)∈Fs):SlF Fs ⟨A,c,l⟩ vs:=by subst hn;exact .inr h
def Known (w:World) (B:Nat→Prop) (Fs:List Fct):Prop:=∀f∈Fs,∃A c,f.v=.slice A f.n c∧f.n≤c∧FW w B A f.vs
theorem Known.mono {w:World} {B:Nat→Prop} {Fs Gs:List Fct} (h:Known w B Fs) (hg:∀f∈Gs,f∈Fs):Known w B Gs:=fun f hf=>h f (hg f hf)
theorem Nr {w:World} {B:Nat→Prop} {Fs Gs:List Fct} (h:Known w B Fs) (k:Known w B Gs):Known w B (Fs++Gs):=fun f hf=>by
 rcases List.mem_append.1 hf with hf|hf
 ·exact h f hf
 ·exact k f hf
theorem A2h {w0 w:World} {ow B:Nat→Prop} {γ:List Nm} {hp:List Res} {k:Nat} {Fs:List Fct} (hS:Sat w0 ow γ hp w) (hk:hp[k]?=some (.abs (Aa Fs))) (ks:List Nat) (hn:k∉ks) (hB:∀b,B b→∃(k:Nat) (r:Res),k∈ks∧hp[k]?=some r∧r.has γ k b):Known w B Fs:=fun f hf=>by
 obtain⟨_,_,_,hall⟩:=hS.holds k _ hk
 obtain⟨A,c,h1,h2,h3,_⟩:=hall f hf
 refine⟨A,c,h1,h2,A16 (n:=f.n) (c:=c) (vs:=f.vs) hS hk ?_ (Sub.refl _ _) ks hn hB⟩
 obtain⟨v,n,vs⟩:=f
 dsimp only at h1
 rw[←h1]
 exact hf
theorem L8 {w0 w:World} {ow B:Nat→Prop} {γ:List Nm} {hp:List Res} {Fs:List Fct} (hS:Sat w0 ow γ hp w) (h:Known w0 ow Fs) (hB:∀b,B b→Ic w0 ow b):Known w B Fs:=fun f hf=>by
 obtain⟨A,c,h1,h2,h3⟩:=h f hf
 refine⟨A,c,h1,h2,fun hp=>?_,fun hp a ha hb=>?_⟩
 ·obtain⟨b,off,h4,h5,h6⟩:=h3.rd hp
  have hno:=h3.far hp _ h4
  exact⟨b,off,h4,Nat.lt_of_lt_of_le h5 hS.keeps.size,fun j u hu=>(World.cell?_of_block (hS.keeps.block b h5 hno)).trans (h6 j u hu)⟩
 ·obtain⟨b,off,h4,h5,h6⟩:=h3.rd hp
  rw[h4] at ha
  cases ha
  rcases hB b hb with h7|h7
  ·exact h3.far hp _ h4 h7
  ·omega
theorem Known.fw {α:Type} {w:World} {B:Nat→Prop} {Fs:List Fct} {s:SlV α} {vs:List Value} (hk:Known w B Fs) (h:SlF Fs s vs) (hn:s=⟨none,0,[]⟩→vs=[]):s.l.length≤s.c∧FW w B s.A vs:=by
 rcases h with e|e
 ·rw[hn e,e];exact⟨Nat.le_refl _,RdV.nil_,fun h=>absurd h (by simp)⟩
 ·obtain⟨A,c,h1,h2,h3⟩:=hk _ e
  have h1:Value.slice s.A s.l.length s.c=.slice A s.l.length c:=h1
  injection h1 with e1 _ e3
  rw[←e3] at h2
  rw[←e1] at h3
  exact⟨h2,h3⟩
structure TalR where
 who:SlV Int
 inn:SlV Int
 gone:SlV Int
 need:Int
 term:Int
 went:Int
def TalR.t (r:TalR):Tal:=⟨r.who.l,r.inn.l,r.gone.l,r.need,r.term,r.went⟩
def tlV (r:TalR):List Value:=[r.who.val,r.inn.val,r.gone.val,.int .i64 r.need,.int .i64 r.term,.int .i64 r.went]
def tlA (r:TalR):List At:=[.v r.who.val,.v r.inn.val,.v r.gone.val,.v (.int .i64 r.need),.v (.int .i64 r.term),.v (.int .i64 r.went)]
structure TalOk (Fs:List Fct) (r:TalR):Prop where
 who:SlF Fs r.who (Hy r.who.l)
 inn:SlF Fs r.inn (Hy r.inn.l)
 gone:SlF Fs r.gone (Hy r.gone.l)
 few1:r.who.l.length≤1000
 few2:r.inn.l.length≤1000
 few3:r.gone.l.length≤1000
 need:0≤r.need∧r.need≤1000
 went:0≤r.went∧r.went≤1000∧0≤r.term∧r.term≤1000
theorem TalOk.more {Fs Gs:List Fct} {r:TalR} (h:TalOk Fs r) (hg:∀f∈Fs,f∈Gs):TalOk Gs r:=⟨h.who.more hg,h.inn.more hg,h.gone.more hg,h.few1,h.few2,h.few3,h.need,h.went⟩
structure LfR where
 place:Int
 gen:Int
 dim:Int
 term:Int
 need:Int
 parent:Int
 above:SlV Int
 group:SlV Int
 phase:Int
 waits:SlV Int
 ty:TalR
 joined:SlV Int
 pub:List (Int×UInt64)
 boxes:List (Int×SlV UInt64)
 rows:List (Int×SlV UInt32)
 sum:MgR
 live:Bool
def Bn {α β:Type} (f:α→β) (l:List (Int×α)):List (Int×β):=l.map fun p=>(p.1,f p.2)
def LfR.s (r:LfR):LfS:=⟨r.place,r.gen,r.dim,r.term,r.need,r.parent,r.above.l,r.group.l,r.phase,r.waits.l,r.ty.t,r.joined.l,r.pub,Bn SlV.l r.boxes,Bn SlV.l r.rows,r.sum.mg⟩
def lfA (r:LfR):List At:=[.v (.int .i64 r.place),.v (.int .i64 r.gen),.v (.int .i64 r.dim),.v (.int .i64 r.term),.v (.int .i64 r.need),.v (.int .i64 r.parent),.v r.above.val,.v r.group.val,.v (.int .i64 r.phase),.v r.waits.val,.p 1 0,.v r.joined.val,.o 2,.o 3,.o 4]++mgA r.sum
def puE (l:List (Int×UInt64)):List (Int×Sc):=Bn (fun x=>.a (.v (vU64 x))) l
def slE {α:Type} (l:List (Int×SlV α)):List (Int×Sc):=Bn (fun x=>.a (.v x.val)) l
def bxR (r:LfR):Res:=if r.live=true then .mp .i64 (slE r.boxes) else .gone
def lfB (g:Nat) (r:LfR):List Res:=[.pin g 104 (.c (lfA r)),.blk 170 (.c (tlA r.ty)),.mp .i64 (puE r.pub),bxR r,.mp .i64 (slE r.rows)]
structure LfOk (Fs:List Fct) (r:LfR):Prop where
 above:SlF Fs r.above (Hy r.above.l)
 group:SlF Fs r.group (Hy r.group.l)
 waits:SlF Fs r.waits (Hy r.waits.l)
 joined:SlF Fs r.joined (Hy r.joined.l)
 ty:TalOk Fs r.ty
 boxes:∀p∈r.boxes,SlF Fs p.2 (p.2.l.map vU64)
 rows:∀p∈r.rows,SlF Fs p.2 (p.2.l.map Ak)
 sum:MOk Fs r.sum
 few1:r.above.l.length≤1000
 few2:r.group.l.length≤1000
 few3:r.waits.l.length≤1000
 few4:r.joined.l.length≤1000
 few5:∀p∈r.boxes,p.2.l.length≤1000
 few6:∀p∈r.rows,p.2.l.length≤1000
 dim:0≤r.dim∧r.dim≤32
 need:0≤r.need∧r.need≤1000
 term:0≤r.term∧r.term≤1000
theorem LfOk.more {Fs Gs:List Fct} {r:LfR} (h:LfOk Fs r) (hg:∀f∈Fs,f∈Gs):LfOk Gs r:=
 ⟨h.above.more hg,h.group.more hg,h.waits.more hg,h.joined.more hg,h.ty.more hg,fun p hp=>(h.boxes p hp).more hg,fun p hp=>(h.rows p hp).more hg,h.sum.more hg,h.few1,h.few2,h.few3,h.few4,h.few5,h.few6,h.dim,h.need,h.term⟩
theorem Abo (n:Nat) (l:List (Int×UInt64)):Hg n (puE l)=True:=eq_true fun p hp=>by
 unfold puE Bn at hp
 obtain⟨q,_,rfl⟩:=List.mem_map.1 hp
 trivial
theorem Rr {α:Type} (n:Nat) (l:List (Int×SlV α)):Hg n (slE l)=True:=eq_true fun p hp=>by
 unfold slE Bn at hp
 obtain⟨q,_,rfl⟩:=List.mem_map.1 hp
 trivial
theorem Abp (ρ:List Nat) (l:List (Int×UInt64)):Fc ρ (puE l)=puE l:=by
 unfold Fc puE Bn
 rw[List.map_map]
 rfl
theorem Rt {α:Type} (ρ:List Nat) (l:List (Int×SlV α)):Fc ρ (slE l)=slE l:=by
 unfold Fc slE Bn
 rw[List.map_map]
 rfl
theorem Hz (j:Nat) (v:Value) (l:List (Int×UInt64)):D5 j v (puE l)=puE l:=by
 unfold D5 puE Bn
 rw[List.map_map]
 rfl
theorem Gg {α:Type} (j:Nat) (v:Value) (l:List (Int×SlV α)):D5 j v (slE l)=slE l:=by
 unfold D5 slE Bn
 rw[List.map_map]
 rfl
theorem Af (n:Nat) (r:LfR):Res.bnd n (bxR r)=True:=by
 unfold bxR
 split
 ·exact Rr n _
 ·rfl
theorem Ax (ρ:List Nat) (r:LfR):Res.ren ρ (bxR r)=bxR r:=by
 unfold bxR
 split
 ·show Res.mp _ _=_
  rw[Rt]
 ·rfl
theorem Io (j:Nat) (v:Value) (r:LfR):Res.sub j v (bxR r)=bxR r:=by
 unfold bxR
 split
 ·show Res.mp _ _=_
  rw[Gg]
 ·rfl
theorem A2i (a:Nat) (r:LfR):Res.av a (bxR r)=True:=by
 unfold bxR
 split
 ·exact eq_true fun p hp=>by
   unfold slE Bn at hp
   obtain⟨q,_,rfl⟩:=List.mem_map.1 hp
   trivial
 ·rfl
attribute [push_cast] Abo Rr Abp Rt Hz Gg
attribute [push_cast] avK At.av Sc.av Sv.av Cont.av Res.av
theorem Dg (m:MgR) (a:Nat):(∀x∈mgA m,x.av a)=True:=Ni m fun _ _ _=>trivial
theorem Ip (m:MgR) (j:Nat) (v:Value):(mgA m).map (At.sub j v)=mgA m:=by
 unfold mgA mgL
 rw[List.map_append,List.map_append,List.map_map]
 rfl
theorem Ar (g:Nat) (r:LfR):∀x∈lfB g r,Res.bnd (lfB g r).length x:=by
 show ∀x∈lfB g r,Res.bnd 5 x
 unfold lfB lfA tlA
 simp only[↓List.forall_mem_cons,↓List.forall_mem_append,↓Ad,↓Af,push_cast,Nat.reduceLT]
end Go.Proofs.YtedaafmfjhjfmaaGreatDoor
