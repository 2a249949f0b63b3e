import Derived.Test.YtiaeollemmkclaaDoorMg1
import Derived.Test.YtiaeollemmkclaaDoorVs
import Derived.Test.YtiaeollemmkclaaDoorDrT
import Derived.Test.YtiaeollemmkclaaDoorPk1
import Derived.Test.YtiaeollemmkclaaDoorGhN
import Derived.Test.YtiaeollemmkclaaDoorPkI
/- Layer 21: conf.within, standing. -/
namespace Go.Proofs.YtiaeollemmkclaaDoor
open Go.RowKit
set_option linter.unusedSimpArgs false
set_option linter.unusedVariables false
attribute [local irreducible] Af Ad Av Bh Bf A6 Aw A9
attribute [local irreducible] wiF Vx
section
variable {w0:World} {ow:Nat→Prop} {hp:List Res}
end
end Go.Proofs.YtiaeollemmkclaaDoor
/- Layer 21: conf.grouped. -/
namespace Go.Proofs.YtiaeollemmkclaaDoor
open Go.RowKit
set_option linter.unusedSimpArgs false
set_option linter.unusedVariables false
attribute [local irreducible] Af Ad Av Bh Bf A6 Aw A9
attribute [local irreducible] wiF B6 Abf M4 Abi okV Vy
section
end
end Go.Proofs.YtiaeollemmkclaaDoor
/- Layer 21: the first group of a kind; conf.needed. -/
namespace Go.Proofs.YtiaeollemmkclaaDoor
open Go.RowKit
set_option linter.unusedSimpArgs false
set_option linter.unusedVariables false
def eqI (a b:Int):Bool:=decide (a=b)
def Pv (i:Int):List GrS→Nat→Int
 |[],_=>-1
 |g::r,k=>if eqI g.place i=true then (k:Int) else Pv i r (k+1)
attribute [local irreducible] Af Ad Av Bh Bf A6 Aw A9
attribute [local irreducible] wiF eqI Pv atF
def EqPl (f:FuncId):Prop:=Af Tryd.prog f∧∀(A:Option Addr) (i:Int) (w:World) (g:GrR),Vr w A [.int .i64 i]→Calls Tryd.prog f #[.agg (grV g).toArray,.pointer A] w fun e w'=>e=.returned (.bool (eqI g.place i))∧Below w.heap.size w w'
section
theorem EqPl.pure {f:FuncId} {A:Option Addr} {i:Int} {w:World} (h:EqPl f) (hv:Vr w A [.int .i64 i]):A0s Tryd.prog w (.func (.func f) #[] #[.pointer A]) (fun g:GrR=>#[.agg (grV g).toArray]) (fun g=>.bool (eqI g.place i)):=
 ⟨f,#[.pointer A],rfl,h.1,fun w' g hk=>h.2 A i w' g (hv.later hk)⟩
end
end Go.Proofs.YtiaeollemmkclaaDoor
/- Layer 21: conf.needed. -/
namespace Go.Proofs.YtiaeollemmkclaaDoor
open Go.RowKit
set_option linter.unusedSimpArgs false
set_option linter.unusedVariables false
def A9t (l:List PlS) (k:Nat):List Int:=((l.drop 1).take k).foldl Abj (List.replicate l.length 0)
attribute [local irreducible] Af Ad Av Bh Bf A6 Aw A9
attribute [local irreducible] wiF eqI Pv atF A9t Vz
section
end
end Go.Proofs.YtiaeollemmkclaaDoor
/- Layer 21: conf.Check, Clients. -/
namespace Go.Proofs.YtiaeollemmkclaaDoor
open Go.RowKit
set_option linter.unusedSimpArgs false
set_option linter.unusedVariables false
attribute [local irreducible] Af Ad Av Bh Bf A6 Aw A9
attribute [local irreducible] wiF stF grF neF okV Abk cfF
section
def A9u (gs:List GrS) (k:Nat):List Int:=(gs.take k).foldl (fun s g=>M4 s g.ids) []
attribute [local irreducible] A9u V0 M4
end
end Go.Proofs.YtiaeollemmkclaaDoor
/- Layer 22: tree.Node, Of, check, above, Above. -/
namespace Go.Proofs.YtiaeollemmkclaaDoor
open Go.RowKit
set_option linter.unusedSimpArgs false
set_option linter.unusedVariables false
def eV (n:Int):Value:=.iface 137 (.int .i64 n)
def tcF (c:CfS) (p:Int):Value:=if cfF c=true then (if 0≤p∧p < c.places.length then .nilIface else eV 2) else eV 1
def isP (c:CfS) (p:Int):Bool:=cfF c&&decide (0≤p∧p < c.places.length)
attribute [local irreducible] Af Ad Av Bh Bf A6 Aw A9
attribute [local irreducible] cfF okV tcF isP
section
def upF (l:List PlS) (q:Int):List Int:=V1 l l.length q []
attribute [local irreducible] upF abF
def ofP (c:CfS) (p:Int) (l:List Int):List Int:=if isP c p=true then l else []
attribute [local irreducible] ofP
end
end Go.Proofs.YtiaeollemmkclaaDoor
/- slices.Index, Contains of numbers; layer 22: tree.Under, Group, Below, Nodes. -/
namespace Go.Proofs.YtiaeollemmkclaaDoor
open Go.RowKit
set_option linter.unusedSimpArgs false
set_option linter.unusedVariables false
def Ad5 (n:Int):List Int→Nat→Int
 |[],_=>-1
 |x::r,k=>if n=x then (k:Int) else Ad5 n r (k+1)
def A9v (n:Int) (l:List Int):Bool:=decide (n∈l)
def A9w (l:List PlS) (p:Int) (k:Nat):List Int:=((List.range k).filter fun q=>decide ((ix l q).parent=p)).map Int.ofNat
def A9x (l:List PlS) (p:Int) (s:List Int) (g:GrS):List Int:=if g.place=p∨p∈abF l g.place.toNat then M4 s g.ids else s
def A9y (c:CfS) (p:Int) (k:Nat):List Int:=(c.groups.take k).foldl (A9x c.places p) []
attribute [local irreducible] Af Ad Av Bh Bf A6 Aw A9
attribute [local irreducible] cfF okV tcF isP ofP abF Ad5 A9v Pv
section
attribute [local irreducible] A9w A9y
def A9z (c:CfS) (p:Int):Int:=if isP c p=true then Pv p c.groups 0 else 0
attribute [local irreducible] A9z
end
end Go.Proofs.YtiaeollemmkclaaDoor
/- Layer 22: tree.Nodes; law 22's ints. -/
namespace Go.Proofs.YtiaeollemmkclaaDoor
open Go.RowKit
set_option linter.unusedSimpArgs false
set_option linter.unusedVariables false
def A90 (l:List PlS) (k:Nat):List Int:=((List.range k).flatMap (Abl l)).map Abm
def A91 (k s:Nat):List Int:=(List.range s).map fun (t:Nat)=>64+4*(k:Int)+(t:Int)
attribute [local irreducible] Af Ad Av Bh Bf A6 Aw A9
attribute [local irreducible] cfF okV V0 A90 A91
section
end
section
variable (a b:List Int) (A:Option Addr) (c:Nat) (A2:Option Addr) (c2:Nat) (w:World) (hm:a.length≤100000) (hR:RdV w w.heap.size A (a.map (Value.int .i64))) (hR2:RdV w w.heap.size A2 (b.map (Value.int .i64)))
include hm hR hR2
end
end Go.Proofs.YtiaeollemmkclaaDoor
/- Rows of structs that were built, as lists of values; groups and their clients told as one thing. No program in sight, but its types. -/
namespace Go.Proofs.YtiaeollemmkclaaDoor
open Go.RowKit
set_option linter.unusedSimpArgs false
set_option linter.unusedVariables false
def vC (vs:List Value):List At:=vs.map At.v
theorem A92:vC []=[]:=rfl
theorem Pw (a b:List Value):vC (a++b)=vC a++vC b:=List.map_append
theorem Tn (vs:List Value):(vC vs).length=vs.length:=List.length_map ..
theorem A93 (γ:List Nm) (vs:List Value):(vC vs).map (At.val γ)=vs:=by
 unfold vC
 rw[List.map_map]
 exact List.map_id' vs
theorem Ad6 (ρ:List Nat) (vs:List Value):(vC vs).map (At.ren ρ)=vC vs:=by unfold vC;rw[List.map_map];rfl
theorem A94 (j:Nat) (v:Value) (vs:List Value):(vC vs).map (At.sub j v)=vC vs:=by unfold vC;rw[List.map_map];rfl
theorem Kj {Q:At→Prop} (vs:List Value):(∀x∈vC vs,Q x)=∀v∈vs,Q (.v v):=propext List.forall_mem_map
attribute [push_cast] A92 Tn A93 Ad6 A94 Kj
def A95 (g:GrR):Fct:=⟨g.ids.val,g.ids.l.length,g.ids.l.map (Value.int .i64)⟩
def GrH (gs:List GrS) (v:Value) (B:Nat→Prop) (w:World):Prop:=∃(gR:List GrR) (A:Option Addr) (c:Nat),gR.map GrR.gr=gs∧v=.slice A gR.length c∧Fct.ok ⟨v,gR.length,gR.flatMap grV⟩ B w∧∀g∈gR,(A95 g).ok B w
def Bdb (gs:List GrS):Rep where
 H:=GrH gs
 one h:=by obtain⟨gR,A,c,_,rfl,_⟩:=h;exact⟨rfl,trivial⟩
 keep h hb hk hn:=by
  obtain⟨gR,A,c,h1,h2,h3,h4⟩:=h
  exact⟨gR,A,c,h1,h2,h3.keep hb hk hn,fun g hg=>(h4 g hg).keep hb hk hn⟩
theorem Fct.ok.rd {f:Fct} {B:Nat→Prop} {w:World} {A:Option Addr} {c:Nat} (h:f.ok B w) (hv:f.v=.slice A f.n c) (hB:∀b,B b→b < w.heap.size):f.n≤c∧RdV w w.heap.size A f.vs:=by
 obtain⟨A',c',h1,h2,h3,h4⟩:=h
 rw[hv] at h1
 injection h1 with e1 _ e3
 subst e1 e3
 refine⟨h2,fun hp=>?_⟩
 obtain⟨b,off,e,hb,h5⟩:=h4 hp
 exact⟨b,off,e,hB b hb,h5⟩
theorem A96 {w0 w:World} {ow:Nat→Prop} {γ:List Nm} {hp:List Res} {j m:Nat} {e:TypeId} {c:Cont} {vs:List Value} {n:Nat} (hS:Sat w0 ow γ hp w) (hj:hp[j]?=some (.onn e m c)) (hv:c.vals γ=vs) (hn:vs.length=n*m):
  ∃A cap,nmS γ j=.slice A n cap∧n≤cap∧Fct.ok ⟨.slice A n cap,n,vs⟩ (fun b=>(nmS γ j).ownBlock=some b) w:=by
 have h:=(hS.holds j _ hj).2
 rw[hv] at h
 have hm:=h.1
 obtain⟨A,n',cap,h1,h2,h3,h4,h5,h6,h7⟩:=h.rd
 have:n'=n:=Nat.eq_of_mul_eq_mul_right hm (by rw[←h2,hn])
 subst this
 refine⟨A,cap,h1,h3,A,cap,rfl,h3,h4,fun hp=>?_⟩
 obtain⟨b,off,rfl,_,h8⟩:=h5 hp
 exact⟨b,off,rfl,(h6 _ rfl).2.2,h8⟩
end Go.Proofs.YtiaeollemmkclaaDoor
/- law 13's read, told alike for every kind. -/
namespace Go.Proofs.YtiaeollemmkclaaDoor
open Go.RowKit
set_option linter.unusedSimpArgs false
set_option linter.unusedVariables false
def rdT (f:FdR):TypeId:=if f.k=0 then 5 else if f.k=1 then 27 else if f.k=2 then 5 else if f.k=3 then 5 else 136
def rdC (f:FdR) (s:RS):Cont:=if f.k=0 then .u8 [] else if f.k=1 then .u64 (Dd f.many f.most s).1 else if f.k=2 then .u8 (Pm f.many s).1 else if f.k=3 then .u8 [] else .u32 (Do f.many s).1
def rdN (f:FdR) (s:RS):RS:=if f.k=0 then (numS f.most s).2.2 else if f.k=1 then (Dd f.many f.most s).2 else if f.k=2 then (Pm f.many s).2 else if f.k=3 then (Dn s).2 else (Do f.many s).2
def rdA (f:FdR) (s:RS) (j:Nat):List At:=
 if f.k=0 then fdL (.v (vU8 f.k)) (.v (vU64 (numS f.most s).1)) nl nl (List.replicate 32 0) nl
 else if f.k=1 then fdL (.v (vU8 f.k)) (.v (.int .u64 0)) (.o j) nl (List.replicate 32 0) nl
 else if f.k=2 then fdL (.v (vU8 f.k)) (.v (.int .u64 0)) nl (.o j) (List.replicate 32 0) nl
 else if f.k=3 then fdL (.v (vU8 f.k)) (.v (.int .u64 0)) nl nl (Dn s).1 nl
 else fdL (.v (vU8 f.k)) (.v (.int .u64 0)) nl nl (List.replicate 32 0) (.o j)
theorem Px (ρ:List Nat) (k n l b:At) (s:List UInt8) (x:At):(fdL k n l b s x).map (At.ren ρ)=fdL (k.ren ρ) (n.ren ρ) (l.ren ρ) (b.ren ρ) s (x.ren ρ):=by
 unfold fdL
 simp only[List.map_cons,List.map_append,List.map_nil,Cq]
 rfl
theorem L6 {m:Nat} {k n l b:At} {s:List UInt8} {x:At} (h1:k.bnd m) (h2:n.bnd m) (h3:l.bnd m) (h4:b.bnd m) (h5:x.bnd m):∀y∈fdL k n l b s x,y.bnd m:=by
 intro y hy
 unfold fdL at hy
 simp only[List.mem_cons,List.mem_append,List.mem_map,List.not_mem_nil,or_false] at hy
 rcases hy with rfl|rfl|rfl|rfl|⟨z,_,rfl⟩|rfl|rfl|rfl
 ·exact h1
 ·exact h2
 ·exact h3
 ·exact h4
 ·trivial
 ·exact h5
 ·trivial
 ·trivial
theorem A97 {f:FdR} {s:RS} {X:Nat→Prop} {w:World} (h:s.Ok X w):(rdN f s).Ok X w:=by
 unfold rdN
 split
 ·exact Hh h
 ·split
  ·exact Jj h
  ·split
   ·exact Acw h
   ·split
    ·exact Wn h
    ·exact Wr h
theorem RS.From.read {s:RS} {A:Option Addr} {vs:List Value} (h:s.From A vs) (f:FdR):(rdN f s).From A vs:=fun X w hf=>A97 (h X w hf)
section
variable {X:Nat→Prop} {w:World} {s:RS}
theorem RdG.ghost {f:FuncId} {args:List Sv} {sv:Sv} {t:RS} {e:TypeId} {c:Cont} (hc:c.len=0) (hsv:sv.bnd 1) (h:RdG f args sv s t [] X w):RdG f args sv s t [.own e c] X w:=fun g γ hS=>(h g γ hS).mono (by
 rintro en w' ⟨γ1,he,h3⟩
 have hl:=h3.len
 have hcv:c.vals (γ1++[Nm.s (.slice none 0 0)])=[]:=by
  rw[←List.length_eq_zero_iff,Cont.len_vals,hc]
 have hl1:γ1.length=1:=hl
 refine⟨γ1++[.s (.slice none 0 0)],by rw[he,Sv.ext (by rw[hl1];exact hsv)],?_⟩
 refine h3.push (X:=fun _=>False) (Keeps.refl _ _) (fun b h=>h.elim) (fun r hr=>?_) ⟨by rw[D2 hl,Bb hl],?_⟩ ?_
 ·obtain rfl:r=_:=by simpa using hr
  simp only[push_cast]
 ·rw[Bb hl,hcv]
  exact Own.nil_ _ _ _
 ·intro b hb
  simp only[Res.has,Bb hl,Value.ownBlock] at hb
  cases hb)
end
end Go.Proofs.YtiaeollemmkclaaDoor
/- law 13's calls, as PackBack sees them. -/
namespace Go.Proofs.YtiaeollemmkclaaDoor
open Go.RowKit
set_option linter.unusedSimpArgs false
set_option linter.unusedVariables false
section
variable {w0 w:World} {γ:List Nm} {hp:List Res} {k0 k1 n:Nat} {r:List (List UInt8)} {s:RS} {f:FdR}
theorem FdR.Ok.later (h:f.Ok w0) (hS:Sat w0 No γ hp w):f.Ok w:=
 ⟨⟨h.l.len,Fz h.l.rd hS⟩,⟨h.b.len,Fz h.b.rd hS⟩,h.s,⟨h.x.len,Fz h.x.rd hS⟩,h.many⟩
theorem FdR.Ok.okX {X:Nat→Prop} (h:f.Ok w0) (hS:Sat w0 No γ hp w) (hX:∀b,X b→∃(k:Nat) (r:Res),hp[k]?=some r∧r.has γ k b):f.OkX X w:=
 ⟨h.later hS,(FW.no h.l.rd).call hS hX,(FW.no h.b.rd).call hS hX,(FW.no h.x.rd).call hS hX⟩
end
theorem A98 (l:List UInt64):(Bl l).length≤10*l.length:=by
 induction l with
 |nil=>simp [Bl]
 |cons v l ih=>
  have:=(Hu v).2
  simp only[Bl,List.flatMap_cons,List.length_append,List.length_cons] at ih ⊢
  omega
end Go.Proofs.YtiaeollemmkclaaDoor
