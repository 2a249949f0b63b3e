import Derived.Test.YtedaafmfjhjfmaaGreatDoorLw0
import Derived.Test.YtedaafmfjhjfmaaGreatDoorMg1
/- Layer 28 walked: readers of a leaf: Phase, peers. -/
namespace Go.Proofs.YtedaafmfjhjfmaaGreatDoor
open Go.RowKit
set_option linter.unusedSimpArgs false
set_option linter.unusedVariables false
attribute [local irreducible] Ad Ae Ah Ar Ak Am Ai Al
end Go.Proofs.YtedaafmfjhjfmaaGreatDoor
/- Layer 28 walked: peers as its callers see it; toAll. -/
namespace Go.Proofs.YtedaafmfjhjfmaaGreatDoor
open Go.RowKit
set_option linter.unusedSimpArgs false
set_option linter.unusedVariables false
attribute [local irreducible] Ad Ae Ah Ar Ak Am Ai Al
structure SnR where
 c:Bool
 to:Int
 m:MgR
def SnR.s (x:SnR):SnS:=⟨x.c,x.to,x.m.mg⟩
def snV (x:SnR):List Value:=[.bool x.c,.int .i64 x.to]++mgV x.m
def snA (x:SnR):List At:=[.v (.bool x.c),.v (.int .i64 x.to)]++mgA x.m
def snL (l:List SnR):List At:=l.flatMap snA
def OutOk (Fs:List Fct) (s:SlV SnR):Prop:=SlF Fs s (s.l.flatMap snV)∧(∀x∈s.l,MOk Fs x.m)∧s.l.length≤1000
theorem OutOk.more {Fs Gs:List Fct} {s:SlV SnR} (h:OutOk Fs s) (hg:∀f∈Fs,f∈Gs):OutOk Gs s:=⟨h.1.more hg,fun x hx=>(h.2.1 x hx).more hg,h.2.2⟩
def A7z (w0:World) (fv:Value) (l:List Int) (F:Int→MgS):Prop:=∀id∈l,A0x (ι:=MgR×List Fct) Tryz.prog w0 fv (.int .i64 id) (fun x=>x.1.mg=F id∧MOk x.2 x.1) (fun x=>.agg (mgV x.1).toArray) (fun x=>x.2)
theorem OutOk.of {Fs:List Fct} {A:Option Addr} {cap:Nat} {L:List SnR} (h:∀y∈L,MOk Fs y.m) (hl:L.length≤1000):OutOk (Fs++[⟨.slice A L.length cap,L.length,L.flatMap snV⟩]) ⟨A,cap,L⟩:=
 ⟨.inr (List.mem_append_right _ (List.mem_singleton.2 rfl)),fun y hy=>(h y hy).more fun f hf=>List.mem_append_left _ hf,hl⟩
end Go.Proofs.YtedaafmfjhjfmaaGreatDoor
/- Messages whose slices are the call's own, as cells. -/
namespace Go.Proofs.YtedaafmfjhjfmaaGreatDoor
open Go.RowKit
set_option linter.unusedSimpArgs false
set_option linter.unusedVariables false
def mgO (m:MgS) (a b c d:Nat):List At:=mgL (.v (vU8 m.k)) (.v (.int .i64 m.pl)) (.v (.int .i64 m.ot)) (.v (.int .i64 m.cl)) (.v (.int .i64 m.ge)) (.v (vU64 m.nu)) m.sm (.o a) (.o b) (.o c) (.o d) (.v (.int .i64 m.re))
section
variable {m:MgS} {a b c d:Nat}
theorem A1h (h:m.sm.length=32):(mgO m a b c d).length=43:=La h
theorem Qk {k pl ot cl ge nu:At} {sm:List UInt8} {i n p x r:At}:i∈mgL k pl ot cl ge nu sm i n p x r∧n∈mgL k pl ot cl ge nu sm i n p x r∧p∈mgL k pl ot cl ge nu sm i n p x r∧x∈mgL k pl ot cl ge nu sm i n p x r:=by
 unfold mgL
 simp
theorem Aai {q:At→Prop} (h:∀v:Value,v.oneCell'=true→scalar v→q (.v v)) (m:MgS) (a b c d:Nat):(∀x∈mgO m a b c d,q x)=(q (.o a)∧q (.o b)∧q (.o c)∧q (.o d)):=propext ⟨fun e=>⟨e _ Qk.1,e _ Qk.2.1,e _ Qk.2.2.1,e _ Qk.2.2.2⟩,fun⟨e1,e2,e3,e4⟩=>P8 (fun _=>h _ rfl trivial) (h _ rfl trivial) (h _ rfl trivial) (h _ rfl trivial) (h _ rfl trivial) (h _ rfl trivial) (h _ rfl trivial) e1 e2 e3 e4 (h _ rfl trivial)⟩
theorem A1i (m:MgS) (a b c d:Nat) (hp:List Res):(∀x∈mgO m a b c d,x.one hp)=((At.o a).one hp∧(At.o b).one hp∧(At.o c).one hp∧(At.o d).one hp):=Aai (fun v h _=>h) m a b c d
theorem A1j (m:MgS) (a b c d n:Nat):(∀x∈mgO m a b c d,x.bnd n)=(a < n∧b < n∧c < n∧d < n):=Aai (fun v _ _=>trivial) m a b c d
theorem A1k (m:MgS) (a b c d:Nat) (ρ:List Nat):(mgO m a b c d).map (At.ren ρ)=mgO m (rn ρ a) (rn ρ b) (rn ρ c) (rn ρ d):=Uc ..
theorem Aaj (m:MgS) (a b c d:Nat) (ρ:List Nat):Sv.ren ρ (.x (.g (mgO m a b c d)))=.x (.g (mgO m (rn ρ a) (rn ρ b) (rn ρ c) (rn ρ d))):=by
 show Sv.x (Sc.g _)=_
 rw[A1k]
theorem Hp (k pl ot cl ge nu:At) (sm:List UInt8) (i n p x r y:At) (h:sm.length=32):
  (mgL k pl ot cl ge nu sm i n p x r).set 0 y=mgL y pl ot cl ge nu sm i n p x r∧(mgL k pl ot cl ge nu sm i n p x r).set 1 y=mgL k y ot cl ge nu sm i n p x r∧(mgL k pl ot cl ge nu sm i n p x r).set 2 y=mgL k pl y cl ge nu sm i n p x r∧(mgL k pl ot cl ge nu sm i n p x r).set 3 y=mgL k pl ot y ge nu sm i n p x r∧(mgL k pl ot cl ge nu sm i n p x r).set 4 y=mgL k pl ot cl y nu sm i n p x r∧(mgL k pl ot cl ge nu sm i n p x r).set 5 y=mgL k pl ot cl ge y sm i n p x r∧
  (mgL k pl ot cl ge nu sm i n p x r).set 38 y=mgL k pl ot cl ge nu sm y n p x r∧(mgL k pl ot cl ge nu sm i n p x r).set 39 y=mgL k pl ot cl ge nu sm i y p x r∧(mgL k pl ot cl ge nu sm i n p x r).set 40 y=mgL k pl ot cl ge nu sm i n y x r∧(mgL k pl ot cl ge nu sm i n p x r).set 41 y=mgL k pl ot cl ge nu sm i n p y r∧(mgL k pl ot cl ge nu sm i n p x r).set 42 y=mgL k pl ot cl ge nu sm i n p x y:=by
 have e:(sm.map f8).length=32:=by rw[List.length_map,h]
 have g:∀j z,j < 5→(mgL k pl ot cl ge nu sm i n p x r).set (38+j) z=[k,pl,ot,cl,ge,nu]++(sm.map f8++[i,n,p,x,r].set j z):=fun j z hj=>by
  unfold mgL
  rw[List.set_append_right _ _ (by show 6≤38+j;omega),List.set_append_right _ _ (by rw[e];show 32≤38+j - 6;omega),e,show 38+j - [k,pl,ot,cl,ge,nu].length - 32=j from by show 38+j - 6 - 32=j;omega]
 exact⟨rfl,rfl,rfl,rfl,rfl,rfl,g 0 y (by omega),g 1 y (by omega),g 2 y (by omega),g 3 y (by omega),g 4 y (by omega)⟩
end
section
variable {w0:World} {hp:List Res}
end
end Go.Proofs.YtedaafmfjhjfmaaGreatDoor
/- Layer 28 walked: again. -/
namespace Go.Proofs.YtedaafmfjhjfmaaGreatDoor
open Go.RowKit
set_option linter.unusedSimpArgs false
set_option linter.unusedVariables false
theorem Sat.facts1 {w0 w:World} {ow:Nat→Prop} {γ:List Nm} {r:Res} {fs:List Fct} (hS:Sat w0 ow γ [r] w) {X:Nat→Prop} (hX:∀b,X b→r.has γ 0 b) (hf:∀f∈fs,f.ok X w):Sat w0 ow [.m (.bool true) X] [.abs (Aa fs)] w:=by
 refine⟨hS.keeps,rfl,fun k q hq=>?_,fun k q b hq hb=>?_,fun j k q q' b hq hq' hne=>?_⟩
 ·cases k with
  |zero=>
   cases hq
   exact⟨rfl,fun b hb=>(hS.mine 0 r b rfl (hX b hb)).2,rfl,hf⟩
  |succ k=>cases hq
 ·cases k with
  |zero=>
   cases hq
   exact hS.mine 0 r b rfl (hX b hb)
  |succ k=>cases hq
 ·cases j with
  |zero=>cases k with
   |zero=>exact absurd rfl hne
   |succ k=>cases hq'
  |succ j=>cases hq
section
variable {P:Program} {w0:World} {ow:Nat→Prop} {n:Nat}
theorem A1l {e:TypeId} {m n':Nat} {c:Cont} {vs:List Value} (k:Nat) {l:List Fct} {ops:List Oper} {o:Oper} {rest:List Oper} {f:FuncId} {xs:List Operand} {tys:Array TypeId} {s:S} {svs:List Sv} {K:S→Prop} (hk:s.hp[k]?=some (.abs (Aa l)))
  (ho:o.op=.call {callee:=.value (.func f),args:=xs.toArray,argTypes:=tys}) (hcb:Ad P f) (hev:evs s.fr xs=some svs)
  (hc:∀γ w,Sat w0 ow γ s.hp w→Calls P f (svs.map (Sv.val γ)).toArray w fun en w'=>∃γ1,en=.returned ((Sv.x (.a (.o 0))).val γ1)∧Sat w No γ1 [.onn e m c] w') (hv:∀γ,c.vals γ=vs) (hn:vs.length=n'*m) (hd:dOk n o.dst) (hb:s.bnd)
  (h:∀A cap,n'≤cap→Ai P w0 ow n ops rest (S.put ⟨s.fr,s.hp.set k (.abs (Aa (l++[⟨.slice A n' cap,n',vs⟩])))⟩ o.dst (.x (.a (.v (.slice A n' cap))))) K):Ah P w0 ow n ops o rest s K:=by
 refine J4 (ι:=Option Addr×Nat) (fun x=>n'≤x.2) (fun x=>.x (.a (.v (.slice x.1 n' x.2)))) (fun x=>[⟨.slice x.1 n' x.2,n',vs⟩]) k hk ho hcb hev (fun γ w hS=>(hc γ w hS).mono ?_) (fun _ _=>rfl) hd hb (fun x hx=>h x.1 x.2 hx)
 rintro en w' ⟨γ1,rfl,hS1⟩
 obtain⟨A,cap,h1,h2,h3⟩:=Ld hS1 (j:=0) rfl (hv γ1) hn
 have h5:=Sat.facts1 (fs:=[⟨.slice A n' cap,n',vs⟩]) hS1 (X:=fun b=>(nmS γ1 0).ownBlock=some b) (fun b hb=>hb) fun f hf=>by rw[List.mem_singleton.1 hf];exact h3
 exact⟨(A,cap),_,h2,by show Ending.returned (nmS γ1 0)=_;rw[h1];rfl,h5⟩
end
section
variable {w0:World} {ow:Nat→Prop} {hp:List Res} {sv:Sv}
theorem Aak {l:List Int} (hl:l.length≤1000) (h:Bi w0 ow hp sv (l.map (Value.int .i64))):∀γ w,Sat w0 ow γ hp w→Calls Tryz.prog 52 ([sv].map (Sv.val γ)).toArray w fun en w'=>∃v',en=.returned v'∧Own w' w.heap.size 3 v' (l.map (Value.int .i64))∧Below w.heap.size w w':=fun γ w hS=>by
 obtain⟨A,c,e1,b1,r1⟩:=h γ w hS
 rw[List.length_map] at e1
 show Calls _ _ #[sv.val γ] w _
 rw[e1]
 exact A09 l A c w hl r1
theorem A1m {l:List UInt64} (hl:l.length≤1000) (h:Bi w0 ow hp sv (l.map vU64)):∀γ w,Sat w0 ow γ hp w→Calls Tryz.prog 59 ([sv].map (Sv.val γ)).toArray w fun en w'=>∃v',en=.returned v'∧Own w' w.heap.size 41 v' (l.map vU64)∧Below w.heap.size w w':=fun γ w hS=>by
 obtain⟨A,c,e1,b1,r1⟩:=h γ w hS
 rw[List.length_map] at e1
 show Calls _ _ #[sv.val γ] w _
 rw[e1]
 exact A1b l A c w hl r1
theorem A1n {l:List UInt32} (hl:l.length≤1000) (h:Bi w0 ow hp sv (l.map Ap)):∀γ w,Sat w0 ow γ hp w→Calls Tryz.prog 74 ([sv].map (Sv.val γ)).toArray w fun en w'=>∃v',en=.returned v'∧Own w' w.heap.size 111 v' (l.map Ap)∧Below w.heap.size w w':=fun γ w hS=>by
 obtain⟨A,c,e1,b1,r1⟩:=h γ w hS
 rw[List.length_map] at e1
 show Calls _ _ #[sv.val γ] w _
 rw[e1]
 exact A1a l A c w hl r1
theorem A1o {l:List Pr} (hl:l.length≤1000) (h:Gq w0 ow hp sv l.length (pvs l)):∀γ w,Sat w0 ow γ hp w→Calls Tryz.prog 73 ([sv].map (Sv.val γ)).toArray w fun en w'=>∃γ1,en=.returned ((Sv.x (.a (.o 0))).val γ1)∧Sat w No γ1 [.onn 115 2 (.c (pcs l))] w':=fun γ w hS=>by
 obtain⟨A,c,e1,b1,r1⟩:=h γ w hS
 have:=A1e (w0:=w) (ow:=No) (hp:=[]) (sv:=.x (.a (.v (.slice A l.length c)))) hl (fun γ' w' hS'=>⟨A,c,rfl,b1,Cn r1 hS'⟩) (fun r hr=>by cases hr)
 unfold Ae at this
 have:=this [] w (Sat.init w No)
 show Calls _ _ #[sv.val γ] w _
 rw[e1]
 refine this.mono fun e w' ⟨δ,he,h⟩=>⟨δ,he,h⟩
end
theorem Ql {m:MgR} (h:m.sm.length=32):(∀y:SlV Int,(mgA m).set 38 (.v y.val)=mgA {m with ids:=y})∧(∀y:SlV UInt64,(mgA m).set 39 (.v y.val)=mgA {m with ns:=y})∧(∀y:SlV Pr,(mgA m).set 40 (.v y.val)=mgA {m with ps:=y})∧(∀y:SlV UInt32,(mgA m).set 41 (.v y.val)=mgA {m with xs:=y}):=by
 have:=fun y=>Hp (.v (vU8 m.k)) (.v (.int .i64 m.pl)) (.v (.int .i64 m.ot)) (.v (.int .i64 m.cl)) (.v (.int .i64 m.ge)) (.v (vU64 m.nu)) m.sm (.v m.ids.val) (.v m.ns.val) (.v m.ps.val) (.v m.xs.val) (.v (.int .i64 m.re)) y h
 exact⟨fun y=>(this _).2.2.2.2.2.2.1,fun y=>(this _).2.2.2.2.2.2.2.1,fun y=>(this _).2.2.2.2.2.2.2.2.1,fun y=>(this _).2.2.2.2.2.2.2.2.2.1⟩
attribute [local irreducible] Ad Ae Ah Ar Ak Am Ai Al
end Go.Proofs.YtedaafmfjhjfmaaGreatDoor
