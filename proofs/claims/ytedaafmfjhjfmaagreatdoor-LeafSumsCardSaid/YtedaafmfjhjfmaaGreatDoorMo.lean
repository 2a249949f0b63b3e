import Derived.Test.YtedaafmfjhjfmaaGreatDoorLw1
import Derived.Test.YtedaafmfjhjfmaaGreatDoorCf1
/- Layer 28 walked: peers as its callers see it; toAll. -/
namespace Go.Proofs.YtedaafmfjhjfmaaGreatDoor
open Go.RowKit
set_option linter.unusedSimpArgs false
set_option linter.unusedVariables false
attribute [local irreducible] Ah Ai Am Bc A7 Ay Ap A6
theorem V6 {w0:World} {ow:Nat→Prop} {hp:List Res} {s1 s2:Sv} {r:LfR} {l:List Int} (h1:∀γ w,Sat w0 ow γ hp w→∃a t xp xb xr,s1.val γ=.pointer (some a)∧LfAt r w a t xp xb xr) (hsm:r.sum.sm.length=32) (hl:l.length≤1000) (h2:B3 w0 ow hp s2 (l.map (Value.int .i64))) (hbr:∀r∈hp,Res.bnd hp.length r):
  Ai Tryz.prog w0 ow 152 [s1,s2] hp (.x (.a (.o hp.length))) (hp++[.onn 115 2 (.c (pcs (r.s.peers l)))]):=by
 have:=Qv (P:=Tryz.prog) (f:=152) (svs:=[s1,s2]) (w0:=w0) (ow:=ow) (sv1:=.x (.a (.o 0))) (hp1:=[.onn 115 2 (.c (pcs (r.s.peers l)))]) [] hbr (by simp only[push_cast]) (by simp only[push_cast,Nat.reduceLT])
  fun γ w hS=>⟨No,fun b h=>h.elim,by
   obtain⟨a,t,xp,xb,xr,e1,ha⟩:=h1 γ w hS
   obtain⟨A,c,e2,b2,r2⟩:=h2 γ w hS
   rw[List.length_map] at e2 b2
   show Calls _ _ #[s1.val γ,s2.val γ] w _
   rw[e1,e2]
   exact A20 r a l A c w ha hsm hl r2⟩
 simp only[De,Ca,push_cast,↓reduceIte,Nat.reduceLT] at this
 exact this
structure SnR where
 c:Bool
 to:Int
 m:MgR
def SnR.s (x:SnR):SnS:=⟨x.c,x.to,x.m.mg⟩
def snV (x:SnR):List Value:=[.bool x.c,.int .i64 x.to]++mgV x.m
def snA (x:SnR):List At:=[.v (.bool x.c),.v (.int .i64 x.to)]++mgA x.m
def snL (l:List SnR):List At:=l.flatMap snA
theorem A21 (γ:List Nm) (x:SnR):(snA x).map (At.val γ)=snV x:=by
 unfold snA snV
 rw[List.map_append,Kt]
 rfl
theorem Nv (γ:List Nm) (l:List SnR):(snL l).map (At.val γ)=l.flatMap snV:=by
 unfold snL
 rw[List.map_flatMap]
 exact congrArg (fun f=>l.flatMap f) (funext fun x=>A21 γ x)
theorem A22 {x:SnR} (h:x.m.sm.length=32):(snA x).length=45:=by
 unfold snA
 rw[List.length_append,Aw h]
 rfl
theorem Aby {l:List SnR} (h:∀x∈l,x.m.sm.length=32):(snL l).length=l.length*45:=by
 unfold snL
 induction l with
 |nil=>rfl
 |cons x l ih=>
  rw[List.flatMap_cons,List.length_append,A22 (h x (List.mem_cons_self ..)),ih fun y hy=>h y (List.mem_cons_of_mem _ hy),List.length_cons]
  omega
theorem A23 {q:At→Prop} (h:∀v:Value,v.oneCell'=true→scalar v→q (.v v)) (x:SnR):∀y∈snA x,q y:=fun y hy=>by
 unfold snA at hy
 rcases List.mem_append.1 hy with hy|hy
 ·simp only[List.mem_cons,List.not_mem_nil,or_false] at hy
  rcases hy with rfl|rfl
  ·exact h _ rfl trivial
  ·exact h _ rfl trivial
 ·exact (Ni x.m h).mpr trivial y hy
theorem A24 {q:At→Prop} (h:∀v:Value,v.oneCell'=true→scalar v→q (.v v)) (l:List SnR):(∀y∈snL l,q y)=True:=eq_true fun y hy=>by
 unfold snL at hy
 obtain⟨x,_,hx⟩:=List.mem_flatMap.1 hy
 exact A23 h x y hx
theorem A25 (l:List SnR) (n:Nat):(∀x∈snL l,x.bnd n)=True:=A24 (fun _ _ _=>trivial) l
theorem L9 (l:List SnR) (n:Nat):Cont.bnd n (.c (snL l))=True:=A25 l n
theorem A26 (ρ:List Nat) (x:SnR):(snA x).map (At.ren ρ)=snA x:=by
 unfold snA
 rw[List.map_append,Au]
 rfl
theorem A27 (ρ:List Nat) (l:List SnR):(snL l).map (At.ren ρ)=snL l:=by
 unfold snL
 rw[List.map_flatMap]
 exact congrArg (fun f=>l.flatMap f) (funext fun x=>A26 ρ x)
theorem Rx (ρ:List Nat) (l:List SnR):Cont.ren ρ (.c (snL l))=.c (snL l):=by
 show Cont.c _=_
 rw[A27]
theorem A28 (l:List SnR) (x:SnR):snL (l++[x])=snL l++(.v (.bool x.c):: .v (.int .i64 x.to)::mgA x.m):=by
 unfold snL
 rw[List.flatMap_append,List.flatMap_cons,List.flatMap_nil,List.append_nil]
 rfl
def OutOk (Fs:List Fct) (s:SlV SnR):Prop:=SlF Fs s (s.l.flatMap snV)∧(∀x∈s.l,MOk Fs x.m)∧s.l.length≤1000
theorem OutOk.more {Fs Gs:List Fct} {s:SlV SnR} (h:OutOk Fs s) (hg:∀f∈Fs,f∈Gs):OutOk Gs s:=⟨h.1.more hg,fun x hx=>(h.2.1 x hx).more hg,h.2.2⟩
theorem Ey (Fs:List Fct):OutOk Fs ⟨none,0,[]⟩:=⟨.inl rfl,(fun x hx=>by cases hx),Nat.zero_le _⟩
def Abz (w0:World) (fv:Value) (l:List Int) (F:Int→MgS):Prop:=∀id∈l,Abg (ι:=MgR×List Fct) Tryz.prog w0 fv (.int .i64 id) (fun x=>x.1.mg=F id∧MOk x.2 x.1) (fun x=>.agg (mgV x.1).toArray) (fun x=>x.2)
theorem Ry:ZOk Tryz.prog 60 (.c (.v (.bool false):: .v (.int .i64 0)::mgA zeroR))=True:=
 eq_true ⟨.agg ([Value.bool false,.int .i64 0]++mgV zeroR).toArray,by kernel_rfl,fun γ=>by
  show _=(_::_::(mgA zeroR).map (At.val γ))
  rw[Kt]
  rfl⟩
theorem A29 (l:List Int) (i:Nat) (hi:i < l.length) (F:Int→MgS):Cq (l.take (i+1)) F=Cq (l.take i) F++[⟨true,ix l i,F (ix l i)⟩]:=by
 unfold Cq
 rw[List.take_add_one,List.getElem?_eq_getElem hi,List.map_append]
 simp [ix,List.getD_eq_getElem?_getD,List.getElem?_eq_getElem hi]
set_option maxRecDepth 100000 in
theorem A3a (l:List Int) (A:Option Addr) (c:Nat) (fv:Value) (F:Int→MgS) (w:World) (hl:l.length≤1000) (hR:RdV w w.heap.size A (l.map (Value.int .i64))) (hP:Abz w fv l F):
  Calls Tryz.prog 60 (List.map (Sv.val ([]++[.m (.bool true) (fun _=>False)])) [.x (.a (.v (.slice A l.length c))),.x (.a (.v fv))]).toArray w fun e w'=>∃(x:List SnR×List Fct) (γ1:List Nm),(x.1.map SnR.s=Cq l F∧∀y∈x.1,MOk x.2 y.m)∧e=.returned ((Sv.x (.a (.o 1))).val γ1)∧Sat w No γ1 [.abs (Aa x.2),.onn 60 45 (.c (snL x.1))] w':=by
 have FF:=FM.of hR
 refine Ci (n:=24) (ι:=List SnR×List Fct) (fun x=>x.1.map SnR.s=Cq l F∧∀y∈x.1,MOk x.2 y.m) (fun _=>.x (.a (.o 1))) (fun x=>[.abs (Aa x.2),.onn 60 45 (.c (snL x.1))]) Tryz.func60 rfl Tryz.ntmps60 _ ((Sat.init w No).fct0 (fun r hr=>by cases hr)) (by simp) ?_
 simp (maxSteps:=10^6) only[push_cast,↓reduceIte,reduceCtorEq,Nat.reduceLT]
 refine U6 5 60 45 (.c []) (by omega) rfl rfl (by simp (maxSteps:=10^6) only[push_cast]) ?_
 refine B9 (ι:=Nat×List SnR×List Fct) (fun x=>⟨[(1,.x (.a (.v fv))),(5,.x (.a (.o 1))),(8,.x (.a (.v (.slice A l.length c)))),(9,.x (.a (.v (.int .i64 l.length)))),(10,.x (.a (.v (.int .i64 x.1))))],[.abs (Aa x.2.2),.onn 60 45 (.c (snL x.2.1))]⟩)
  (fun x=>x.1≤l.length∧x.2.1.map SnR.s=Cq (l.take x.1) F∧∀y∈x.2.1,MOk x.2.2 y.m) (fun x=>l.length - x.1) (0,[],[]) [0,1] ⟨Nat.zero_le _,rfl,(fun y hy=>by cases hy)⟩ ?_ ?_
 ·have e:snL []=[]:=rfl
  simp (maxSteps:=10^6) only[e,push_cast,↓Int.cast_ofNat_Int,Int.cast_ofNat_Int,↓reduceIte,reduceCtorEq,Nat.reduceEqDiff,Nat.reduceLT,Nat.reduceAdd]
 ·rintro⟨i,L,Gs⟩ ⟨hi,hL,hG⟩
  dsimp only at hi hL hG
  have hLl:L.length=i:=by
   have:=congrArg List.length hL
   unfold Cq at this
   rw[List.length_map,List.length_map,List.length_take] at this
   omega
  have hLn:=Aby (l:=L) fun y hy=>(hG y hy).s
  rw[hLl] at hLn
  by_cases hlt:(i:Int) < l.length
  ·have i0:(0:Int)≤i:=by omega
   have hil:i < l.length:=by omega
   have d0:=FF.cell i hil
   have o0:=FF.ok i hil
   have hA:=FF.some_ (by omega)
   have nx:(i:Int)+1≤9223372036854775807:=by omega
   simp (maxSteps:=10^6) only[hlt,i0,d0,o0,hA,push_cast,↓Int.toNat_natCast,↓reduceIte,reduceCtorEq,Nat.reduceEqDiff,Nat.reduceLT,Nat.reduceAdd]
   (repeat (refine And.intro (by first|omega|decide) ?_))
   refine A19 (ι:=MgR×List Fct) (Q:=fun x=>x.1.mg=F (ix l i)∧MOk x.2 x.1) (v:=fun x=>.agg (mgV x.1).toArray) (G:=fun x=>x.2) (fun x=>.x (.g (mgA x.1))) 0 (hP (ix l i) (by
    unfold ix
    rw[List.getD_eq_getElem?_getD,List.getElem?_eq_getElem hil]
    exact List.getElem_mem hil)) rfl rfl rfl rfl (fun _=>rfl) (fun x γ=>C4 x.1 γ) (fun _ h=>h.elim) (Ae rfl) (by simp (maxSteps:=10^6) only[↓L9,↓List.forall_mem_cons,push_cast,Nat.reduceLT,Nat.reduceAdd]) ?_
   rintro⟨m,Hs⟩ ⟨hm,hok⟩
   dsimp only at hm hok
   have gl:=Aw hok.s
   have dz:(mgA zeroR).drop 43=[]:=rfl
   have hdv:i*45 / 45=i:=Nat.mul_div_cancel i (by decide)
   simp (maxSteps:=10^6) only[hLn,gl,dz,hdv,Nat.reduceDiv,Bl,Hh,J1,Bp,Bw,Ry,nx,↓L9,↓List.forall_mem_cons,↓Ad,↓Co,↓Bg,push_cast,↓reduceIte,reduceCtorEq,Nat.reduceEqDiff,Nat.reduceLT,Nat.reduceLeDiff,Nat.reduceAdd,Nat.reduceMul,Int.reduceNeg]
   refine⟨of_eq_true (Co m _),?_⟩
   (repeat (refine And.intro (by first|omega|decide) ?_))
   refine Bv (i+1,L++[⟨true,ix l i,m⟩],Gs++Hs) [0,3] ⟨by omega,?_,?_⟩ (by omega) ?_
   ·rw[List.map_append,hL,A29 l i hil]
    show _++[SnS.mk true (ix l i) m.mg]=_
    rw[hm]
   ·intro y hy
    rcases List.mem_append.1 hy with hy|hy
    ·exact (hG y hy).more fun f hf=>List.mem_append_left _ hf
    ·rw[List.mem_singleton.1 hy]
     exact hok.more fun f hf=>List.mem_append_right _ hf
   ·simp (maxSteps:=10^6) only[A28,↓L9,↓Rx,↓List.forall_mem_cons,push_cast,↓reduceIte,reduceCtorEq,Nat.reduceEqDiff,Nat.reduceLT,Nat.reduceAdd]
  ·have e:i=l.length:=by omega
   subst e
   rw[List.take_length] at hL
   simp (maxSteps:=10^6) only[hlt,push_cast,↓reduceIte,Nat.reduceEqDiff,Nat.reduceLT,Nat.reduceAdd]
   refine⟨(L,Gs),⟨hL,hG⟩,A9 [0,1] ?_⟩
   simp (maxSteps:=10^6) only[↓L9,↓Rx,↓List.forall_mem_cons,push_cast,↓reduceIte,reduceCtorEq,Nat.reduceLT,Nat.reduceAdd]
theorem Sat.onnF {w0 w:World} {ow:Nat→Prop} {γ:List Nm} {hp:List Res} {j k m:Nat} {e:TypeId} {c:Cont} {vs:List Value} {l:List Fct} {n:Nat} (hS:Sat w0 ow γ hp w) (hj:hp[j]?=some (.onn e m c)) (hk:hp[k]?=some (.abs (Aa l))) (hjk:j≠k) (hv:c.vals γ=vs) (hn:vs.length=n*m):
  ∃A cap γ',nmS γ j=.slice A n cap∧n≤cap∧nmB γ'=nmB γ∧nmS γ'=nmS γ∧Sat w0 ow γ' ((hp.set j .gone).set k (.abs (Aa (l++[⟨.slice A n cap,n,vs⟩])))) w:=by
 obtain⟨A,cap,h1,h2,h3⟩:=Kw hS hj hv hn
 obtain⟨γ',eB,eS,h4⟩:=hS.absorbs (fs:=[⟨.slice A n cap,n,vs⟩]) (X:=fun b=>(nmS γ j).ownBlock=some b) hj hk hjk (fun b hb=>hb) fun f hf=>by rw[List.mem_singleton.1 hf];exact h3
 exact⟨A,cap,γ',h1,h2,eB,eS,h4⟩
theorem Sat.ownF {w0 w:World} {ow:Nat→Prop} {γ:List Nm} {hp:List Res} {j k:Nat} {e:TypeId} {c:Cont} {vs:List Value} {l:List Fct} (hS:Sat w0 ow γ hp w) (hj:hp[j]?=some (.own e c)) (hk:hp[k]?=some (.abs (Aa l))) (hjk:j≠k) (hv:∀γ,c.vals γ=vs):
  ∃A cap γ',nmS γ j=.slice A vs.length cap∧vs.length≤cap∧nmB γ'=nmB γ∧nmS γ'=nmS γ∧Sat w0 ow γ' ((hp.set j .gone).set k (.abs (Aa (l++[⟨.slice A vs.length cap,vs.length,vs⟩])))) w:=by
 obtain⟨A,cap,h1,h2,_,h3⟩:=Lz hS hj hv
 obtain⟨γ',eB,eS,h4⟩:=hS.absorbs (fs:=[⟨.slice A vs.length cap,vs.length,vs⟩]) (X:=fun b=>(nmS γ j).ownBlock=some b) hj hk hjk (fun b hb=>hb) fun f hf=>by rw[List.mem_singleton.1 hf];exact h3
 exact⟨A,cap,γ',h1,h2,eB,eS,h4⟩
theorem OutOk.of {Fs:List Fct} {A:Option Addr} {cap:Nat} {L:List SnR} (h:∀y∈L,MOk Fs y.m) (hl:L.length≤1000):OutOk (Fs++[⟨.slice A L.length cap,L.length,L.flatMap snV⟩]) ⟨A,cap,L⟩:=
 ⟨.inr (List.mem_append_right _ (List.mem_singleton.2 rfl)),fun y hy=>(h y hy).more fun f hf=>List.mem_append_left _ hf,hl⟩
theorem Rz {L:List SnR} (h:∀y∈L,y.m.sm.length=32):(L.flatMap snV).length=L.length*45:=by
 rw[←Nv [],List.length_map,Aby h]
theorem R0 (l:List Int) (A:Option Addr) (c:Nat) (fv:Value) (F:Int→MgS) (w:World) (hl:l.length≤1000) (hR:RdV w w.heap.size A (l.map (Value.int .i64))) (hP:Abz w fv l F):
  Calls Tryz.prog 60 #[.slice A l.length c,fv] w fun e w'=>∃(x:SlV SnR×List Fct) (γ1:List Nm),(x.1.l.map SnR.s=Cq l F∧OutOk x.2 x.1)∧e=.returned x.1.val∧Sat w No γ1 [.abs (Aa x.2)] w':=by
 refine (A3a l A c fv F w hl hR hP).mono fun e w' ⟨⟨L,Gs⟩,γ1,⟨h1,h2⟩,he,hS⟩=>?_
 dsimp only at h1 h2 hS
 have hLl:L.length=l.length:=by
  have:=congrArg List.length h1
  unfold Cq at this
  rwa [List.length_map,List.length_map] at this
 obtain⟨A1,cap,γ',e1,e2,eB,eS,h5⟩:=hS.onnF (j:=1) (k:=0) (vs:=L.flatMap snV) (n:=L.length) rfl rfl (by decide) (Nv γ1 L) (Rz fun y hy=>(h2 y hy).s)
 have h6:=Sat.frontOf (A:=[.abs (Aa (Gs++[⟨.slice A1 L.length cap,L.length,L.flatMap snV⟩]))]) (N:=[.gone]) h5 (fun r hr=>by rw[List.mem_singleton.1 hr];trivial)
 refine⟨(⟨A1,cap,L⟩,Gs++[⟨.slice A1 L.length cap,L.length,L.flatMap snV⟩]),_,⟨h1,OutOk.of h2 (by omega)⟩,?_,h6⟩
 rw[he]
 show Ending.returned (nmS γ1 1)=_
 rw[e1]
 rfl
end Go.Proofs.YtedaafmfjhjfmaaGreatDoor
/- Messages whose slices are the call's own, as cells. -/
namespace Go.Proofs.YtedaafmfjhjfmaaGreatDoor
open Go.RowKit
set_option linter.unusedSimpArgs false
set_option linter.unusedVariables false
def mgO (m:MgS) (a b c d:Nat):List At:=mgL (.v (vU8 m.k)) (.v (.int .i64 m.pl)) (.v (.int .i64 m.ot)) (.v (.int .i64 m.cl)) (.v (.int .i64 m.ge)) (.v (vU64 m.nu)) m.sm (.o a) (.o b) (.o c) (.o d) (.v (.int .i64 m.re))
section
variable {m:MgS} {a b c d:Nat}
theorem A3b (h:m.sm.length=32):(mgO m a b c d).length=43:=Ku h
theorem R5 {k pl ot cl ge nu:At} {sm:List UInt8} {i n p x r:At}:i∈mgL k pl ot cl ge nu sm i n p x r∧n∈mgL k pl ot cl ge nu sm i n p x r∧p∈mgL k pl ot cl ge nu sm i n p x r∧x∈mgL k pl ot cl ge nu sm i n p x r:=by
 unfold mgL
 simp
theorem Ab0 {q:At→Prop} (h:∀v:Value,v.oneCell'=true→scalar v→q (.v v)) (m:MgS) (a b c d:Nat):(∀x∈mgO m a b c d,q x)=(q (.o a)∧q (.o b)∧q (.o c)∧q (.o d)):=propext ⟨fun e=>⟨e _ R5.1,e _ R5.2.1,e _ R5.2.2.1,e _ R5.2.2.2⟩,fun⟨e1,e2,e3,e4⟩=>G7 (fun _=>h _ rfl trivial) (h _ rfl trivial) (h _ rfl trivial) (h _ rfl trivial) (h _ rfl trivial) (h _ rfl trivial) (h _ rfl trivial) e1 e2 e3 e4 (h _ rfl trivial)⟩
theorem A3c (m:MgS) (a b c d:Nat) (hp:List Res):(∀x∈mgO m a b c d,x.one hp)=((At.o a).one hp∧(At.o b).one hp∧(At.o c).one hp∧(At.o d).one hp):=Ab0 (fun v h _=>h) m a b c d
theorem A3d (m:MgS) (a b c d n:Nat):(∀x∈mgO m a b c d,x.bnd n)=(a < n∧b < n∧c < n∧d < n):=Ab0 (fun v _ _=>trivial) m a b c d
theorem A3e (m:MgS) (a b c d:Nat) (ρ:List Nat):(mgO m a b c d).map (At.ren ρ)=mgO m (rn ρ a) (rn ρ b) (rn ρ c) (rn ρ d):=Nj ..
theorem Ab1 (m:MgS) (a b c d:Nat) (ρ:List Nat):Sv.ren ρ (.x (.g (mgO m a b c d)))=.x (.g (mgO m (rn ρ a) (rn ρ b) (rn ρ c) (rn ρ d))):=by
 show Sv.x (Sc.g _)=_
 rw[A3e]
theorem Ma (k pl ot cl ge nu:At) (sm:List UInt8) (i n p x r y:At) (h:sm.length=32):
  (mgL k pl ot cl ge nu sm i n p x r).set 0 y=mgL y pl ot cl ge nu sm i n p x r∧(mgL k pl ot cl ge nu sm i n p x r).set 1 y=mgL k y ot cl ge nu sm i n p x r∧(mgL k pl ot cl ge nu sm i n p x r).set 2 y=mgL k pl y cl ge nu sm i n p x r∧(mgL k pl ot cl ge nu sm i n p x r).set 3 y=mgL k pl ot y ge nu sm i n p x r∧(mgL k pl ot cl ge nu sm i n p x r).set 4 y=mgL k pl ot cl y nu sm i n p x r∧(mgL k pl ot cl ge nu sm i n p x r).set 5 y=mgL k pl ot cl ge y sm i n p x r∧
  (mgL k pl ot cl ge nu sm i n p x r).set 38 y=mgL k pl ot cl ge nu sm y n p x r∧(mgL k pl ot cl ge nu sm i n p x r).set 39 y=mgL k pl ot cl ge nu sm i y p x r∧(mgL k pl ot cl ge nu sm i n p x r).set 40 y=mgL k pl ot cl ge nu sm i n y x r∧(mgL k pl ot cl ge nu sm i n p x r).set 41 y=mgL k pl ot cl ge nu sm i n p y r∧(mgL k pl ot cl ge nu sm i n p x r).set 42 y=mgL k pl ot cl ge nu sm i n p x y:=by
 have e:(sm.map f8).length=32:=by rw[List.length_map,h]
 have g:∀j z,j < 5→(mgL k pl ot cl ge nu sm i n p x r).set (38+j) z=[k,pl,ot,cl,ge,nu]++(sm.map f8++[i,n,p,x,r].set j z):=fun j z hj=>by
  unfold mgL
  rw[List.set_append_right _ _ (by show 6≤38+j;omega),List.set_append_right _ _ (by rw[e];show 32≤38+j - 6;omega),e,show 38+j - [k,pl,ot,cl,ge,nu].length - 32=j from by show 38+j - 6 - 32=j;omega]
 exact⟨rfl,rfl,rfl,rfl,rfl,rfl,g 0 y (by omega),g 1 y (by omega),g 2 y (by omega),g 3 y (by omega),g 4 y (by omega)⟩
end
section
variable {w0:World} {hp:List Res}
end
end Go.Proofs.YtedaafmfjhjfmaaGreatDoor
