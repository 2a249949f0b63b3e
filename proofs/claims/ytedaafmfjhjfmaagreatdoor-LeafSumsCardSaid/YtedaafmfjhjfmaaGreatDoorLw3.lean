import Derived.Test.YtedaafmfjhjfmaaGreatDoorMo
/- Layer 28 walked: again. -/
namespace Go.Proofs.YtedaafmfjhjfmaaGreatDoor
open Go.RowKit
set_option linter.unusedSimpArgs false
set_option linter.unusedVariables false
theorem Sat.facts1 {w0 w:World} {ow:Nat→Prop} {γ:List Nm} {r:Res} {fs:List Fct} (hS:Sat w0 ow γ [r] w) {X:Nat→Prop} (hX:∀b,X b→r.has γ 0 b) (hf:∀f∈fs,f.ok X w):Sat w0 ow [.m (.bool true) X] [.abs (Aa fs)] w:=by
 refine⟨hS.keeps,rfl,fun k q hq=>?_,fun k q b hq hb=>?_,fun j k q q' b hq hq' hne=>?_⟩
 ·cases k with
  |zero=>
   cases hq
   exact⟨rfl,fun b hb=>(hS.mine 0 r b rfl (hX b hb)).2,rfl,hf⟩
  |succ k=>cases hq
 ·cases k with
  |zero=>
   cases hq
   exact hS.mine 0 r b rfl (hX b hb)
  |succ k=>cases hq
 ·cases j with
  |zero=>cases k with
   |zero=>exact absurd rfl hne
   |succ k=>cases hq'
  |succ j=>cases hq
section
variable {P:Program} {w0:World} {ow:Nat→Prop} {n:Nat}
theorem A3f {e:TypeId} {m n':Nat} {c:Cont} {vs:List Value} (k:Nat) {l:List Fct} {ops:List Oper} {o:Oper} {rest:List Oper} {f:FuncId} {xs:List Operand} {tys:Array TypeId} {s:S} {svs:List Sv} {K:S→Prop} (hk:s.hp[k]?=some (.abs (Aa l)))
  (ho:o.op=.call {callee:=.value (.func f),args:=xs.toArray,argTypes:=tys}) (hcb:Ah P f) (hev:evs s.fr xs=some svs)
  (hc:∀γ w,Sat w0 ow γ s.hp w→Calls P f (svs.map (Sv.val γ)).toArray w fun en w'=>∃γ1,en=.returned ((Sv.x (.a (.o 0))).val γ1)∧Sat w No γ1 [.onn e m c] w') (hv:∀γ,c.vals γ=vs) (hn:vs.length=n'*m) (hd:dOk n o.dst) (hb:s.bnd)
  (h:∀A cap,n'≤cap→Ap P w0 ow n ops rest (S.put ⟨s.fr,s.hp.set k (.abs (Aa (l++[⟨.slice A n' cap,n',vs⟩])))⟩ o.dst (.x (.a (.v (.slice A n' cap))))) K):Am P w0 ow n ops o rest s K:=by
 refine Fk (ι:=Option Addr×Nat) (fun x=>n'≤x.2) (fun x=>.x (.a (.v (.slice x.1 n' x.2)))) (fun x=>[⟨.slice x.1 n' x.2,n',vs⟩]) k hk ho hcb hev (fun γ w hS=>(hc γ w hS).mono ?_) (fun _ _=>rfl) hd hb (fun x hx=>h x.1 x.2 hx)
 rintro en w' ⟨γ1,rfl,hS1⟩
 obtain⟨A,cap,h1,h2,h3⟩:=Kw hS1 (j:=0) rfl (hv γ1) hn
 have h5:=Sat.facts1 (fs:=[⟨.slice A n' cap,n',vs⟩]) hS1 (X:=fun b=>(nmS γ1 0).ownBlock=some b) (fun b hb=>hb) fun f hf=>by rw[List.mem_singleton.1 hf];exact h3
 exact⟨(A,cap),_,h2,by show Ending.returned (nmS γ1 0)=_;rw[h1];rfl,h5⟩
end
section
variable {w0:World} {ow:Nat→Prop} {hp:List Res} {sv:Sv}
theorem V7 {l:List Int} (hl:l.length≤1000) (h:B3 w0 ow hp sv (l.map (Value.int .i64))):∀γ w,Sat w0 ow γ hp w→Calls Tryz.prog 52 ([sv].map (Sv.val γ)).toArray w fun en w'=>∃v',en=.returned v'∧Own w' w.heap.size 3 v' (l.map (Value.int .i64))∧Below w.heap.size w w':=fun γ w hS=>by
 obtain⟨A,c,e1,b1,r1⟩:=h γ w hS
 rw[List.length_map] at e1
 show Calls _ _ #[sv.val γ] w _
 rw[e1]
 exact Abq l A c w hl r1
theorem A3g {l:List UInt64} (hl:l.length≤1000) (h:B3 w0 ow hp sv (l.map vU64)):∀γ w,Sat w0 ow γ hp w→Calls Tryz.prog 59 ([sv].map (Sv.val γ)).toArray w fun en w'=>∃v',en=.returned v'∧Own w' w.heap.size 41 v' (l.map vU64)∧Below w.heap.size w w':=fun γ w hS=>by
 obtain⟨A,c,e1,b1,r1⟩:=h γ w hS
 rw[List.length_map] at e1
 show Calls _ _ #[sv.val γ] w _
 rw[e1]
 exact Abt l A c w hl r1
theorem A3h {l:List UInt32} (hl:l.length≤1000) (h:B3 w0 ow hp sv (l.map Ak)):∀γ w,Sat w0 ow γ hp w→Calls Tryz.prog 74 ([sv].map (Sv.val γ)).toArray w fun en w'=>∃v',en=.returned v'∧Own w' w.heap.size 111 v' (l.map Ak)∧Below w.heap.size w w':=fun γ w hS=>by
 obtain⟨A,c,e1,b1,r1⟩:=h γ w hS
 rw[List.length_map] at e1
 show Calls _ _ #[sv.val γ] w _
 rw[e1]
 exact Abr l A c w hl r1
theorem A3i {l:List Pr} (hl:l.length≤1000) (h:Kl w0 ow hp sv l.length (pvs l)):∀γ w,Sat w0 ow γ hp w→Calls Tryz.prog 73 ([sv].map (Sv.val γ)).toArray w fun en w'=>∃γ1,en=.returned ((Sv.x (.a (.o 0))).val γ1)∧Sat w No γ1 [.onn 115 2 (.c (pcs l))] w':=fun γ w hS=>by
 obtain⟨A,c,e1,b1,r1⟩:=h γ w hS
 have:=A2m (w0:=w) (ow:=No) (hp:=[]) (sv:=.x (.a (.v (.slice A l.length c)))) hl (fun γ' w' hS'=>⟨A,c,rfl,b1,Dn r1 hS'⟩) (fun r hr=>by cases hr)
 unfold Ai at this
 have:=this [] w (Sat.init w No)
 show Calls _ _ #[sv.val γ] w _
 rw[e1]
 refine this.mono fun e w' ⟨δ,he,h⟩=>⟨δ,he,h⟩
end
theorem R6 {m:MgR} (h:m.sm.length=32):(∀y:SlV Int,(mgA m).set 38 (.v y.val)=mgA {m with ids:=y})∧(∀y:SlV UInt64,(mgA m).set 39 (.v y.val)=mgA {m with ns:=y})∧(∀y:SlV Pr,(mgA m).set 40 (.v y.val)=mgA {m with ps:=y})∧(∀y:SlV UInt32,(mgA m).set 41 (.v y.val)=mgA {m with xs:=y}):=by
 have:=fun y=>Ma (.v (vU8 m.k)) (.v (.int .i64 m.pl)) (.v (.int .i64 m.ot)) (.v (.int .i64 m.cl)) (.v (.int .i64 m.ge)) (.v (vU64 m.nu)) m.sm (.v m.ids.val) (.v m.ns.val) (.v m.ps.val) (.v m.xs.val) (.v (.int .i64 m.re)) y h
 exact⟨fun y=>(this _).2.2.2.2.2.2.1,fun y=>(this _).2.2.2.2.2.2.2.1,fun y=>(this _).2.2.2.2.2.2.2.2.1,fun y=>(this _).2.2.2.2.2.2.2.2.2.1⟩
attribute [local irreducible] Ah Ai Am Bc A7 Ay Ap A6
theorem A3j (r:LfR) (a:Addr) {t xp xb xr:Value} (w:World) (h:LfAt r w a t xp xb xr) (hsm:r.sum.sm.length=32) (hp:¬r.phase=3):Calls Tryz.prog 63 #[.pointer (some a)] w fun e w'=>e=.returned (.slice none 0 0)∧Below w.heap.size w w':=by
 obtain⟨c0,c1,c2,c5,c8,c11,c12,c13,c7,c9,ok,_⟩:=h.cells hsm
 have k8:=eq_true (ok 8 (by omega))
 have hs:(some a).isSome=true:=rfl
 have hn:(some a).isNone=false:=rfl
 refine Bm (n:=36) Tryz.func63 rfl Tryz.ntmps63 [.x (.a (.v (.pointer (some a))))] (by simp) (.x (.a (.v (.slice none 0 0)))) (fun _=>rfl) ?_
 simp (maxSteps:=10^6) only[c8,k8,hs,hp,push_cast,↓reduceIte,reduceCtorEq,Nat.reduceLT]
set_option maxRecDepth 100000 in
theorem A3k (r:LfR) (a:Addr) {t xp xb xr:Value} (w:World) (h:LfAt r w a t xp xb xr) (hm:r.sum.Ok w) (hp:r.phase=3):
  Calls Tryz.prog 63 (List.map (Sv.val ([]++[.m (.bool true) (fun _=>False)])) [.x (.a (.v (.pointer (some a))))]).toArray w fun e w'=>∃(x:MgR×List Fct) (γ1:List Nm),(x.1.mg=r.sum.mg∧MOk x.2 x.1)∧e=.returned ((Sv.x (.a (.o 1))).val γ1)∧Sat w No γ1 [.abs (Aa x.2),.onn 60 45 (.c (snL [⟨false,r.parent,x.1⟩]))] w':=by
 obtain⟨c0,c1,c2,c5,c8,c11,c12,c13,c7,c9,ok,l15,o15⟩:=h.cells hm.s
 have k8:=eq_true (ok 8 (by omega))
 have k5:=eq_true (ok 5 (by omega))
 have k15:=eq_true o15
 have hs:(some a).isSome=true:=rfl
 have hn:(some a).isNone=false:=rfl
 have hs15:(Aj (some a) 15).isSome=true:=rfl
 have few:=hm.few
 refine Ci (n:=36) (ι:=MgR×List Fct) (fun x=>x.1.mg=r.sum.mg∧MOk x.2 x.1) (fun _=>.x (.a (.o 1))) (fun x=>[.abs (Aa x.2),.onn 60 45 (.c (snL [⟨false,r.parent,x.1⟩]))]) Tryz.func63 rfl Tryz.ntmps63 _ ((Sat.init w No).fct0 (fun r hr=>by cases hr)) (by simp) ?_
 obtain⟨m0,hm0⟩:∃m,m=r.sum:=⟨_,rfl⟩
 rw[←hm0] at l15 hm few ⊢
 have gl:=Aw hm.s
 have vi:m0.ids.val=.slice m0.ids.A m0.ids.l.length m0.ids.c:=rfl
 have vn:m0.ns.val=.slice m0.ns.A m0.ns.l.length m0.ns.c:=rfl
 have vp:m0.ps.val=.slice m0.ps.A m0.ps.l.length m0.ps.c:=rfl
 have vx:m0.xs.val=.slice m0.xs.A m0.xs.l.length m0.xs.c:=rfl
 obtain⟨fl,f0,f1,f2,f3,f4,f5,f38,f39,f40,f41,f42⟩:=And.intro gl (mgA_get hm.s)
 simp (maxSteps:=10^6) only[c8,k8,hs,hp,l15,k15,hs15,gl,Bl,Bu,Bp,Bw,f38,vi,undef,↓List.forall_mem_cons,↓Co,↓Bg,push_cast,↓reduceIte,reduceCtorEq,Nat.reduceEqDiff,Nat.reduceLT,Nat.reduceAdd]
 have z0:=hm.s
 refine Kx 0 (vs:=m0.ids.l.map (Value.int .i64)) rfl rfl Ew rfl (V7 (l:=m0.ids.l) few.ids (Bt hm.ids.rd _ _ (by simp) hm.ids.len)) (Ae rfl) (by simp (maxSteps:=10^6) only[↓List.forall_mem_cons,↓A5,↓Bg,push_cast,Nat.reduceLT,Nat.reduceAdd]) ?_
 intro A1 cap1 b1 _
 have s1:(mgA m0).set 38 (.v (.slice A1 m0.ids.l.length cap1))=mgA {m0 with ids:=⟨A1,cap1,m0.ids.l⟩}:=(R6 z0).1 ⟨A1,cap1,m0.ids.l⟩
 obtain⟨m1,hm1⟩:∃m,m={m0 with ids:=⟨A1,cap1,m0.ids.l⟩}:=⟨_,rfl⟩
 rw[←hm1] at s1
 have z1:m1.sm.length=32:=by rw[hm1];exact z0
 have q1:∀d,(mgA m1).getD 39 d=.v m0.ns.val:=fun d=>by
  have:=(mgA_get z1).2.2.2.2.2.2.2.1 d
  rw[this]
  simp only[hm1]
 have l1:=Aw z1
 simp (maxSteps:=10^6) only[s1,l1,q1,vn,List.length_map,gl,undef,push_cast,↓reduceIte,reduceCtorEq,Nat.reduceEqDiff,Nat.reduceLT,Nat.reduceAdd]
 (repeat (refine And.intro (by first|omega|decide) ?_))
 refine Kx 0 (vs:=m0.ns.l.map vU64) rfl rfl Qr rfl (A3g (l:=m0.ns.l) few.ns (Bt hm.ns.rd _ _ (by simp) hm.ns.len)) (Ae rfl) (by simp (maxSteps:=10^6) only[↓List.forall_mem_cons,↓A5,↓Bg,push_cast,Nat.reduceLT,Nat.reduceAdd]) ?_
 intro A2 cap2 b2 _
 have s2:(mgA m1).set 39 (.v (.slice A2 m0.ns.l.length cap2))=mgA {m1 with ns:=⟨A2,cap2,m0.ns.l⟩}:=(R6 z1).2.1 ⟨A2,cap2,m0.ns.l⟩
 obtain⟨m2,hm2⟩:∃m,m={m1 with ns:=⟨A2,cap2,m0.ns.l⟩}:=⟨_,rfl⟩
 rw[←hm2] at s2
 have z2:m2.sm.length=32:=by rw[hm2];exact z1
 have q2:∀d,(mgA m2).getD 40 d=.v m0.ps.val:=fun d=>by
  have:=(mgA_get z2).2.2.2.2.2.2.2.2.1 d
  rw[this]
  simp only[hm2,hm1]
 have l2:=Aw z2
 simp (maxSteps:=10^6) only[s2,l2,l1,q2,vp,List.length_map,undef,push_cast,↓reduceIte,reduceCtorEq,Nat.reduceEqDiff,Nat.reduceLT,Nat.reduceAdd]
 (repeat (refine And.intro (by first|omega|decide) ?_))
 refine A3f 0 (n':=m0.ps.l.length) (vs:=pvs m0.ps.l) rfl rfl Axj rfl (A3i (l:=m0.ps.l) few.ps (L1 hm.ps.rd hm.ps.len)) (fun γ=>L3 γ _) (Jj _) (Ae rfl) (by simp (maxSteps:=10^6) only[↓List.forall_mem_cons,↓A5,↓Bg,push_cast,Nat.reduceLT,Nat.reduceAdd]) ?_
 intro A3 cap3 b3
 have s3:(mgA m2).set 40 (.v (.slice A3 m0.ps.l.length cap3))=mgA {m2 with ps:=⟨A3,cap3,m0.ps.l⟩}:=(R6 z2).2.2.1 ⟨A3,cap3,m0.ps.l⟩
 obtain⟨m3,hm3⟩:∃m,m={m2 with ps:=⟨A3,cap3,m0.ps.l⟩}:=⟨_,rfl⟩
 rw[←hm3] at s3
 have z3:m3.sm.length=32:=by rw[hm3];exact z2
 have q3:∀d,(mgA m3).getD 41 d=.v m0.xs.val:=fun d=>by
  have:=(mgA_get z3).2.2.2.2.2.2.2.2.2.1 d
  rw[this]
  simp only[hm3,hm2,hm1]
 have l3:=Aw z3
 simp (maxSteps:=10^6) only[s3,l3,l2,q3,vx,undef,push_cast,↓reduceIte,reduceCtorEq,Nat.reduceEqDiff,Nat.reduceLT,Nat.reduceAdd]
 (repeat (refine And.intro (by first|omega|decide) ?_))
 refine Kx 0 (vs:=m0.xs.l.map Ak) rfl rfl Zo rfl (A3h (l:=m0.xs.l) few.xs (Bt hm.xs.rd _ _ (by simp) hm.xs.len)) (Ae rfl) (by simp (maxSteps:=10^6) only[↓List.forall_mem_cons,↓A5,↓Bg,push_cast,Nat.reduceLT,Nat.reduceAdd]) ?_
 intro A4 cap4 b4 _
 have s4:(mgA m3).set 41 (.v (.slice A4 m0.xs.l.length cap4))=mgA {m3 with xs:=⟨A4,cap4,m0.xs.l⟩}:=(R6 z3).2.2.2 ⟨A4,cap4,m0.xs.l⟩
 obtain⟨m4,hm4⟩:∃m,m={m3 with xs:=⟨A4,cap4,m0.xs.l⟩}:=⟨_,rfl⟩
 rw[←hm4] at s4
 have z4:m4.sm.length=32:=by rw[hm4];exact z3
 have l4:=Aw z4
 simp (maxSteps:=10^6) only[s4,l3,List.length_map,undef,push_cast,↓reduceIte,reduceCtorEq,Nat.reduceEqDiff,Nat.reduceLT,Nat.reduceAdd]
 (repeat (refine And.intro (by first|omega|decide) ?_))
 refine Cc [(0,true),(1,true),(2,true),(3,true),(4,true),(5,true),(6,false),(7,true)] (by kernel_rfl) (by kernel_rfl) rfl (by kernel_rfl) ?_
 have dz:(mgA zeroR).drop 43=[]:=rfl
 simp (maxSteps:=10^6) only[c5,k5,hs,l4,dz,Bl,Hh,J1,Bp,Bw,Ry,↓List.forall_mem_cons,↓Ad,↓A5,↓Bg,push_cast,↓reduceIte,reduceCtorEq,Nat.reduceEqDiff,Nat.reduceLT,Nat.reduceLeDiff,Nat.reduceAdd,Nat.reduceMul]
 refine⟨of_eq_true (Co m4 _),(m4,[⟨.slice A1 m0.ids.l.length cap1,m0.ids.l.length,m0.ids.l.map (Value.int .i64)⟩,⟨.slice A2 m0.ns.l.length cap2,m0.ns.l.length,m0.ns.l.map vU64⟩,⟨.slice A3 m0.ps.l.length cap3,m0.ps.l.length,pvs m0.ps.l⟩,⟨.slice A4 m0.xs.l.length cap4,m0.xs.l.length,m0.xs.l.map Ak⟩]),⟨?_,?_⟩,A9 [0,2] ?_⟩
 ·simp only[hm4,hm3,hm2,hm1];rfl
 ·refine⟨z4,.inr ?_,.inr ?_,.inr ?_,.inr ?_,?_⟩
  ·simp only[hm4,hm3,hm2,hm1];exact List.mem_cons_self ..
  ·simp only[hm4,hm3,hm2,hm1];exact List.mem_cons_of_mem _ (List.mem_cons_self ..)
  ·simp only[hm4,hm3,hm2,hm1];exact List.mem_cons_of_mem _ (List.mem_cons_of_mem _ (List.mem_cons_self ..))
  ·simp only[hm4,hm3,hm2,hm1];exact List.mem_cons_of_mem _ (List.mem_cons_of_mem _ (List.mem_cons_of_mem _ (List.mem_cons_self ..)))
  ·simp only[hm4,hm3,hm2,hm1];exact few
 ·have e:snL [⟨false,r.parent,m4⟩]=.v (.bool false):: .v (.int .i64 r.parent)::mgA m4:=by
   unfold snL
   rw[List.flatMap_cons,List.flatMap_nil,List.append_nil]
   rfl
  simp (maxSteps:=10^6) only[e,↓L9,↓Rx,↓List.forall_mem_cons,push_cast,↓reduceIte,reduceCtorEq,Nat.reduceLT,Nat.reduceAdd]
theorem V8 (r:LfR) (a:Addr) {t xp xb xr:Value} (w:World) (h:LfAt r w a t xp xb xr) (hm:r.sum.Ok w):
  Calls Tryz.prog 63 #[.pointer (some a)] w fun e w'=>∃(x:SlV SnR×List Fct) (γ1:List Nm),(x.1.l.map SnR.s=r.s.again∧OutOk x.2 x.1)∧e=.returned x.1.val∧Sat w No γ1 [.abs (Aa x.2)] w':=by
 have e0:r.s.again=if r.phase≠3 then [] else [⟨false,r.parent,r.sum.mg⟩]:=rfl
 by_cases hp:r.phase=3
 ·rw[if_neg (fun h=>h hp)] at e0
  refine (A3k r a w h hm hp).mono fun e w' ⟨⟨m,Gs⟩,γ1,⟨h1,h2⟩,he,hS⟩=>?_
  dsimp only at h1 h2 hS
  have h3:∀y∈[SnR.mk false r.parent m],MOk Gs y.m:=fun y hy=>by rw[List.mem_singleton.1 hy];exact h2
  obtain⟨A1,cap,γ',e1,e2,eB,eS,h5⟩:=hS.onnF (j:=1) (k:=0) (vs:=[SnR.mk false r.parent m].flatMap snV) (n:=1) rfl rfl (by decide) (Nv γ1 _) (Rz fun y hy=>(h3 y hy).s)
  have h6:=Sat.frontOf (A:=[.abs (Aa (Gs++[⟨.slice A1 1 cap,1,[SnR.mk false r.parent m].flatMap snV⟩]))]) (N:=[.gone]) h5 (fun r hr=>by rw[List.mem_singleton.1 hr];trivial)
  refine⟨(⟨A1,cap,[SnR.mk false r.parent m]⟩,Gs++[⟨.slice A1 1 cap,1,[SnR.mk false r.parent m].flatMap snV⟩]),_,⟨?_,OutOk.of h3 (by show 1≤1000;omega)⟩,?_,h6⟩
  ·rw[e0,←h1];rfl
  ·rw[he]
   show Ending.returned (nmS γ1 1)=_
   rw[e1]
   rfl
 ·rw[if_pos hp] at e0
  refine (A3j r a w h hm.s hp).mono fun e w' ⟨he,hb⟩=>?_
  refine⟨(⟨none,0,[]⟩,[]),[]++[.m (.bool true) (fun _=>False)],⟨by rw[e0];rfl,Ey _⟩,he,?_⟩
  exact ((Sat.init w No).later hb).fct0 (fun r hr=>by cases hr)
end Go.Proofs.YtedaafmfjhjfmaaGreatDoor
