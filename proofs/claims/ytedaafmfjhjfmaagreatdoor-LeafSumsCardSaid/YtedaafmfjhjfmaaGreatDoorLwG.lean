import Derived.Test.YtedaafmfjhjfmaaGreatDoorLwF
import Derived.Test.YtedaafmfjhjfmaaGreatDoorMg4
/- Layer 28 walked: Hear, by kind. -/
namespace Go.Proofs.YtedaafmfjhjfmaaGreatDoor
open Go.RowKit
set_option linter.unusedSimpArgs false
set_option linter.unusedVariables false
theorem MgF.ok {m:MgR} {w0 w:World} {B:Nat→Prop} {γ:List Nm} {hp:List Res} (h:MgF m w0 B) (hS:Sat w0 B γ hp w):m.Ok w:=by
 have k:∀{A:Option Addr} {vs:List Value},FW w0 B A vs→RdV w w.heap.size A vs:=fun {A vs} h=>by
  obtain⟨A',c',e,_,r⟩:=Di (hp:=hp) h vs.length vs.length rfl (Nat.le_refl _) γ w hS
  have e:Value.slice A vs.length vs.length=.slice A' vs.length c':=e
  injection e with e1 _ _
  rw[e1]
  exact r
 exact⟨h.few.sm,⟨h.ids.1,h.few.ids,k h.ids.2⟩,⟨h.ns.1,h.few.ns,k h.ns.2⟩,⟨h.ps.1,h.few.ps,k h.ps.2⟩,⟨h.xs.1,h.few.xs,k h.xs.2⟩⟩
attribute [local irreducible] Ah Ai Am Bc A7 Ay Ap A6
attribute [local irreducible] A8 okV Bj erV Tal.can Tal.st Bz Cd
theorem Hd {m:MgR} {w0:World} {B:Nat→Prop} {hp:List Res} (h:MgF m w0 B):Ai Tryz.prog w0 B 55 [.x (.g (mgA m))] hp (.x (.a (.v (okV (Cd m.mg) 1)))) hp:=Bq fun γ w hS=>by
 have e:List.map (Sv.val γ) [.x (.g (mgA m))]=List.map (Sv.val []) [.x (.g (mgA m))]:=by
  simp only[List.map_cons,List.map_nil,C4]
 rw[e]
 exact A6e m w (h.ok hS)
theorem A6f:((3:UInt8)=1)=False:=by decide
theorem A6g:((5:UInt8)=1)=False:=by decide
theorem A6h:((5:UInt8)=3)=False:=by decide
theorem A6i:((7:UInt8)=1)=False:=by decide
theorem A6j:((7:UInt8)=3)=False:=by decide
theorem A6k:((7:UInt8)=5)=False:=by decide
theorem A6l:((7:UInt8)=8)=False:=by decide
theorem A6m:((7:UInt8)=9)=False:=by decide
theorem A6n:((7:UInt8)=15)=False:=by decide
theorem A6o:((7:UInt8)=16)=False:=by decide
theorem A6p:((8:UInt8)=1)=False:=by decide
theorem A6q:((8:UInt8)=3)=False:=by decide
theorem A6r:((8:UInt8)=5)=False:=by decide
theorem A6s:((8:UInt8)=9)=False:=by decide
theorem Acv:((9:UInt8)=1)=False:=by decide
theorem Acw:((9:UInt8)=3)=False:=by decide
theorem Acx:((9:UInt8)=5)=False:=by decide
theorem A6t:((15:UInt8)=1)=False:=by decide
theorem A6u:((15:UInt8)=3)=False:=by decide
theorem A6v:((15:UInt8)=5)=False:=by decide
theorem A6w:((15:UInt8)=8)=False:=by decide
theorem A6x:((15:UInt8)=9)=False:=by decide
theorem A6y:((15:UInt8)=16)=False:=by decide
theorem A6z:((16:UInt8)=1)=False:=by decide
theorem A60:((16:UInt8)=3)=False:=by decide
theorem A61:((16:UInt8)=5)=False:=by decide
theorem A62:((16:UInt8)=8)=False:=by decide
theorem A63:((16:UInt8)=9)=False:=by decide
section
variable {r:LfR} {m:MgR} {g:Nat} {w:World} {B:Nat→Prop} {γ:List Nm} {Fs:List Fct}
set_option maxRecDepth 100000 in
theorem A64 (hS:Sat w B γ (lfB g r) w) (hw:Known w B Fs) (ok:LfOk Fs r) (hm:MgF m w B) (hlv:r.phase < 2→r.live=true) (hc:Cd m.mg=false):
  Calls Tryz.prog 14 (List.map (Sv.val (γ++[.m (.bool true) (fun _=>False)])) [.x (.a (.p 0 0)),.x (.g (mgA m))]).toArray w fun e w'=>∃(x:LfR×SlV SnR×List Fct) (γ1:List Nm),Bi Fs (r.s.hear m.mg).1 (r.s.hear m.mg).2.1 x∧e=.returned ((Sv.t [.a (.v x.2.1.val),.a (.v (erV (r.s.hear m.mg).2.2))]).val γ1)∧Sat w B γ1 (lfB g x.1++[.abs (Aa x.2.2)]) w':=by
 have gl:=Aw ok.sum.s
 have gm:=Aw hm.few.sm
 obtain⟨f0,f1,f2,f3,f4,f5,f38,f39,f40,f41,f42⟩:=mgA_get hm.few.sm
 have vi:m.ids.val=.slice m.ids.A m.ids.l.length m.ids.c:=rfl
 have vn:m.ns.val=.slice m.ns.A m.ns.l.length m.ns.c:=rfl
 have vg:r.group.val=.slice r.group.A r.group.l.length r.group.c:=rfl
 have va:r.above.val=.slice r.above.A r.above.l.length r.above.c:=rfl
 have e0:r.s.hear m.mg=(r.s,[],1):=by unfold LfS.hear;rw[if_pos hc]
 refine Ci (n:=122) (ι:=LfR×SlV SnR×List Fct) (Bi Fs (r.s.hear m.mg).1 (r.s.hear m.mg).2.1) (fun x=>.t [.a (.v x.2.1.val),.a (.v (erV (r.s.hear m.mg).2.2))]) (fun x=>lfB g x.1++[.abs (Aa x.2.2)]) Tryz.func14 rfl Tryz.ntmps14 [.x (.a (.p 0 0)),.x (.g (mgA m))] (hS.fct0 (Ar g r)) (by show 2≤122;omega) ?_
 rw[e0]
 unfold lfB lfA
 simp (maxSteps:=10^6) only[gm,↓Ag,↓List.forall_mem_cons,↓Ad,↓Af,↓Bg,↓Bf,push_cast,↓reduceIte,reduceCtorEq,Nat.reduceEqDiff,Nat.reduceLT,Nat.reduceAdd]
 (repeat (refine And.intro (by first|omega|decide) ?_))
 refine Al rfl Gw rfl (Hd hm) (Ae rfl) ?_
 rw[hc,Il]
 have ev:=B5 (n:=1) (by decide)
 simp (maxSteps:=10^6) only[ev,push_cast,↓reduceIte,Nat.reduceEqDiff,Nat.reduceLT,Nat.reduceAdd]
 refine⟨(r,⟨none,0,[]⟩,[]),⟨rfl,rfl,hlv,by rw[List.append_nil];exact ok,Ey _⟩,A9 [0,1,2,3,4,5] ?_⟩
 simp (maxSteps:=10^6) only[SlV.val,↓Ag,↓Az,↓List.forall_mem_cons,↓Ad,↓Af,↓Ax,Au,push_cast,↓reduceIte,reduceCtorEq,Nat.reduceEqDiff,Nat.reduceLT,Nat.reduceAdd]
set_option maxRecDepth 100000 in
theorem A65 (hS:Sat w B γ (lfB g r) w) (hw:Known w B Fs) (ok:LfOk Fs r) (hm:MgF m w B) (hlv:r.phase < 2→r.live=true) (hc:Cd m.mg=true) (n1:¬m.k=1) (n3:¬m.k=3) (n5:¬m.k=5) (n7:¬m.k=7) (n8:¬m.k=8) (n9:¬m.k=9) (n15:¬m.k=15) (n16:¬m.k=16):
  Calls Tryz.prog 14 (List.map (Sv.val (γ++[.m (.bool true) (fun _=>False)])) [.x (.a (.p 0 0)),.x (.g (mgA m))]).toArray w fun e w'=>∃(x:LfR×SlV SnR×List Fct) (γ1:List Nm),Bi Fs (r.s.hear m.mg).1 (r.s.hear m.mg).2.1 x∧e=.returned ((Sv.t [.a (.v x.2.1.val),.a (.v (erV (r.s.hear m.mg).2.2))]).val γ1)∧Sat w B γ1 (lfB g x.1++[.abs (Aa x.2.2)]) w':=by
 have gl:=Aw ok.sum.s
 have gm:=Aw hm.few.sm
 obtain⟨f0,f1,f2,f3,f4,f5,f38,f39,f40,f41,f42⟩:=mgA_get hm.few.sm
 have vi:m.ids.val=.slice m.ids.A m.ids.l.length m.ids.c:=rfl
 have vn:m.ns.val=.slice m.ns.A m.ns.l.length m.ns.c:=rfl
 have vg:r.group.val=.slice r.group.A r.group.l.length r.group.c:=rfl
 have va:r.above.val=.slice r.above.A r.above.l.length r.above.c:=rfl
 have e0:r.s.hear m.mg=(r.s,[],1):=by
  unfold LfS.hear
  rw[if_neg (by rw[hc];decide),if_neg (show ¬(m.mg.k=1∨m.mg.k=3∨m.mg.k=5) from fun h=>by rcases h with h|h|h;exact n1 h;exact n3 h;exact n5 h),if_neg (show ¬m.mg.k=9 from n9),if_neg (show ¬m.mg.k=8 from n8),if_neg (show ¬m.mg.k=16 from n16),if_neg (show ¬m.mg.k=15 from n15),if_neg (show ¬m.mg.k=7 from n7)]
 refine Ci (n:=122) (ι:=LfR×SlV SnR×List Fct) (Bi Fs (r.s.hear m.mg).1 (r.s.hear m.mg).2.1) (fun x=>.t [.a (.v x.2.1.val),.a (.v (erV (r.s.hear m.mg).2.2))]) (fun x=>lfB g x.1++[.abs (Aa x.2.2)]) Tryz.func14 rfl Tryz.ntmps14 [.x (.a (.p 0 0)),.x (.g (mgA m))] (hS.fct0 (Ar g r)) (by show 2≤122;omega) ?_
 rw[e0]
 unfold lfB lfA
 simp (maxSteps:=10^6) only[gm,↓Ag,↓List.forall_mem_cons,↓Ad,↓Af,↓Bg,↓Bf,push_cast,↓reduceIte,reduceCtorEq,Nat.reduceEqDiff,Nat.reduceLT,Nat.reduceAdd]
 (repeat (refine And.intro (by first|omega|decide) ?_))
 refine Al rfl Gw rfl (Hd hm) (Ae rfl) ?_
 rw[hc,Do]
 have ev:=B5 (n:=1) (by decide)
 simp (maxSteps:=10^6) only[gm,f0,vg,va,ev,n1,n3,n5,n7,n8,n9,n15,n16,undef,push_cast,↓reduceIte,reduceCtorEq,Nat.reduceEqDiff,Nat.reduceLT,Nat.reduceAdd]
 refine⟨(r,⟨none,0,[]⟩,[]),⟨rfl,rfl,hlv,by rw[List.append_nil];exact ok,Ey _⟩,A9 [0,1,2,3,4,5] ?_⟩
 simp (maxSteps:=10^6) only[SlV.val,↓Ag,↓Az,↓List.forall_mem_cons,↓Ad,↓Af,↓Ax,Au,push_cast,↓reduceIte,reduceCtorEq,Nat.reduceEqDiff,Nat.reduceLT,Nat.reduceAdd]
set_option maxRecDepth 100000 in
theorem A66 (hS:Sat w B γ (lfB g r) w) (hw:Known w B Fs) (ok:LfOk Fs r) (hm:MgF m w B) (hlv:r.phase < 2→r.live=true) (hc:Cd m.mg=true) (hk:m.k=7):
  Calls Tryz.prog 14 (List.map (Sv.val (γ++[.m (.bool true) (fun _=>False)])) [.x (.a (.p 0 0)),.x (.g (mgA m))]).toArray w fun e w'=>∃(x:LfR×SlV SnR×List Fct) (γ1:List Nm),Bi Fs (r.s.hear m.mg).1 (r.s.hear m.mg).2.1 x∧e=.returned ((Sv.t [.a (.v x.2.1.val),.a (.v (erV (r.s.hear m.mg).2.2))]).val γ1)∧Sat w B γ1 (lfB g x.1++[.abs (Aa x.2.2)]) w':=by
 have gl:=Aw ok.sum.s
 have gm:=Aw hm.few.sm
 obtain⟨f0,f1,f2,f3,f4,f5,f38,f39,f40,f41,f42⟩:=mgA_get hm.few.sm
 have vi:m.ids.val=.slice m.ids.A m.ids.l.length m.ids.c:=rfl
 have vn:m.ns.val=.slice m.ns.A m.ns.l.length m.ns.c:=rfl
 have vg:r.group.val=.slice r.group.A r.group.l.length r.group.c:=rfl
 have va:r.above.val=.slice r.above.A r.above.l.length r.above.c:=rfl
 have e0:r.s.hear m.mg=if m.pl≠r.place then (r.s,[],2) else (r.s,[],0):=by
  unfold LfS.hear
  rw[if_neg (by rw[hc];decide),if_neg (show ¬(m.mg.k=1∨m.mg.k=3∨m.mg.k=5) from by show ¬(m.k=1∨m.k=3∨m.k=5);rw[hk];decide),if_neg (show ¬m.mg.k=9 from by show ¬m.k=9;rw[hk];decide),if_neg (show ¬m.mg.k=8 from by show ¬m.k=8;rw[hk];decide),if_neg (show ¬m.mg.k=16 from by show ¬m.k=16;rw[hk];decide),if_neg (show ¬m.mg.k=15 from by show ¬m.k=15;rw[hk];decide),if_pos (show m.mg.k=7 from hk)]
  rfl
 refine Ci (n:=122) (ι:=LfR×SlV SnR×List Fct) (Bi Fs (r.s.hear m.mg).1 (r.s.hear m.mg).2.1) (fun x=>.t [.a (.v x.2.1.val),.a (.v (erV (r.s.hear m.mg).2.2))]) (fun x=>lfB g x.1++[.abs (Aa x.2.2)]) Tryz.func14 rfl Tryz.ntmps14 [.x (.a (.p 0 0)),.x (.g (mgA m))] (hS.fct0 (Ar g r)) (by show 2≤122;omega) ?_
 rw[e0]
 unfold lfB lfA
 simp (maxSteps:=10^6) only[gm,↓Ag,↓List.forall_mem_cons,↓Ad,↓Af,↓Bg,↓Bf,push_cast,↓reduceIte,reduceCtorEq,Nat.reduceEqDiff,Nat.reduceLT,Nat.reduceAdd]
 (repeat (refine And.intro (by first|omega|decide) ?_))
 refine Al rfl Gw rfl (Hd hm) (Ae rfl) ?_
 rw[hc,Do]
 simp (maxSteps:=10^6) only[gm,f0,vg,va,hk,A6i,A6j,A6k,A6l,A6m,A6n,A6o,undef,push_cast,↓reduceIte,reduceCtorEq,Nat.reduceEqDiff,Nat.reduceLT,Nat.reduceAdd]
 refine Cc [(0,true),(1,true),(2,true),(3,true),(4,true),(5,true),(6,true)] (by kernel_rfl) (by kernel_rfl) rfl (by kernel_rfl) ?_
 by_cases h1:m.pl=r.place
 ·rw[if_neg (fun h=>h h1)]
  rw[En]
  simp (maxSteps:=10^6) only[gm,f1,gl,h1,undef,push_cast,↓reduceIte,reduceCtorEq,Nat.reduceEqDiff,Nat.reduceLT,Nat.reduceAdd]
  refine⟨(r,⟨none,0,[]⟩,[]),⟨rfl,rfl,hlv,by rw[List.append_nil];exact ok,Ey _⟩,A9 [0,1,2,3,4,5] ?_⟩
  simp (maxSteps:=10^6) only[SlV.val,↓Ag,↓Az,↓List.forall_mem_cons,↓Ad,↓Af,↓Ax,Au,push_cast,↓reduceIte,reduceCtorEq,Nat.reduceEqDiff,Nat.reduceLT,Nat.reduceAdd]
 ·rw[if_pos h1]
  have ev:=B5 (n:=2) (by decide)
  simp (maxSteps:=10^6) only[gm,f1,gl,ev,h1,undef,push_cast,↓reduceIte,reduceCtorEq,Nat.reduceEqDiff,Nat.reduceLT,Nat.reduceAdd]
  refine⟨(r,⟨none,0,[]⟩,[]),⟨rfl,rfl,hlv,by rw[List.append_nil];exact ok,Ey _⟩,A9 [0,1,2,3,4,5] ?_⟩
  simp (maxSteps:=10^6) only[SlV.val,↓Ag,↓Az,↓List.forall_mem_cons,↓Ad,↓Af,↓Ax,Au,push_cast,↓reduceIte,reduceCtorEq,Nat.reduceEqDiff,Nat.reduceLT,Nat.reduceAdd]
theorem _root_.Go.Proofs.YtedaafmfjhjfmaaGreatDoor.MOk.okK {Fs:List Fct} {m:MgR} {w:World} {B:Nat→Prop} (h:MOk Fs m) (hk:Known w B Fs):m.Ok w:=by
 have e1:=hk.fw (vs:=m.ids.l.map (Value.int .i64)) h.ids (fun e=>by rw[e];rfl)
 have e2:=hk.fw (vs:=m.ns.l.map vU64) h.ns (fun e=>by rw[e];rfl)
 have e3:=hk.fw (vs:=pvs m.ps.l) h.ps (fun e=>by rw[e];rfl)
 have e4:=hk.fw (vs:=m.xs.l.map Ak) h.xs (fun e=>by rw[e];rfl)
 exact⟨h.s,⟨e1.1,h.few.ids,e1.2.rd⟩,⟨e2.1,h.few.ns,e2.2.rd⟩,⟨e3.1,h.few.ps,e3.2.rd⟩,⟨e4.1,h.few.xs,e4.2.rd⟩⟩
set_option maxRecDepth 100000 in
theorem A67 (hS:Sat w B γ (lfB g r) w) (hw:Known w B Fs) (ok:LfOk Fs r) (hm:MgF m w B) (hlv:r.phase < 2→r.live=true) (hc:Cd m.mg=true) (hk:m.k=15):
  Calls Tryz.prog 14 (List.map (Sv.val (γ++[.m (.bool true) (fun _=>False)])) [.x (.a (.p 0 0)),.x (.g (mgA m))]).toArray w fun e w'=>∃(x:LfR×SlV SnR×List Fct) (γ1:List Nm),Bi Fs (r.s.hear m.mg).1 (r.s.hear m.mg).2.1 x∧e=.returned ((Sv.t [.a (.v x.2.1.val),.a (.v (erV (r.s.hear m.mg).2.2))]).val γ1)∧Sat w B γ1 (lfB g x.1++[.abs (Aa x.2.2)]) w':=by
 have gl:=Aw ok.sum.s
 have gm:=Aw hm.few.sm
 obtain⟨f0,f1,f2,f3,f4,f5,f38,f39,f40,f41,f42⟩:=mgA_get hm.few.sm
 have vi:m.ids.val=.slice m.ids.A m.ids.l.length m.ids.c:=rfl
 have vn:m.ns.val=.slice m.ns.A m.ns.l.length m.ns.c:=rfl
 have vg:r.group.val=.slice r.group.A r.group.l.length r.group.c:=rfl
 have va:r.above.val=.slice r.above.A r.above.l.length r.above.c:=rfl
 have e0:r.s.hear m.mg=if m.pl≠r.parent then (r.s,[],2) else (r.s,r.s.again,0):=by
  unfold LfS.hear
  rw[if_neg (by rw[hc];decide),if_neg (show ¬(m.mg.k=1∨m.mg.k=3∨m.mg.k=5) from by show ¬(m.k=1∨m.k=3∨m.k=5);rw[hk];decide),if_neg (show ¬m.mg.k=9 from by show ¬m.k=9;rw[hk];decide),if_neg (show ¬m.mg.k=8 from by show ¬m.k=8;rw[hk];decide),if_neg (show ¬m.mg.k=16 from by show ¬m.k=16;rw[hk];decide),if_pos (show m.mg.k=15 from hk)]
  rfl
 refine Ci (n:=122) (ι:=LfR×SlV SnR×List Fct) (Bi Fs (r.s.hear m.mg).1 (r.s.hear m.mg).2.1) (fun x=>.t [.a (.v x.2.1.val),.a (.v (erV (r.s.hear m.mg).2.2))]) (fun x=>lfB g x.1++[.abs (Aa x.2.2)]) Tryz.func14 rfl Tryz.ntmps14 [.x (.a (.p 0 0)),.x (.g (mgA m))] (hS.fct0 (Ar g r)) (by show 2≤122;omega) ?_
 rw[e0]
 unfold lfB lfA
 simp (maxSteps:=10^6) only[gm,↓Ag,↓List.forall_mem_cons,↓Ad,↓Af,↓Bg,↓Bf,push_cast,↓reduceIte,reduceCtorEq,Nat.reduceEqDiff,Nat.reduceLT,Nat.reduceAdd]
 (repeat (refine And.intro (by first|omega|decide) ?_))
 refine Al rfl Gw rfl (Hd hm) (Ae rfl) ?_
 rw[hc,Do]
 have okM:∀{Gs:List Fct},(∀f∈Fs,f∈Fs++Gs)→LfOk (Fs++Gs) r:=fun h=>ok.more h
 simp (maxSteps:=10^6) only[gm,f0,vg,va,hk,A6t,A6u,A6v,A6w,A6x,A6y,undef,push_cast,↓reduceIte,reduceCtorEq,Nat.reduceEqDiff,Nat.reduceLT,Nat.reduceAdd]
 refine Cc [(0,true),(1,true),(2,true),(3,true),(4,true),(5,true),(6,true)] (by kernel_rfl) (by kernel_rfl) rfl (by kernel_rfl) ?_
 by_cases h1:m.pl=r.parent
 ·rw[if_neg (fun h=>h h1)]
  rw[En]
  simp (maxSteps:=10^6) only[gm,f1,gl,h1,undef,push_cast,↓reduceIte,reduceCtorEq,Nat.reduceEqDiff,Nat.reduceLT,Nat.reduceAdd]
  (repeat (refine And.intro (by first|omega|decide) ?_))
  refine Fk (ι:=SlV SnR×List Fct) (fun x=>x.1.l.map SnR.s=r.s.again∧OutOk x.2 x.1) (fun x=>.x (.a (.v x.1.val))) (fun x=>x.2) 5 rfl rfl Uy rfl (fun γ' w' hS'=>?_) (fun _ _=>rfl) (Ae rfl) (by simp (maxSteps:=10^6) only[↓Ag,↓List.forall_mem_cons,↓Ad,↓Af,↓A5,↓Bg,push_cast,Nat.reduceLT,Nat.reduceAdd]) ?_
  ·have hS2:Sat w B γ' (lfB g r++[.abs (Aa []),.blk 48 (.c (mgA m))]) w':=hS'
   obtain⟨hg,hat⟩:=Js hS2
   have hkn:=Iq (Dr (A:=lfB g r) hS2 hw)
   have:=V8 r ⟨g,0,none⟩ w' hat (ok.sum.okK hkn)
   refine Calls.mono (R:=fun e w''=>∃(x:SlV SnR×List Fct) (γ1:List Nm),(x.1.l.map SnR.s=r.s.again∧OutOk x.2 x.1)∧e=.returned x.1.val∧Sat w' No γ1 [.abs (Aa x.2)] w'') ?_ (fun e w'' ⟨x,γ1,h1,h2,h3⟩=>⟨x,γ1,h1,h2,h3⟩)
   show Calls _ _ #[.pointer (some ⟨nmB γ' 0,0,none⟩)] w' _
   rw[hg]
   exact this
  rintro⟨out,Hs⟩ ⟨q3,q4⟩
  dsimp only at q3 q4
  simp (maxSteps:=10^6) only[push_cast,↓reduceIte,Nat.reduceEqDiff,Nat.reduceLT,Nat.reduceAdd]
  refine⟨(r,out,Hs),⟨rfl,q3,hlv,okM fun f hf=>List.mem_append_left _ hf,q4⟩,A9 [0,1,2,3,4,5] ?_⟩
  simp (maxSteps:=10^6) only[vg,va,↓Ag,↓Az,↓List.forall_mem_cons,↓Ad,↓Af,↓Ax,Au,push_cast,↓reduceIte,reduceCtorEq,Nat.reduceEqDiff,Nat.reduceLT,Nat.reduceAdd]
 ·rw[if_pos h1]
  have ev:=B5 (n:=2) (by decide)
  simp (maxSteps:=10^6) only[gm,f1,gl,ev,h1,undef,push_cast,↓reduceIte,reduceCtorEq,Nat.reduceEqDiff,Nat.reduceLT,Nat.reduceAdd]
  refine⟨(r,⟨none,0,[]⟩,[]),⟨rfl,rfl,hlv,by rw[List.append_nil];exact ok,Ey _⟩,A9 [0,1,2,3,4,5] ?_⟩
  simp (maxSteps:=10^6) only[SlV.val,↓Ag,↓Az,↓List.forall_mem_cons,↓Ad,↓Af,↓Ax,Au,push_cast,↓reduceIte,reduceCtorEq,Nat.reduceEqDiff,Nat.reduceLT,Nat.reduceAdd]
set_option maxRecDepth 100000 in
theorem A68 (hS:Sat w B γ (lfB g r) w) (hw:Known w B Fs) (ok:LfOk Fs r) (hm:MgF m w B) (hlv:r.phase < 2→r.live=true) (hc:Cd m.mg=true) (hk:m.k=16):
  Calls Tryz.prog 14 (List.map (Sv.val (γ++[.m (.bool true) (fun _=>False)])) [.x (.a (.p 0 0)),.x (.g (mgA m))]).toArray w fun e w'=>∃(x:LfR×SlV SnR×List Fct) (γ1:List Nm),Bi Fs (r.s.hear m.mg).1 (r.s.hear m.mg).2.1 x∧e=.returned ((Sv.t [.a (.v x.2.1.val),.a (.v (erV (r.s.hear m.mg).2.2))]).val γ1)∧Sat w B γ1 (lfB g x.1++[.abs (Aa x.2.2)]) w':=by
 have gl:=Aw ok.sum.s
 have gm:=Aw hm.few.sm
 obtain⟨f0,f1,f2,f3,f4,f5,f38,f39,f40,f41,f42⟩:=mgA_get hm.few.sm
 have vi:m.ids.val=.slice m.ids.A m.ids.l.length m.ids.c:=rfl
 have vn:m.ns.val=.slice m.ns.A m.ns.l.length m.ns.c:=rfl
 have vg:r.group.val=.slice r.group.A r.group.l.length r.group.c:=rfl
 have va:r.above.val=.slice r.above.A r.above.l.length r.above.c:=rfl
 have e0:r.s.hear m.mg=if m.pl≠r.place∨m.ot∉r.above.l then (r.s,[],2) else (({r with parent:=m.ot}:LfR).s,({r with parent:=m.ot}:LfR).s.again,0):=by
  unfold LfS.hear
  rw[if_neg (by rw[hc];decide),if_neg (show ¬(m.mg.k=1∨m.mg.k=3∨m.mg.k=5) from by show ¬(m.k=1∨m.k=3∨m.k=5);rw[hk];decide),if_neg (show ¬m.mg.k=9 from by show ¬m.k=9;rw[hk];decide),if_neg (show ¬m.mg.k=8 from by show ¬m.k=8;rw[hk];decide),if_pos (show m.mg.k=16 from hk)]
  rfl
 refine Ci (n:=122) (ι:=LfR×SlV SnR×List Fct) (Bi Fs (r.s.hear m.mg).1 (r.s.hear m.mg).2.1) (fun x=>.t [.a (.v x.2.1.val),.a (.v (erV (r.s.hear m.mg).2.2))]) (fun x=>lfB g x.1++[.abs (Aa x.2.2)]) Tryz.func14 rfl Tryz.ntmps14 [.x (.a (.p 0 0)),.x (.g (mgA m))] (hS.fct0 (Ar g r)) (by show 2≤122;omega) ?_
 obtain⟨R,hR⟩:∃R,r.s.hear m.mg=R:=⟨_,rfl⟩
 rw[hR]
 rw[hR] at e0
 unfold lfB lfA
 simp (maxSteps:=10^6) only[gm,↓Ag,↓List.forall_mem_cons,↓Ad,↓Af,↓Bg,↓Bf,push_cast,↓reduceIte,reduceCtorEq,Nat.reduceEqDiff,Nat.reduceLT,Nat.reduceAdd]
 (repeat (refine And.intro (by first|omega|decide) ?_))
 refine Al rfl Gw rfl (Hd hm) (Ae rfl) ?_
 rw[hc,Do]
 have fa:=hw.fw ok.above (fun e=>by rw[e];rfl)
 simp (maxSteps:=10^6) only[gm,f0,vg,va,hk,A6z,A60,A61,A62,A63,undef,push_cast,↓reduceIte,reduceCtorEq,Nat.reduceEqDiff,Nat.reduceLT,Nat.reduceAdd]
 refine Cc [(0,true),(1,true),(2,true),(3,true),(4,true),(5,true),(6,true),(7,true),(8,true),(9,true),(10,true),(11,true),(12,true),(13,true),(14,false),(15,true),(16,true)] (by kernel_rfl) (by kernel_rfl) rfl (by kernel_rfl) ?_
 have ev:=B5 (n:=2) (by decide)
 by_cases h1:m.pl=r.place
 ·simp (maxSteps:=10^6) only[gm,f1,f2,gl,h1,undef,push_cast,↓reduceIte,reduceCtorEq,Nat.reduceEqDiff,Nat.reduceLT,Nat.reduceAdd]
  (repeat (refine And.intro (by first|omega|decide) ?_))
  refine Kh rfl Axe rfl (A3w (l:=r.above.l) m.ot ok.few1 (Di fa.2 _ _ (List.length_map ..) fa.1)) (Ae rfl) ?_
  by_cases h2:m.ot∈r.above.l
  ·have hne:¬(¬m.pl=r.place∨¬m.ot∈r.above.l):=fun h=>h.elim (fun h=>h h1) (fun h=>h h2)
   rw[if_neg (show ¬(m.pl≠r.place∨m.ot∉r.above.l) from hne)] at e0
   rw[e0,En]
   simp (maxSteps:=10^6) only[gm,f2,gl,h2,undef,push_cast,↓reduceIte,reduceCtorEq,Nat.reduceEqDiff,Nat.reduceLT,Nat.reduceAdd]
   (repeat (refine And.intro (by first|omega|decide) ?_))
   obtain⟨r1,hr1⟩:∃r1:LfR,r1={r with parent:=m.ot}:=⟨_,rfl⟩
   have okM:∀{Gs:List Fct},(∀f∈Fs,f∈Fs++Gs)→LfOk (Fs++Gs) r1:=fun h=>by
    have k:=ok.more h
    rw[hr1]
    exact⟨k.above,k.group,k.waits,k.joined,k.ty,k.boxes,k.rows,k.sum,k.few1,k.few2,k.few3,k.few4,k.few5,k.few6,k.dim,k.need,k.term⟩
   rw[←hr1]
   have hlv:r1.phase < 2→r1.live=true:=by rw[hr1];exact hlv
   have ok:LfOk Fs r1:=by have:=okM (Gs:=[]) (fun f hf=>List.mem_append_left _ hf);rwa [List.append_nil] at this
   refine Fk (ι:=SlV SnR×List Fct) (fun x=>x.1.l.map SnR.s=r1.s.again∧OutOk x.2 x.1) (fun x=>.x (.a (.v x.1.val))) (fun x=>x.2) 5 rfl rfl Uy rfl (fun γ' w' hS'=>?_) (fun _ _=>rfl) (Ae rfl) (by simp (maxSteps:=10^6) only[↓Ag,↓List.forall_mem_cons,↓Ad,↓Af,↓A5,↓Bg,push_cast,Nat.reduceLT,Nat.reduceAdd]) ?_
   ·have hS2:Sat w B γ' (lfB g r1++[.abs (Aa []),.blk 48 (.c (mgA m))]) w':=by rw[hr1];exact hS'
    obtain⟨hg,hat⟩:=Js hS2
    have hkn:=Iq (Dr (A:=lfB g r1) hS2 hw)
    have:=V8 r1 ⟨g,0,none⟩ w' hat (ok.sum.okK hkn)
    refine Calls.mono (R:=fun e w''=>∃(x:SlV SnR×List Fct) (γ1:List Nm),(x.1.l.map SnR.s=r1.s.again∧OutOk x.2 x.1)∧e=.returned x.1.val∧Sat w' No γ1 [.abs (Aa x.2)] w'') ?_ (fun e w'' ⟨x,γ1,h1,h2,h3⟩=>⟨x,γ1,h1,h2,h3⟩)
    show Calls _ _ #[.pointer (some ⟨nmB γ' 0,0,none⟩)] w' _
    rw[hg]
    exact this
   rintro⟨out,Hs⟩ ⟨q3,q4⟩
   dsimp only at q3 q4
   simp (maxSteps:=10^6) only[push_cast,↓reduceIte,Nat.reduceEqDiff,Nat.reduceLT,Nat.reduceAdd]
   refine⟨(r1,out,Hs),⟨rfl,q3,hlv,okM fun f hf=>List.mem_append_left _ hf,q4⟩,A9 [0,1,2,3,4,5] ?_⟩
   simp (maxSteps:=10^6) only[hr1,vg,va,↓Ag,↓Az,↓List.forall_mem_cons,↓Ad,↓Af,↓Ax,Au,push_cast,↓reduceIte,reduceCtorEq,Nat.reduceEqDiff,Nat.reduceLT,Nat.reduceAdd]
   rfl
  ·have hne:¬m.pl=r.place∨¬m.ot∈r.above.l:=.inr h2
   rw[if_pos (show (m.pl≠r.place∨m.ot∉r.above.l) from hne)] at e0
   rw[e0]
   simp (maxSteps:=10^6) only[ev,h2,push_cast,↓reduceIte,Nat.reduceEqDiff,Nat.reduceLT,Nat.reduceAdd]
   refine⟨(r,⟨none,0,[]⟩,[]),⟨rfl,rfl,hlv,by rw[List.append_nil];exact ok,Ey _⟩,A9 [0,1,2,3,4,5] ?_⟩
   simp (maxSteps:=10^6) only[SlV.val,↓Ag,↓Az,↓List.forall_mem_cons,↓Ad,↓Af,↓Ax,Au,push_cast,↓reduceIte,reduceCtorEq,Nat.reduceEqDiff,Nat.reduceLT,Nat.reduceAdd]
 ·rw[if_pos (show (m.pl≠r.place∨m.ot∉r.above.l) from .inl h1)] at e0
  rw[e0]
  simp (maxSteps:=10^6) only[gm,f1,gl,ev,h1,undef,push_cast,↓reduceIte,reduceCtorEq,Nat.reduceEqDiff,Nat.reduceLT,Nat.reduceAdd]
  refine⟨(r,⟨none,0,[]⟩,[]),⟨rfl,rfl,hlv,by rw[List.append_nil];exact ok,Ey _⟩,A9 [0,1,2,3,4,5] ?_⟩
  simp (maxSteps:=10^6) only[SlV.val,↓Ag,↓Az,↓List.forall_mem_cons,↓Ad,↓Af,↓Ax,Au,push_cast,↓reduceIte,reduceCtorEq,Nat.reduceEqDiff,Nat.reduceLT,Nat.reduceAdd]
end
end Go.Proofs.YtedaafmfjhjfmaaGreatDoor
