import Derived.Test.YtedaafmfjhjfmaaGreatDoorLwH
import Derived.Test.YtedaafmfjhjfmaaGreatDoorLwF
/- Layer 28 walked: Hear. -/
namespace Go.Proofs.YtedaafmfjhjfmaaGreatDoor
open Go.RowKit
set_option linter.unusedSimpArgs false
set_option linter.unusedVariables false
def K6 (m:MgR):List Fct:=[⟨m.ids.val,m.ids.l.length,m.ids.l.map (Value.int .i64)⟩,⟨m.ns.val,m.ns.l.length,m.ns.l.map vU64⟩,⟨m.ps.val,m.ps.l.length,pvs m.ps.l⟩,⟨m.xs.val,m.xs.l.length,m.xs.l.map Ak⟩]
theorem MgF.known {m:MgR} {w:World} {B:Nat→Prop} (h:MgF m w B):Known w B (K6 m):=fun f hf=>by
 simp only[K6,List.mem_cons,List.not_mem_nil,or_false] at hf
 rcases hf with rfl|rfl|rfl|rfl
 ·exact⟨_,_,rfl,h.ids.1,h.ids.2⟩
 ·exact⟨_,_,rfl,h.ns.1,h.ns.2⟩
 ·exact⟨_,_,rfl,h.ps.1,h.ps.2⟩
 ·exact⟨_,_,rfl,h.xs.1,h.xs.2⟩
theorem Su {α:Type} {w:World} {B:Nat→Prop} {Fs:List Fct} {s:SlV α} {vs:List Value} (hk:Known w B Fs) (h:(⟨s.val,s.l.length,vs⟩:Fct)∈Fs):s.l.length≤s.c∧FW w B s.A vs:=by
 obtain⟨A,c,h1,h2,h3⟩:=hk _ h
 have h1:Value.slice s.A s.l.length s.c=.slice A s.l.length c:=h1
 injection h1 with e1 _ e3
 subst e1 e3
 exact⟨h2,h3⟩
theorem MgF.of {m:MgR} {w:World} {B:Nat→Prop} (h:Known w B (K6 m)) (hf:m.mg.Few):MgF m w B:=
 ⟨hf,Su h (by simp [K6]),Su h (by simp [K6]),Su h (by simp [K6]),Su h (by simp [K6])⟩
attribute [local irreducible] Ah Ai Am Bc A7 Ay Ap A6
attribute [local irreducible] A8 okV Bj erV Tal.can Tal.st Bz Cd
section
variable {r:LfR} {m:MgR} {g:Nat} {w:World} {B:Nat→Prop} {γ:List Nm} {Fs:List Fct}
set_option maxRecDepth 100000 in
theorem A7e (hS:Sat w B γ (lfB g r) w) (hw:Known w B Fs) (ok:LfOk Fs r) (hm:MgF m w B) (hlv:r.phase < 2→r.live=true) {R:List (Int×List UInt32)} {told:Option MgS} (hI:LfInv r.s R told) (hB:LfBx r.s) (h3:1≤r.term∧r.term≤1000) (hc:Cd m.mg=true) (hk:m.k=1):
  Calls Tryz.prog 14 (List.map (Sv.val (γ++[.m (.bool true) (fun _=>False)])) [.x (.a (.p 0 0)),.x (.g (mgA m))]).toArray w fun e w'=>∃(x:LfR×SlV SnR×List Fct) (γ1:List Nm),Bi Fs (r.s.hear m.mg).1 (r.s.hear m.mg).2.1 x∧e=.returned ((Sv.t [.a (.v x.2.1.val),.a (.v (erV (r.s.hear m.mg).2.2))]).val γ1)∧Sat w B γ1 (lfB g x.1++[.abs (Aa x.2.2)]) w':=by
 have gl:=Aw ok.sum.s
 have gm:=Aw hm.few.sm
 obtain⟨f0,f1,f2,f3,f4,f5,f38,f39,f40,f41,f42⟩:=mgA_get hm.few.sm
 have vi:m.ids.val=.slice m.ids.A m.ids.l.length m.ids.c:=rfl
 have vn:m.ns.val=.slice m.ns.A m.ns.l.length m.ns.c:=rfl
 have vg:r.group.val=.slice r.group.A r.group.l.length r.group.c:=rfl
 have va:r.above.val=.slice r.above.A r.above.l.length r.above.c:=rfl
 have hkk:m.k=1∨m.k=3∨m.k=5:=by rw[hk];decide
 have e0:r.s.hear m.mg=if r.s.cameE m.mg≠0 then (r.s,[],r.s.cameE m.mg) else ((r.s.cameS m.mg).on.1,(r.s.cameS m.mg).on.2,0):=by
  unfold LfS.hear
  rw[if_neg (by rw[hc];decide),if_pos (show m.mg.k=1∨m.mg.k=3∨m.mg.k=5 from hkk)]
 refine Ci (n:=122) (ι:=LfR×SlV SnR×List Fct) (Bi Fs (r.s.hear m.mg).1 (r.s.hear m.mg).2.1) (fun x=>.t [.a (.v x.2.1.val),.a (.v (erV (r.s.hear m.mg).2.2))]) (fun x=>lfB g x.1++[.abs (Aa x.2.2)]) Tryz.func14 rfl Tryz.ntmps14 [.x (.a (.p 0 0)),.x (.g (mgA m))] (hS.fct0 (Ar g r)) (by show 2≤122;omega) ?_
 obtain⟨X,hX⟩:∃X,r.s.hear m.mg=X:=⟨_,rfl⟩
 rw[hX]
 rw[hX] at e0
 unfold lfB lfA
 simp (maxSteps:=10^6) only[gm,↓Ag,↓List.forall_mem_cons,↓Ad,↓Af,↓Bg,↓Bf,push_cast,↓reduceIte,reduceCtorEq,Nat.reduceEqDiff,Nat.reduceLT,Nat.reduceAdd]
 (repeat (refine And.intro (by first|omega|decide) ?_))
 refine Al rfl Gw rfl (Hd hm) (Ae rfl) ?_
 rw[hc,Do]
 simp (maxSteps:=10^6) only[gm,f0,vg,va,hk,undef,push_cast,↓reduceIte,reduceCtorEq,Nat.reduceEqDiff,Nat.reduceLT,Nat.reduceAdd]
 (repeat (refine And.intro (by first|omega|decide) ?_))
 refine Dq (ι:=LfR×List Fct) (A:=lfB g r) (M:=[.abs (Aa []),.blk 48 (.c (mgA m))]) (g:=g) (t:=104) (c:=.c (lfA r)) (l:=[]) 0 (K2 r m Fs) (fun _=>.x (.a (.v (erV (r.s.cameE m.mg))))) (fun x=>lfB g x.1) (fun x=>x.2) rfl rfl rfl (fun x _=>⟨_,rfl⟩) (fun x _=>rfl) rfl Ux rfl (fun γ' w' hS' hg=>?_) (fun _ _=>rfl) (Ae rfl) (Ar g r) (fun x _=>Ar g x.1) (by simp (maxSteps:=10^6) only[↓Ag,↓List.forall_mem_cons,↓Ad,↓Af,↓A5,↓Bg,push_cast,Nat.reduceLT,Nat.reduceAdd]) (by
  show ∀x∈_,Sv.av 5 _
  simp (maxSteps:=10^6) only[↓List.forall_mem_cons,↓Dg,push_cast,reduceCtorEq,Nat.reduceLeDiff]) (by
  show ∀x∈_,Res.av 5 _
  simp (maxSteps:=10^6) only[↓List.forall_mem_cons,↓Dg,push_cast]) ?_
 ·have:=Wf r m (hS'.frontA (Ar g r)) (Dr (A:=lfB g r) hS' hw) ok (MgF.of (Dr (A:=lfB g r) hS' hm.known) hm.few) hkk hlv
  show Calls _ _ #[.pointer (some ⟨nmB γ' 0,0,none⟩),(Sv.x (.g (mgA m))).val γ'] w' _
  rw[hg,C4]
  exact this
 rintro⟨r1,G⟩ ⟨q1,q2,q3⟩
 dsimp only at q1 q2 q3
 have gl1:=Aw q3.sum.s
 by_cases hE:r.s.cameE m.mg=0
 ·rw[if_neg (fun h=>h hE)] at e0
  subst e0
  rw[if_pos hE] at q1
  rw[hE,En]
  obtain⟨c1,c2,c3,c4,c5⟩:=Np hI (m:=m.mg) hkk hE
  have hB1:=Sb hI hB (m:=m.mg) hkk hE
  rw[←q1] at c3 c5 hB1 ⊢
  have ep:r1.phase=r.phase:=c3
  have et:r1.term=r.term:=by
   have h:r1.s.term=(r.s.cameS m.mg).term:=by rw[q1]
   refine Eq.trans (show r1.term=r1.s.term from rfl) (h.trans ?_)
   unfold LfS.cameS
   repeat' split
   all_goals rfl
  unfold lfB lfA
  simp (maxSteps:=10^6) only[push_cast,↓reduceIte,reduceCtorEq,Nat.reduceLT,Nat.reduceAdd]
  (repeat (refine And.intro (by first|omega|decide) ?_))
  refine Dq (ι:=LfR×SlV SnR×List Fct) (A:=lfB g r1) (M:=[.abs (Aa G),.blk 48 (.c (mgA m))]) (g:=g) (t:=104) (c:=.c (lfA r1)) (l:=G) 0 (Bi (Fs++G) r1.s.on.1 r1.s.on.2) (fun x=>.x (.a (.v x.2.1.val))) (fun x=>lfB g x.1) (fun x=>x.2.2) rfl rfl rfl (fun x _=>⟨_,rfl⟩) (fun x _=>rfl) rfl Qq rfl (fun γ' w' hS' hg=>?_) (fun _ _=>rfl) (Ae rfl) (Ar g r1) (fun x _=>Ar g x.1) (by simp (maxSteps:=10^6) only[↓Ag,↓List.forall_mem_cons,↓Ad,↓Af,↓A5,↓Bg,push_cast,Nat.reduceLT,Nat.reduceAdd]) (by
   show ∀x∈_,Sv.av 5 _
   simp (maxSteps:=10^6) only[↓List.forall_mem_cons,↓Dg,push_cast,reduceCtorEq,Nat.reduceLeDiff]) (by
   show ∀x∈_,Res.av 5 _
   simp (maxSteps:=10^6) only[↓List.forall_mem_cons,↓Dg,push_cast]) ?_
  ·have k1:=Nr (Dr (A:=lfB g r1) hS' hw) (D1 (A:=lfB g r1) hS' (k:=0) rfl)
   have:=Sf (hS'.frontA (Ar g r1)) k1 q3 (R:=_) c5 hB1 (by rw[q2,ep];exact hlv) (by rw[et];exact h3) (by rw[ep];exact c1)
   show Calls _ _ #[.pointer (some ⟨nmB γ' 0,0,none⟩)] w' _
   rw[hg]
   exact this
  rintro⟨r2,out,G2⟩ ⟨t1,t2,t3,t4,t5⟩
  dsimp only at t1 t2 t3 t4 t5
  unfold lfB lfA
  simp (maxSteps:=10^6) only[push_cast,↓reduceIte,Nat.reduceEqDiff,Nat.reduceLT,Nat.reduceAdd]
  refine⟨(r2,out,G++G2),⟨t1,t2,t3,by rw[←List.append_assoc];exact t4,t5.more fun f hf=>List.mem_append_right _ hf⟩,A9 [0,1,2,3,4,5] ?_⟩
  simp (maxSteps:=10^6) only[↓Ag,↓Az,↓List.forall_mem_cons,↓Ad,↓Af,↓Ax,Au,push_cast,↓reduceIte,reduceCtorEq,Nat.reduceEqDiff,Nat.reduceLT,Nat.reduceAdd]
 ·rw[if_pos hE] at e0
  subst e0
  rw[if_neg hE] at q1
  rw[B5 hE]
  unfold lfB lfA
  simp (maxSteps:=10^6) only[push_cast,↓reduceIte,Nat.reduceEqDiff,Nat.reduceLT,Nat.reduceAdd]
  refine⟨(r1,⟨none,0,[]⟩,G),⟨q1,rfl,?_,q3,?_⟩,A9 [0,1,2,3,4,5] ?_⟩
  ·have ep:r1.phase=r.phase:=congrArg LfS.phase q1
   rw[q2,ep]
   exact hlv
  ·exact (Ey []).more fun f hf=>by cases hf
  ·simp (maxSteps:=10^6) only[SlV.val,↓Ag,↓Az,↓List.forall_mem_cons,↓Ad,↓Af,↓Ax,Au,push_cast,↓reduceIte,reduceCtorEq,Nat.reduceEqDiff,Nat.reduceLT,Nat.reduceAdd]
set_option maxRecDepth 100000 in
theorem A7f (hS:Sat w B γ (lfB g r) w) (hw:Known w B Fs) (ok:LfOk Fs r) (hm:MgF m w B) (hlv:r.phase < 2→r.live=true) {R:List (Int×List UInt32)} {told:Option MgS} (hI:LfInv r.s R told) (hB:LfBx r.s) (h3:1≤r.term∧r.term≤1000) (hc:Cd m.mg=true) (hk:m.k=3):
  Calls Tryz.prog 14 (List.map (Sv.val (γ++[.m (.bool true) (fun _=>False)])) [.x (.a (.p 0 0)),.x (.g (mgA m))]).toArray w fun e w'=>∃(x:LfR×SlV SnR×List Fct) (γ1:List Nm),Bi Fs (r.s.hear m.mg).1 (r.s.hear m.mg).2.1 x∧e=.returned ((Sv.t [.a (.v x.2.1.val),.a (.v (erV (r.s.hear m.mg).2.2))]).val γ1)∧Sat w B γ1 (lfB g x.1++[.abs (Aa x.2.2)]) w':=by
 have gl:=Aw ok.sum.s
 have gm:=Aw hm.few.sm
 obtain⟨f0,f1,f2,f3,f4,f5,f38,f39,f40,f41,f42⟩:=mgA_get hm.few.sm
 have vi:m.ids.val=.slice m.ids.A m.ids.l.length m.ids.c:=rfl
 have vn:m.ns.val=.slice m.ns.A m.ns.l.length m.ns.c:=rfl
 have vg:r.group.val=.slice r.group.A r.group.l.length r.group.c:=rfl
 have va:r.above.val=.slice r.above.A r.above.l.length r.above.c:=rfl
 have hkk:m.k=1∨m.k=3∨m.k=5:=by rw[hk];decide
 have e0:r.s.hear m.mg=if r.s.cameE m.mg≠0 then (r.s,[],r.s.cameE m.mg) else ((r.s.cameS m.mg).on.1,(r.s.cameS m.mg).on.2,0):=by
  unfold LfS.hear
  rw[if_neg (by rw[hc];decide),if_pos (show m.mg.k=1∨m.mg.k=3∨m.mg.k=5 from hkk)]
 refine Ci (n:=122) (ι:=LfR×SlV SnR×List Fct) (Bi Fs (r.s.hear m.mg).1 (r.s.hear m.mg).2.1) (fun x=>.t [.a (.v x.2.1.val),.a (.v (erV (r.s.hear m.mg).2.2))]) (fun x=>lfB g x.1++[.abs (Aa x.2.2)]) Tryz.func14 rfl Tryz.ntmps14 [.x (.a (.p 0 0)),.x (.g (mgA m))] (hS.fct0 (Ar g r)) (by show 2≤122;omega) ?_
 obtain⟨X,hX⟩:∃X,r.s.hear m.mg=X:=⟨_,rfl⟩
 rw[hX]
 rw[hX] at e0
 unfold lfB lfA
 simp (maxSteps:=10^6) only[gm,↓Ag,↓List.forall_mem_cons,↓Ad,↓Af,↓Bg,↓Bf,push_cast,↓reduceIte,reduceCtorEq,Nat.reduceEqDiff,Nat.reduceLT,Nat.reduceAdd]
 (repeat (refine And.intro (by first|omega|decide) ?_))
 refine Al rfl Gw rfl (Hd hm) (Ae rfl) ?_
 rw[hc,Do]
 simp (maxSteps:=10^6) only[gm,f0,vg,va,hk,A6f,undef,push_cast,↓reduceIte,reduceCtorEq,Nat.reduceEqDiff,Nat.reduceLT,Nat.reduceAdd]
 (repeat (refine And.intro (by first|omega|decide) ?_))
 refine Dq (ι:=LfR×List Fct) (A:=lfB g r) (M:=[.abs (Aa []),.blk 48 (.c (mgA m))]) (g:=g) (t:=104) (c:=.c (lfA r)) (l:=[]) 0 (K2 r m Fs) (fun _=>.x (.a (.v (erV (r.s.cameE m.mg))))) (fun x=>lfB g x.1) (fun x=>x.2) rfl rfl rfl (fun x _=>⟨_,rfl⟩) (fun x _=>rfl) rfl Ux rfl (fun γ' w' hS' hg=>?_) (fun _ _=>rfl) (Ae rfl) (Ar g r) (fun x _=>Ar g x.1) (by simp (maxSteps:=10^6) only[↓Ag,↓List.forall_mem_cons,↓Ad,↓Af,↓A5,↓Bg,push_cast,Nat.reduceLT,Nat.reduceAdd]) (by
  show ∀x∈_,Sv.av 5 _
  simp (maxSteps:=10^6) only[↓List.forall_mem_cons,↓Dg,push_cast,reduceCtorEq,Nat.reduceLeDiff]) (by
  show ∀x∈_,Res.av 5 _
  simp (maxSteps:=10^6) only[↓List.forall_mem_cons,↓Dg,push_cast]) ?_
 ·have:=Wf r m (hS'.frontA (Ar g r)) (Dr (A:=lfB g r) hS' hw) ok (MgF.of (Dr (A:=lfB g r) hS' hm.known) hm.few) hkk hlv
  show Calls _ _ #[.pointer (some ⟨nmB γ' 0,0,none⟩),(Sv.x (.g (mgA m))).val γ'] w' _
  rw[hg,C4]
  exact this
 rintro⟨r1,G⟩ ⟨q1,q2,q3⟩
 dsimp only at q1 q2 q3
 have gl1:=Aw q3.sum.s
 by_cases hE:r.s.cameE m.mg=0
 ·rw[if_neg (fun h=>h hE)] at e0
  subst e0
  rw[if_pos hE] at q1
  rw[hE,En]
  obtain⟨c1,c2,c3,c4,c5⟩:=Np hI (m:=m.mg) hkk hE
  have hB1:=Sb hI hB (m:=m.mg) hkk hE
  rw[←q1] at c3 c5 hB1 ⊢
  have ep:r1.phase=r.phase:=c3
  have et:r1.term=r.term:=by
   have h:r1.s.term=(r.s.cameS m.mg).term:=by rw[q1]
   refine Eq.trans (show r1.term=r1.s.term from rfl) (h.trans ?_)
   unfold LfS.cameS
   repeat' split
   all_goals rfl
  unfold lfB lfA
  simp (maxSteps:=10^6) only[push_cast,↓reduceIte,reduceCtorEq,Nat.reduceLT,Nat.reduceAdd]
  (repeat (refine And.intro (by first|omega|decide) ?_))
  refine Dq (ι:=LfR×SlV SnR×List Fct) (A:=lfB g r1) (M:=[.abs (Aa G),.blk 48 (.c (mgA m))]) (g:=g) (t:=104) (c:=.c (lfA r1)) (l:=G) 0 (Bi (Fs++G) r1.s.on.1 r1.s.on.2) (fun x=>.x (.a (.v x.2.1.val))) (fun x=>lfB g x.1) (fun x=>x.2.2) rfl rfl rfl (fun x _=>⟨_,rfl⟩) (fun x _=>rfl) rfl Qq rfl (fun γ' w' hS' hg=>?_) (fun _ _=>rfl) (Ae rfl) (Ar g r1) (fun x _=>Ar g x.1) (by simp (maxSteps:=10^6) only[↓Ag,↓List.forall_mem_cons,↓Ad,↓Af,↓A5,↓Bg,push_cast,Nat.reduceLT,Nat.reduceAdd]) (by
   show ∀x∈_,Sv.av 5 _
   simp (maxSteps:=10^6) only[↓List.forall_mem_cons,↓Dg,push_cast,reduceCtorEq,Nat.reduceLeDiff]) (by
   show ∀x∈_,Res.av 5 _
   simp (maxSteps:=10^6) only[↓List.forall_mem_cons,↓Dg,push_cast]) ?_
  ·have k1:=Nr (Dr (A:=lfB g r1) hS' hw) (D1 (A:=lfB g r1) hS' (k:=0) rfl)
   have:=Sf (hS'.frontA (Ar g r1)) k1 q3 (R:=_) c5 hB1 (by rw[q2,ep];exact hlv) (by rw[et];exact h3) (by rw[ep];exact c1)
   show Calls _ _ #[.pointer (some ⟨nmB γ' 0,0,none⟩)] w' _
   rw[hg]
   exact this
  rintro⟨r2,out,G2⟩ ⟨t1,t2,t3,t4,t5⟩
  dsimp only at t1 t2 t3 t4 t5
  unfold lfB lfA
  simp (maxSteps:=10^6) only[push_cast,↓reduceIte,Nat.reduceEqDiff,Nat.reduceLT,Nat.reduceAdd]
  refine⟨(r2,out,G++G2),⟨t1,t2,t3,by rw[←List.append_assoc];exact t4,t5.more fun f hf=>List.mem_append_right _ hf⟩,A9 [0,1,2,3,4,5] ?_⟩
  simp (maxSteps:=10^6) only[↓Ag,↓Az,↓List.forall_mem_cons,↓Ad,↓Af,↓Ax,Au,push_cast,↓reduceIte,reduceCtorEq,Nat.reduceEqDiff,Nat.reduceLT,Nat.reduceAdd]
 ·rw[if_pos hE] at e0
  subst e0
  rw[if_neg hE] at q1
  rw[B5 hE]
  unfold lfB lfA
  simp (maxSteps:=10^6) only[push_cast,↓reduceIte,Nat.reduceEqDiff,Nat.reduceLT,Nat.reduceAdd]
  refine⟨(r1,⟨none,0,[]⟩,G),⟨q1,rfl,?_,q3,?_⟩,A9 [0,1,2,3,4,5] ?_⟩
  ·have ep:r1.phase=r.phase:=congrArg LfS.phase q1
   rw[q2,ep]
   exact hlv
  ·exact (Ey []).more fun f hf=>by cases hf
  ·simp (maxSteps:=10^6) only[SlV.val,↓Ag,↓Az,↓List.forall_mem_cons,↓Ad,↓Af,↓Ax,Au,push_cast,↓reduceIte,reduceCtorEq,Nat.reduceEqDiff,Nat.reduceLT,Nat.reduceAdd]
set_option maxRecDepth 100000 in
theorem A7g (hS:Sat w B γ (lfB g r) w) (hw:Known w B Fs) (ok:LfOk Fs r) (hm:MgF m w B) (hlv:r.phase < 2→r.live=true) {R:List (Int×List UInt32)} {told:Option MgS} (hI:LfInv r.s R told) (hB:LfBx r.s) (h3:1≤r.term∧r.term≤1000) (hc:Cd m.mg=true) (hk:m.k=5):
  Calls Tryz.prog 14 (List.map (Sv.val (γ++[.m (.bool true) (fun _=>False)])) [.x (.a (.p 0 0)),.x (.g (mgA m))]).toArray w fun e w'=>∃(x:LfR×SlV SnR×List Fct) (γ1:List Nm),Bi Fs (r.s.hear m.mg).1 (r.s.hear m.mg).2.1 x∧e=.returned ((Sv.t [.a (.v x.2.1.val),.a (.v (erV (r.s.hear m.mg).2.2))]).val γ1)∧Sat w B γ1 (lfB g x.1++[.abs (Aa x.2.2)]) w':=by
 have gl:=Aw ok.sum.s
 have gm:=Aw hm.few.sm
 obtain⟨f0,f1,f2,f3,f4,f5,f38,f39,f40,f41,f42⟩:=mgA_get hm.few.sm
 have vi:m.ids.val=.slice m.ids.A m.ids.l.length m.ids.c:=rfl
 have vn:m.ns.val=.slice m.ns.A m.ns.l.length m.ns.c:=rfl
 have vg:r.group.val=.slice r.group.A r.group.l.length r.group.c:=rfl
 have va:r.above.val=.slice r.above.A r.above.l.length r.above.c:=rfl
 have hkk:m.k=1∨m.k=3∨m.k=5:=by rw[hk];decide
 have e0:r.s.hear m.mg=if r.s.cameE m.mg≠0 then (r.s,[],r.s.cameE m.mg) else ((r.s.cameS m.mg).on.1,(r.s.cameS m.mg).on.2,0):=by
  unfold LfS.hear
  rw[if_neg (by rw[hc];decide),if_pos (show m.mg.k=1∨m.mg.k=3∨m.mg.k=5 from hkk)]
 refine Ci (n:=122) (ι:=LfR×SlV SnR×List Fct) (Bi Fs (r.s.hear m.mg).1 (r.s.hear m.mg).2.1) (fun x=>.t [.a (.v x.2.1.val),.a (.v (erV (r.s.hear m.mg).2.2))]) (fun x=>lfB g x.1++[.abs (Aa x.2.2)]) Tryz.func14 rfl Tryz.ntmps14 [.x (.a (.p 0 0)),.x (.g (mgA m))] (hS.fct0 (Ar g r)) (by show 2≤122;omega) ?_
 obtain⟨X,hX⟩:∃X,r.s.hear m.mg=X:=⟨_,rfl⟩
 rw[hX]
 rw[hX] at e0
 unfold lfB lfA
 simp (maxSteps:=10^6) only[gm,↓Ag,↓List.forall_mem_cons,↓Ad,↓Af,↓Bg,↓Bf,push_cast,↓reduceIte,reduceCtorEq,Nat.reduceEqDiff,Nat.reduceLT,Nat.reduceAdd]
 (repeat (refine And.intro (by first|omega|decide) ?_))
 refine Al rfl Gw rfl (Hd hm) (Ae rfl) ?_
 rw[hc,Do]
 simp (maxSteps:=10^6) only[gm,f0,vg,va,hk,A6g,A6h,undef,push_cast,↓reduceIte,reduceCtorEq,Nat.reduceEqDiff,Nat.reduceLT,Nat.reduceAdd]
 (repeat (refine And.intro (by first|omega|decide) ?_))
 refine Dq (ι:=LfR×List Fct) (A:=lfB g r) (M:=[.abs (Aa []),.blk 48 (.c (mgA m))]) (g:=g) (t:=104) (c:=.c (lfA r)) (l:=[]) 0 (K2 r m Fs) (fun _=>.x (.a (.v (erV (r.s.cameE m.mg))))) (fun x=>lfB g x.1) (fun x=>x.2) rfl rfl rfl (fun x _=>⟨_,rfl⟩) (fun x _=>rfl) rfl Ux rfl (fun γ' w' hS' hg=>?_) (fun _ _=>rfl) (Ae rfl) (Ar g r) (fun x _=>Ar g x.1) (by simp (maxSteps:=10^6) only[↓Ag,↓List.forall_mem_cons,↓Ad,↓Af,↓A5,↓Bg,push_cast,Nat.reduceLT,Nat.reduceAdd]) (by
  show ∀x∈_,Sv.av 5 _
  simp (maxSteps:=10^6) only[↓List.forall_mem_cons,↓Dg,push_cast,reduceCtorEq,Nat.reduceLeDiff]) (by
  show ∀x∈_,Res.av 5 _
  simp (maxSteps:=10^6) only[↓List.forall_mem_cons,↓Dg,push_cast]) ?_
 ·have:=Wf r m (hS'.frontA (Ar g r)) (Dr (A:=lfB g r) hS' hw) ok (MgF.of (Dr (A:=lfB g r) hS' hm.known) hm.few) hkk hlv
  show Calls _ _ #[.pointer (some ⟨nmB γ' 0,0,none⟩),(Sv.x (.g (mgA m))).val γ'] w' _
  rw[hg,C4]
  exact this
 rintro⟨r1,G⟩ ⟨q1,q2,q3⟩
 dsimp only at q1 q2 q3
 have gl1:=Aw q3.sum.s
 by_cases hE:r.s.cameE m.mg=0
 ·rw[if_neg (fun h=>h hE)] at e0
  subst e0
  rw[if_pos hE] at q1
  rw[hE,En]
  obtain⟨c1,c2,c3,c4,c5⟩:=Np hI (m:=m.mg) hkk hE
  have hB1:=Sb hI hB (m:=m.mg) hkk hE
  rw[←q1] at c3 c5 hB1 ⊢
  have ep:r1.phase=r.phase:=c3
  have et:r1.term=r.term:=by
   have h:r1.s.term=(r.s.cameS m.mg).term:=by rw[q1]
   refine Eq.trans (show r1.term=r1.s.term from rfl) (h.trans ?_)
   unfold LfS.cameS
   repeat' split
   all_goals rfl
  unfold lfB lfA
  simp (maxSteps:=10^6) only[push_cast,↓reduceIte,reduceCtorEq,Nat.reduceLT,Nat.reduceAdd]
  (repeat (refine And.intro (by first|omega|decide) ?_))
  refine Dq (ι:=LfR×SlV SnR×List Fct) (A:=lfB g r1) (M:=[.abs (Aa G),.blk 48 (.c (mgA m))]) (g:=g) (t:=104) (c:=.c (lfA r1)) (l:=G) 0 (Bi (Fs++G) r1.s.on.1 r1.s.on.2) (fun x=>.x (.a (.v x.2.1.val))) (fun x=>lfB g x.1) (fun x=>x.2.2) rfl rfl rfl (fun x _=>⟨_,rfl⟩) (fun x _=>rfl) rfl Qq rfl (fun γ' w' hS' hg=>?_) (fun _ _=>rfl) (Ae rfl) (Ar g r1) (fun x _=>Ar g x.1) (by simp (maxSteps:=10^6) only[↓Ag,↓List.forall_mem_cons,↓Ad,↓Af,↓A5,↓Bg,push_cast,Nat.reduceLT,Nat.reduceAdd]) (by
   show ∀x∈_,Sv.av 5 _
   simp (maxSteps:=10^6) only[↓List.forall_mem_cons,↓Dg,push_cast,reduceCtorEq,Nat.reduceLeDiff]) (by
   show ∀x∈_,Res.av 5 _
   simp (maxSteps:=10^6) only[↓List.forall_mem_cons,↓Dg,push_cast]) ?_
  ·have k1:=Nr (Dr (A:=lfB g r1) hS' hw) (D1 (A:=lfB g r1) hS' (k:=0) rfl)
   have:=Sf (hS'.frontA (Ar g r1)) k1 q3 (R:=_) c5 hB1 (by rw[q2,ep];exact hlv) (by rw[et];exact h3) (by rw[ep];exact c1)
   show Calls _ _ #[.pointer (some ⟨nmB γ' 0,0,none⟩)] w' _
   rw[hg]
   exact this
  rintro⟨r2,out,G2⟩ ⟨t1,t2,t3,t4,t5⟩
  dsimp only at t1 t2 t3 t4 t5
  unfold lfB lfA
  simp (maxSteps:=10^6) only[push_cast,↓reduceIte,Nat.reduceEqDiff,Nat.reduceLT,Nat.reduceAdd]
  refine⟨(r2,out,G++G2),⟨t1,t2,t3,by rw[←List.append_assoc];exact t4,t5.more fun f hf=>List.mem_append_right _ hf⟩,A9 [0,1,2,3,4,5] ?_⟩
  simp (maxSteps:=10^6) only[↓Ag,↓Az,↓List.forall_mem_cons,↓Ad,↓Af,↓Ax,Au,push_cast,↓reduceIte,reduceCtorEq,Nat.reduceEqDiff,Nat.reduceLT,Nat.reduceAdd]
 ·rw[if_pos hE] at e0
  subst e0
  rw[if_neg hE] at q1
  rw[B5 hE]
  unfold lfB lfA
  simp (maxSteps:=10^6) only[push_cast,↓reduceIte,Nat.reduceEqDiff,Nat.reduceLT,Nat.reduceAdd]
  refine⟨(r1,⟨none,0,[]⟩,G),⟨q1,rfl,?_,q3,?_⟩,A9 [0,1,2,3,4,5] ?_⟩
  ·have ep:r1.phase=r.phase:=congrArg LfS.phase q1
   rw[q2,ep]
   exact hlv
  ·exact (Ey []).more fun f hf=>by cases hf
  ·simp (maxSteps:=10^6) only[SlV.val,↓Ag,↓Az,↓List.forall_mem_cons,↓Ad,↓Af,↓Ax,Au,push_cast,↓reduceIte,reduceCtorEq,Nat.reduceEqDiff,Nat.reduceLT,Nat.reduceAdd]
theorem N4 (hS:Sat w B γ (lfB g r) w) (hw:Known w B Fs) (ok:LfOk Fs r) (hm:MgF m w B) (hlv:r.phase < 2→r.live=true) {R:List (Int×List UInt32)} {told:Option MgS} (hI:LfInv r.s R told) (hB:LfBx r.s) (h3:1≤r.term∧r.term≤1000):
  Calls Tryz.prog 14 #[.pointer (some ⟨g,0,none⟩),.agg (mgV m).toArray] w fun e w'=>∃(x:LfR×SlV SnR×List Fct) (γ1:List Nm),Bi Fs (r.s.hear m.mg).1 (r.s.hear m.mg).2.1 x∧e=.returned (.tuple #[x.2.1.val,erV (r.s.hear m.mg).2.2])∧Sat w B γ1 (lfB g x.1++[.abs (Aa x.2.2)]) w':=by
 rw[←R7 hS m]
 refine Calls.mono (R:=fun e w'=>∃(x:LfR×SlV SnR×List Fct) (γ1:List Nm),Bi Fs (r.s.hear m.mg).1 (r.s.hear m.mg).2.1 x∧e=.returned ((Sv.t [.a (.v x.2.1.val),.a (.v (erV (r.s.hear m.mg).2.2))]).val γ1)∧Sat w B γ1 (lfB g x.1++[.abs (Aa x.2.2)]) w') ?_ (fun e w' ⟨x,γ1,h1,h2,h3⟩=>⟨x,γ1,h1,h2,h3⟩)
 by_cases hc:Cd m.mg=true
 ·by_cases k1:m.k=1
  ·exact A7e hS hw ok hm hlv hI hB h3 hc k1
  by_cases k3:m.k=3
  ·exact A7f hS hw ok hm hlv hI hB h3 hc k3
  by_cases k5:m.k=5
  ·exact A7g hS hw ok hm hlv hI hB h3 hc k5
  by_cases k7:m.k=7
  ·exact A66 hS hw ok hm hlv hc k7
  by_cases k8:m.k=8
  ·exact A7a hS hw ok hm hlv hc k8
  by_cases k9:m.k=9
  ·by_cases hh:A8 r.group.l m.cl=true
   ·exact A7d hS hw ok hm hlv hc k9 hh
   ·exact A7b hS hw ok hm hlv hc k9 (by simpa using hh)
  by_cases k15:m.k=15
  ·exact A67 hS hw ok hm hlv hc k15
  by_cases k16:m.k=16
  ·exact A68 hS hw ok hm hlv hc k16
  exact A65 hS hw ok hm hlv hc k1 k3 k5 k7 k8 k9 k15 k16
 ·exact A64 hS hw ok hm hlv (by simpa using hc)
end
end Go.Proofs.YtedaafmfjhjfmaaGreatDoor
