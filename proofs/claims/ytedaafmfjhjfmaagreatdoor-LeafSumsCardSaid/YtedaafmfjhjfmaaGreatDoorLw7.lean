import Derived.Test.YtedaafmfjhjfmaaGreatDoorLw6
/- Layer 28 walked: came (a leaf that is handed over, and turned). -/
namespace Go.Proofs.YtedaafmfjhjfmaaGreatDoor
open Go.RowKit
set_option linter.unusedSimpArgs false
set_option linter.unusedVariables false
structure MgF (m:MgR) (w:World) (B:Nat→Prop):Prop where
 few:m.mg.Few
 ids:m.ids.l.length≤m.ids.c∧FW w B m.ids.A (m.ids.l.map (Value.int .i64))
 ns:m.ns.l.length≤m.ns.c∧FW w B m.ns.A (m.ns.l.map vU64)
 ps:m.ps.l.length≤m.ps.c∧FW w B m.ps.A (pvs m.ps.l)
 xs:m.xs.l.length≤m.xs.c∧FW w B m.xs.A (m.xs.l.map Ak)
attribute [local irreducible] Ah Ai Am Bc A7 Ay Ap A6
attribute [local irreducible] A8 okV Bj erV Tal.can Tal.st
theorem Ab7 (r:TalR) (n:Nat):(∀x∈tlA r,x.bnd n)=True:=eq_true (by unfold tlA;simp only[push_cast])
theorem Ag (r:TalR) (n:Nat):Cont.bnd n (.c (tlA r))=True:=Ab7 r n
theorem Az (r:TalR) (ρ:List Nat):Cont.ren ρ (.c (tlA r))=.c (tlA r):=rfl
theorem A30 (r:TalR) (a:Nat):Cont.av a (.c (tlA r))=True:=eq_true (by unfold tlA Cont.av;simp only[push_cast])
theorem Wa {w0 w:World} {ow:Nat→Prop} {γ:List Nm} {hp:List Res} (hS:Sat w0 ow γ hp w) {k:Nat} {r:TalR} {Fs:List Fct} (hk:Cf hp[k]?=some (170,.c (tlA r))) (hw:Known w0 ow Fs) (ok:TalOk Fs r) (id:Int) {γ0:List Nm} (h0:nmB γ0 0=nmB γ k) (hS0:Sat w (fun b=>b=nmB γ k) γ0 [.pin (nmB γ k) 170 (.c (tlA r))] w):
  Calls Tryz.prog 115 #[.pointer (some ⟨nmB γ k,0,none⟩),.int .i64 id] w fun e w'=>∃(x:TalR×List Fct) (γ1:List Nm),(x.1.t=(if r.t.can id=0 then r.t.came id else r.t)∧TalOk (Fs++x.2) x.1)∧e=.returned ((Sv.x (.a (.v (erV (r.t.can id))))).val [])∧Sat w (fun b=>b=nmB γ k) γ1 [.pin (nmB γ k) 170 (.c (tlA x.1)),.abs (Aa x.2)] w':=by
 have hw':Known w (fun b=>b=nmB γ k) Fs:=L8 hS hw fun b hb=>by
  obtain⟨_,_,r0,hr0,hh,_⟩:=hS.bv hk
  exact (hS.mine k r0 b hr0 (by rw[hh];show some _=some _;rw[hb])).1
 have:=A2s r id hS0 hw' ok
 have e0:(List.map (Sv.val (γ0++[Nm.m (.bool true) (fun _=>False)])) [Sv.x (.a (.p 0 0)),.x (.a (.v (.int .i64 id)))]).toArray=#[.pointer (some ⟨nmB γ k,0,none⟩),.int .i64 id]:=by
  show #[Value.pointer (some ⟨nmB _ 0,0,none⟩),_]=_
  rw[Dw (by rw[hS0.len];show 0 < 1;omega),h0]
  rfl
 rw[e0] at this
 exact this
theorem Wb (ρ:List Nat) (m:List (Int×Sc)) (i:Int) (x:Sc):Fc ρ (putI m i x)=putI (Fc ρ m) i (x.ren ρ):=by
 unfold Fc
 induction m with
 |nil=>rfl
 |cons q m ih=>
  simp only[putI,List.map_cons]
  split
  ·rfl
  ·rw[List.map_cons,ih]
theorem Ab8 (j:Nat) (v:Value) (m:List (Int×Sc)) (i:Int) (x:Sc):D5 j v (putI m i x)=putI (D5 j v m) i (x.sub j v):=by
 unfold D5
 induction m with
 |nil=>rfl
 |cons q m ih=>
  simp only[putI,List.map_cons]
  split
  ·rfl
  ·rw[List.map_cons,ih]
theorem Wc {n:Nat} {m:List (Int×Sc)} {i:Int} {x:Sc} (h:Hg n m) (hx:x.bnd n):Hg n (putI m i x):=by
 unfold Hg at h ⊢
 induction m with
 |nil=>intro p hp;simp only[putI,List.mem_singleton] at hp;subst hp;exact hx
 |cons q m ih=>
  intro p hp
  simp only[putI] at hp
  split at hp
  ·rcases List.mem_cons.1 hp with rfl|hp
   ·exact hx
   ·exact h p (List.mem_cons_of_mem _ hp)
  ·rcases List.mem_cons.1 hp with rfl|hp
   ·exact h _ (List.mem_cons_self ..)
   ·exact ih (fun p hp=>h p (List.mem_cons_of_mem _ hp)) p hp
theorem k31:((3:UInt8)=1)=False:=by decide
theorem k51:((5:UInt8)=1)=False:=by decide
theorem k53:((5:UInt8)=3)=False:=by decide
theorem k13:((1:UInt8)=3)=False:=by decide
theorem k15:((1:UInt8)=5)=False:=by decide
def Nw (g:Nat) (r:LfR) (m:MgR) (x:TalR×List Fct×Bool):List Res:=if x.2.2=true then [.pin g 104 (.c (lfA r)),.blk 170 (.c (tlA x.1)),.mp .i64 (putI (puE r.pub) m.cl (.a (.v (vU64 m.nu)))),bxR r,.mp .i64 (slE r.rows),.abs (Aa x.2.1)] else lfB g {r with ty:=x.1}++[.abs (Aa x.2.1)]
set_option maxRecDepth 100000 in
theorem A31 (r:LfR) (m:MgR) {g:Nat} {w:World} {B:Nat→Prop} {γ:List Nm} {Fs:List Fct} (hS:Sat w B γ (lfB g r) w) (hw:Known w B Fs) (ok:LfOk Fs r) (hm:MgF m w B) (hk:m.k=1) (hlv:r.phase < 2→r.live=true):
  Calls Tryz.prog 56 (List.map (Sv.val (γ++[.m (.bool true) (fun _=>False)])) [.x (.a (.p 0 0)),.x (.g (mgA m))]).toArray w fun e w'=>∃(x:TalR×List Fct×Bool) (γ1:List Nm),(x.1.t=(if r.s.cameE m.mg=0 then r.s.tally.came m.cl else r.s.tally)∧TalOk (Fs++x.2.1) x.1∧x.2.2=decide (r.s.cameE m.mg=0))∧e=.returned ((Sv.x (.a (.v (erV (r.s.cameE m.mg))))).val γ1)∧Sat w B γ1 (Nw g r m x) w':=by
 have gl:=Aw ok.sum.s
 have gm:=Aw hm.few.sm
 obtain⟨f0,f1,f2,f3,f4,f5,f38,f39,f40,f41,f42⟩:=mgA_get hm.few.sm
 have vn:m.ns.val=.slice m.ns.A m.ns.l.length m.ns.c:=rfl
 have vx:m.xs.val=.slice m.xs.A m.xs.l.length m.xs.c:=rfl
 have vw:r.waits.val=.slice r.waits.A r.waits.l.length r.waits.c:=rfl
 have vj:r.joined.val=.slice r.joined.A r.joined.l.length r.joined.c:=rfl
 have fw:=hw.fw ok.waits (fun e=>by rw[e];rfl)
 have e0:r.s.cameE m.mg=if m.ge≠r.gen then 10 else if r.phase≠0 then 9 else if A8 r.waits.l m.cl=false then 6 else if r.s.fits m.mg=false then 13 else r.s.tally.can m.cl:=by
  have hk':m.mg.k=1:=hk
  unfold LfS.cameE F0
  rw[hk']
  rfl
 have ef:r.s.fits m.mg=decide (m.nu≠0):=by
  have hk':m.mg.k=1:=hk
  unfold LfS.fits
  rw[hk']
  rfl
 rw[ef] at e0
 have et:r.s.tally=r.ty.t:=rfl
 rw[et] at e0 ⊢
 generalize r.s.cameE m.mg=E at e0 ⊢
 refine Ci (n:=106) (ι:=TalR×List Fct×Bool) (fun x=>x.1.t=(if E=0 then r.ty.t.came m.cl else r.ty.t)∧TalOk (Fs++x.2.1) x.1∧x.2.2=decide (E=0)) (fun _=>.x (.a (.v (erV E)))) (fun x=>Nw g r m x) Tryz.func56 rfl Tryz.ntmps56 _ (hS.fct0 (Ar g r)) (by simp) ?_
 unfold lfB lfA
 simp (maxSteps:=10^6) only[↓Ag,↓List.forall_mem_cons,↓Ad,↓Af,↓Bg,↓Bf,push_cast,↓reduceIte,reduceCtorEq,Nat.reduceLT,Nat.reduceAdd]
 (repeat (refine And.intro (by first|omega|decide) ?_))
 refine Cc [(0,true),(1,true),(2,true),(3,true),(4,true),(5,true),(6,true)] (by kernel_rfl) (by kernel_rfl) rfl (by kernel_rfl) ?_
 have EE:∀{hp:List Res} {sv:Sv} {tl:TalR} {G:List Fct},Ff sv [.pin g 104 (.c (lfA r)),.blk 170 (.c (tlA tl)),.mp .i64 (puE r.pub),bxR r,.mp .i64 (slE r.rows),.abs (Aa G)] sv hp→Ff sv (Nw g r m (tl,G,false)) sv hp:=fun h=>h
 have km:m.k=1:=hk
 have eb2:∀tl,bxR {r with ty:=tl}=bxR r:=fun _=>rfl
 by_cases g1:m.ge=r.gen
 ·rw[if_neg (fun h=>h g1)] at e0
  simp (maxSteps:=10^6) only[gm,f4,vw,vj,gl,g1,undef,push_cast,↓reduceIte,reduceCtorEq,Nat.reduceEqDiff,Nat.reduceLT,Nat.reduceAdd]
  (repeat (refine And.intro (by first|omega|decide) ?_))
  refine Cc [(0,true),(1,true),(2,true),(3,true),(4,true)] (by kernel_rfl) (by kernel_rfl) rfl (by kernel_rfl) ?_
  simp (maxSteps:=10^6) only[gm,f0,f5,gl,km,k13,k15,undef,push_cast,↓reduceIte,reduceCtorEq,Nat.reduceEqDiff,Nat.reduceLT,Nat.reduceAdd]
  (repeat (refine And.intro (by first|omega|decide) ?_))
  skip
  by_cases g2:r.phase=0
  ·rw[if_neg (fun h=>h g2)] at e0
   simp (maxSteps:=10^6) only[g2,push_cast,↓reduceIte]
   (repeat (refine And.intro (by first|omega|decide) ?_))
   refine Cc [(0,true),(1,true),(2,true),(3,true),(4,true),(5,true),(6,false),(7,true)] (by kernel_rfl) (by kernel_rfl) rfl (by kernel_rfl) ?_
   simp (maxSteps:=10^6) only[gm,f3,gl,undef,push_cast,↓reduceIte,reduceCtorEq,Nat.reduceEqDiff,Nat.reduceLT,Nat.reduceAdd]
   (repeat (refine And.intro (by first|omega|decide) ?_))
   refine Kh rfl Je rfl (Jm (l:=r.waits.l) m.cl (by have:=ok.few3;omega) (Di fw.2 _ _ (List.length_map ..) fw.1)) (Ae rfl) ?_
   by_cases g3:A8 r.waits.l m.cl=true
   ·rw[if_neg (by rw[g3];decide)] at e0
    simp (maxSteps:=10^6) only[g3,push_cast,↓reduceIte,Nat.reduceEqDiff,Nat.reduceLT,Nat.reduceAdd]
    (repeat (refine And.intro (by first|omega|decide) ?_))
    by_cases g4:¬m.nu=0
    ·rw[if_neg (by simp [ne_eq,g4])] at e0
     simp (maxSteps:=10^6) only[g4,push_cast,↓reduceIte]
     (repeat (refine And.intro (by first|omega|decide) ?_))
     refine Fw 6 [(0,true),(1,true),(2,true),(3,true),(4,true),(5,true)] (by kernel_rfl) (by kernel_rfl) ?_
     simp (maxSteps:=10^6) only[gm,f3,gl,undef,push_cast,↓reduceIte,reduceCtorEq,Nat.reduceEqDiff,Nat.reduceLT,Nat.reduceAdd]
     (repeat (refine And.intro (by first|omega|decide) ?_))
     refine Rn (ι:=TalR×List Fct) 1 5 (fun x=>x.1.t=(if r.ty.t.can m.cl=0 then r.ty.t.came m.cl else r.ty.t)∧TalOk (Fs++x.2) x.1) (fun _=>.x (.a (.v (erV (r.ty.t.can m.cl))))) (fun x=>.c (tlA x.1)) (fun x=>x.2) rfl rfl rfl Uz rfl (fun γ' w' hS' γ0 h0 hS0=>Wa hS' (k:=1) rfl hw ok.ty m.cl h0 hS0) (fun _ _=>rfl) (of_eq_true (Ag r.ty 0)) (fun x=>of_eq_true (Ag x.1 0)) (Ae rfl) (by simp (maxSteps:=10^6) only[↓Ag,↓List.forall_mem_cons,↓Ad,↓Af,↓A5,↓Bg,push_cast,Nat.reduceLT,Nat.reduceAdd]) ?_
     rintro⟨tl,G⟩ ⟨q1,q2⟩
     dsimp only at q1 q2
     by_cases g5:r.ty.t.can m.cl=0
     ·rw[if_pos g5] at q1
      rw[g5] at e0
      subst e0
      rw[g5,En]
      skip
      simp (maxSteps:=10^6) only[gm,f0,km,undef,push_cast,↓reduceIte,reduceCtorEq,Nat.reduceEqDiff,Nat.reduceLT,Nat.reduceAdd]
      (repeat (refine And.intro (by first|omega|decide) ?_))
      refine Fw 8 [(0,true),(1,true),(2,true),(3,true),(4,true),(5,true),(6,true),(7,true)] (by kernel_rfl) (by kernel_rfl) ?_
      simp (maxSteps:=10^6) only[gm,f3,f5,gl,undef,push_cast,↓reduceIte,reduceCtorEq,Nat.reduceEqDiff,Nat.reduceLT,Nat.reduceAdd]
      refine⟨(tl,G,true),⟨q1,q2,rfl⟩,A9 [0,1,2,3,4,5] ?_⟩
      have eH:Nw g r m (tl,G,true)=[.pin g 104 (.c (lfA r)),.blk 170 (.c (tlA tl)),.mp .i64 (putI (puE r.pub) m.cl (.a (.v (vU64 m.nu)))),bxR r,.mp .i64 (slE r.rows),.abs (Aa G)]:=rfl
      rw[eH]
      unfold lfA
      simp (maxSteps:=10^6) only[vw,vj,g2,↓Ag,↓Az,↓List.forall_mem_cons,↓List.forall_mem_append,↓Ad,↓Af,↓Ax,Au,push_cast,↓reduceIte,reduceCtorEq,Nat.reduceEqDiff,Nat.reduceLT,Nat.reduceAdd]
      refine⟨by rw[Wb,Abp];rfl,Wc (of_eq_true (Abo _ _)) trivial⟩
     ·rw[if_neg g5] at q1
      subst e0
      rw[B5 g5]
      simp (maxSteps:=10^6) only[if_neg g5,push_cast,↓reduceIte,Nat.reduceEqDiff,Nat.reduceLT,Nat.reduceAdd]
      refine⟨(tl,G,false),⟨q1,q2,(decide_eq_false g5).symm⟩,EE (A9 [0,1,2,3,4,5] ?_)⟩
      unfold lfA
      simp (maxSteps:=10^6) only[vw,vj,g2,↓Ag,↓Az,↓List.forall_mem_cons,↓List.forall_mem_append,↓Ad,↓Af,↓Ax,Au,push_cast,↓reduceIte,reduceCtorEq,Nat.reduceEqDiff,Nat.reduceLT,Nat.reduceAdd]
    ·rw[if_pos (by simp [g4])] at e0
     subst e0
     rw[B5 (by decide)]
     simp (maxSteps:=10^6) only[g4,push_cast,↓reduceIte,Int.reduceEq]
     refine⟨(r.ty,[],false),⟨rfl,by rw[List.append_nil];exact ok.ty,rfl⟩,EE (A9 [0,1,2,3,4,5] ?_)⟩
     unfold lfA
     simp (maxSteps:=10^6) only[vw,vj,g2,↓Ag,↓Az,↓List.forall_mem_cons,↓List.forall_mem_append,↓Ad,↓Af,↓Ax,Au,push_cast,↓reduceIte,reduceCtorEq,Nat.reduceEqDiff,Nat.reduceLT,Nat.reduceAdd]
   ·rw[if_pos (by simpa using g3)] at e0
    subst e0
    rw[B5 (by decide)]
    have g3:A8 r.waits.l m.cl=false:=by simpa using g3
    simp (maxSteps:=10^6) only[g3,push_cast,↓reduceIte,Nat.reduceLT,Nat.reduceAdd,Int.reduceEq]
    refine⟨(r.ty,[],false),⟨rfl,by rw[List.append_nil];exact ok.ty,rfl⟩,EE (A9 [0,1,2,3,4,5] ?_)⟩
    unfold lfA
    simp (maxSteps:=10^6) only[vw,vj,g2,↓Ag,↓Az,↓List.forall_mem_cons,↓List.forall_mem_append,↓Ad,↓Af,↓Ax,Au,push_cast,↓reduceIte,reduceCtorEq,Nat.reduceEqDiff,Nat.reduceLT,Nat.reduceAdd]
  ·rw[if_pos g2] at e0
   subst e0
   rw[B5 (by decide)]
   simp (maxSteps:=10^6) only[g2,push_cast,↓reduceIte,Int.reduceEq]
   refine⟨(r.ty,[],false),⟨rfl,by rw[List.append_nil];exact ok.ty,rfl⟩,EE (A9 [0,1,2,3,4,5] ?_)⟩
   unfold lfA
   simp (maxSteps:=10^6) only[vw,vj,↓Ag,↓Az,↓List.forall_mem_cons,↓List.forall_mem_append,↓Ad,↓Af,↓Ax,Au,push_cast,↓reduceIte,reduceCtorEq,Nat.reduceEqDiff,Nat.reduceLT,Nat.reduceAdd]
 ·rw[if_pos g1] at e0
  subst e0
  rw[B5 (by decide)]
  simp (maxSteps:=10^6) only[gm,f4,vw,vj,gl,g1,undef,push_cast,↓reduceIte,reduceCtorEq,Nat.reduceEqDiff,Nat.reduceLT,Nat.reduceAdd,Int.reduceEq]
  refine⟨(r.ty,[],false),⟨rfl,by rw[List.append_nil];exact ok.ty,rfl⟩,EE (A9 [0,1,2,3,4,5] ?_)⟩
  unfold lfA
  simp (maxSteps:=10^6) only[vw,vj,↓Ag,↓Az,↓List.forall_mem_cons,↓List.forall_mem_append,↓Ad,↓Af,↓Ax,Au,push_cast,↓reduceIte,reduceCtorEq,Nat.reduceEqDiff,Nat.reduceLT,Nat.reduceAdd]
def Nx (g:Nat) (r:LfR) (m:MgR) (x:TalR×List Fct×Bool):List Res:=if x.2.2=true then [.pin g 104 (.c (lfA r)),.blk 170 (.c (tlA x.1)),.mp .i64 (puE r.pub),.mp .i64 (putI (slE r.boxes) m.cl (.a (.o 6))),.mp .i64 (slE r.rows),.abs (Aa x.2.1),.own 41 (.u64 m.ns.l)] else lfB g {r with ty:=x.1}++[.abs (Aa x.2.1)]
set_option maxRecDepth 100000 in
theorem A32 (r:LfR) (m:MgR) {g:Nat} {w:World} {B:Nat→Prop} {γ:List Nm} {Fs:List Fct} (hS:Sat w B γ (lfB g r) w) (hw:Known w B Fs) (ok:LfOk Fs r) (hm:MgF m w B) (hk:m.k=3) (hlv:r.phase < 2→r.live=true):
  Calls Tryz.prog 56 (List.map (Sv.val (γ++[.m (.bool true) (fun _=>False)])) [.x (.a (.p 0 0)),.x (.g (mgA m))]).toArray w fun e w'=>∃(x:TalR×List Fct×Bool) (γ1:List Nm),(x.1.t=(if r.s.cameE m.mg=0 then r.s.tally.came m.cl else r.s.tally)∧TalOk (Fs++x.2.1) x.1∧x.2.2=decide (r.s.cameE m.mg=0))∧e=.returned ((Sv.x (.a (.v (erV (r.s.cameE m.mg))))).val γ1)∧Sat w B γ1 (Nx g r m x) w':=by
 have gl:=Aw ok.sum.s
 have gm:=Aw hm.few.sm
 obtain⟨f0,f1,f2,f3,f4,f5,f38,f39,f40,f41,f42⟩:=mgA_get hm.few.sm
 have vn:m.ns.val=.slice m.ns.A m.ns.l.length m.ns.c:=rfl
 have vx:m.xs.val=.slice m.xs.A m.xs.l.length m.xs.c:=rfl
 have vw:r.waits.val=.slice r.waits.A r.waits.l.length r.waits.c:=rfl
 have vj:r.joined.val=.slice r.joined.A r.joined.l.length r.joined.c:=rfl
 have fw:=hw.fw ok.waits (fun e=>by rw[e];rfl)
 have e0:r.s.cameE m.mg=if m.ge≠r.gen then 10 else if r.phase≠1 then 9 else if A8 r.waits.l m.cl=false then 6 else if r.s.fits m.mg=false then 13 else r.s.tally.can m.cl:=by
  have hk':m.mg.k=3:=hk
  unfold LfS.cameE F0
  rw[hk']
  rfl
 have ef:r.s.fits m.mg=decide (m.ns.l.length=2*r.joined.l.length):=by
  have hk':m.mg.k=3:=hk
  unfold LfS.fits
  rw[hk']
  rfl
 rw[ef] at e0
 have et:r.s.tally=r.ty.t:=rfl
 rw[et] at e0 ⊢
 generalize r.s.cameE m.mg=E at e0 ⊢
 refine Ci (n:=106) (ι:=TalR×List Fct×Bool) (fun x=>x.1.t=(if E=0 then r.ty.t.came m.cl else r.ty.t)∧TalOk (Fs++x.2.1) x.1∧x.2.2=decide (E=0)) (fun _=>.x (.a (.v (erV E)))) (fun x=>Nx g r m x) Tryz.func56 rfl Tryz.ntmps56 _ (hS.fct0 (Ar g r)) (by simp) ?_
 unfold lfB lfA
 simp (maxSteps:=10^6) only[↓Ag,↓List.forall_mem_cons,↓Ad,↓Af,↓Bg,↓Bf,push_cast,↓reduceIte,reduceCtorEq,Nat.reduceLT,Nat.reduceAdd]
 (repeat (refine And.intro (by first|omega|decide) ?_))
 refine Cc [(0,true),(1,true),(2,true),(3,true),(4,true),(5,true),(6,true)] (by kernel_rfl) (by kernel_rfl) rfl (by kernel_rfl) ?_
 have EE:∀{hp:List Res} {sv:Sv} {tl:TalR} {G:List Fct},Ff sv [.pin g 104 (.c (lfA r)),.blk 170 (.c (tlA tl)),.mp .i64 (puE r.pub),bxR r,.mp .i64 (slE r.rows),.abs (Aa G)] sv hp→Ff sv (Nx g r m (tl,G,false)) sv hp:=fun h=>h
 have km:m.k=3:=hk
 have eb2:∀tl,bxR {r with ty:=tl}=bxR r:=fun _=>rfl
 by_cases g1:m.ge=r.gen
 ·rw[if_neg (fun h=>h g1)] at e0
  simp (maxSteps:=10^6) only[gm,f4,vw,vj,gl,g1,undef,push_cast,↓reduceIte,reduceCtorEq,Nat.reduceEqDiff,Nat.reduceLT,Nat.reduceAdd]
  (repeat (refine And.intro (by first|omega|decide) ?_))
  refine Cc [(0,true),(1,true),(2,true),(3,true),(4,true)] (by kernel_rfl) (by kernel_rfl) rfl (by kernel_rfl) ?_
  simp (maxSteps:=10^6) only[gm,f0,f5,km,undef,push_cast,↓reduceIte,reduceCtorEq,Nat.reduceEqDiff,Nat.reduceLT,Nat.reduceAdd]
  (repeat (refine And.intro (by first|omega|decide) ?_))
  refine Cc [(0,true),(1,true),(2,true),(3,true),(4,true),(5,true),(6,true),(7,true),(8,true),(9,true),(10,true),(11,true)] (by kernel_rfl) (by kernel_rfl) rfl (by kernel_rfl) ?_
  have n1:2*(r.joined.l.length:Int)≤9223372036854775807:=by have:=ok.few4;omega
  have n2:(-9223372036854775808:Int)≤2*(r.joined.l.length:Int):=by omega
  have gn:(m.ns.l.length=2*r.joined.l.length)=((m.ns.l.length:Int)=2*(r.joined.l.length:Int)):=by apply propext;omega
  simp (maxSteps:=10^6) only[gm,f39,vn,gl,n1,n2,undef,push_cast,↓reduceIte,reduceCtorEq,Nat.reduceEqDiff,Nat.reduceLT,Nat.reduceAdd,Int.reduceNeg]
  (repeat (refine And.intro (by first|omega|decide) ?_))
  by_cases g2:r.phase=1
  ·rw[if_neg (fun h=>h g2)] at e0
   simp (maxSteps:=10^6) only[g2,push_cast,↓reduceIte]
   (repeat (refine And.intro (by first|omega|decide) ?_))
   refine Cc [(0,true),(1,true),(2,true),(3,true),(4,true),(5,true),(6,false),(7,true)] (by kernel_rfl) (by kernel_rfl) rfl (by kernel_rfl) ?_
   simp (maxSteps:=10^6) only[gm,f3,gl,undef,push_cast,↓reduceIte,reduceCtorEq,Nat.reduceEqDiff,Nat.reduceLT,Nat.reduceAdd]
   (repeat (refine And.intro (by first|omega|decide) ?_))
   refine Kh rfl Je rfl (Jm (l:=r.waits.l) m.cl (by have:=ok.few3;omega) (Di fw.2 _ _ (List.length_map ..) fw.1)) (Ae rfl) ?_
   by_cases g3:A8 r.waits.l m.cl=true
   ·rw[if_neg (by rw[g3];decide)] at e0
    simp (maxSteps:=10^6) only[g3,push_cast,↓reduceIte,Nat.reduceEqDiff,Nat.reduceLT,Nat.reduceAdd]
    (repeat (refine And.intro (by first|omega|decide) ?_))
    by_cases g4:(m.ns.l.length:Int)=2*(r.joined.l.length:Int)
    ·rw[if_neg (by simp [gn,g4])] at e0
     simp (maxSteps:=10^6) only[g4,push_cast,↓reduceIte]
     (repeat (refine And.intro (by first|omega|decide) ?_))
     refine Fw 6 [(0,true),(1,true),(2,true),(3,true),(4,true),(5,true)] (by kernel_rfl) (by kernel_rfl) ?_
     simp (maxSteps:=10^6) only[gm,f3,gl,undef,push_cast,↓reduceIte,reduceCtorEq,Nat.reduceEqDiff,Nat.reduceLT,Nat.reduceAdd]
     (repeat (refine And.intro (by first|omega|decide) ?_))
     refine Rn (ι:=TalR×List Fct) 1 5 (fun x=>x.1.t=(if r.ty.t.can m.cl=0 then r.ty.t.came m.cl else r.ty.t)∧TalOk (Fs++x.2) x.1) (fun _=>.x (.a (.v (erV (r.ty.t.can m.cl))))) (fun x=>.c (tlA x.1)) (fun x=>x.2) rfl rfl rfl Uz rfl (fun γ' w' hS' γ0 h0 hS0=>Wa hS' (k:=1) rfl hw ok.ty m.cl h0 hS0) (fun _ _=>rfl) (of_eq_true (Ag r.ty 0)) (fun x=>of_eq_true (Ag x.1 0)) (Ae rfl) (by simp (maxSteps:=10^6) only[↓Ag,↓List.forall_mem_cons,↓Ad,↓Af,↓A5,↓Bg,push_cast,Nat.reduceLT,Nat.reduceAdd]) ?_
     rintro⟨tl,G⟩ ⟨q1,q2⟩
     dsimp only at q1 q2
     by_cases g5:r.ty.t.can m.cl=0
     ·rw[if_pos g5] at q1
      rw[g5] at e0
      subst e0
      rw[g5,En]
      have eb:bxR r=.mp .i64 (slE r.boxes):=by unfold bxR;exact if_pos (hlv (by omega))
      simp (maxSteps:=10^6) only[gm,f0,km,k31,eb,undef,push_cast,↓reduceIte,reduceCtorEq,Nat.reduceEqDiff,Nat.reduceLT,Nat.reduceAdd]
      (repeat (refine And.intro (by first|omega|decide) ?_))
      refine Fw 9 [(0,true),(1,true),(2,true),(3,true),(4,true),(5,true),(6,true),(7,true),(8,false)] (by kernel_rfl) (by kernel_rfl) ?_
      simp (maxSteps:=10^6) only[gm,f3,f39,vn,gl,undef,push_cast,↓reduceIte,reduceCtorEq,Nat.reduceEqDiff,Nat.reduceLT,Nat.reduceAdd]
      (repeat (refine And.intro (by first|omega|decide) ?_))
      refine Lx rfl Qr rfl (V0 (l:=m.ns.l) hm.few.ns (Di hm.ns.2 _ _ (List.length_map ..) hm.ns.1) (by simp (maxSteps:=10^6) only[↓Ag,↓List.forall_mem_cons,↓Ad,↓A5,push_cast,Nat.reduceLT,Nat.reduceAdd])) (Ae rfl) (by simp (maxSteps:=10^6) only[↓Ag,↓List.forall_mem_cons,↓Ad,↓A5,↓Bg,push_cast,Nat.reduceLT,Nat.reduceAdd]) ?_
      simp (maxSteps:=10^6) only[push_cast,↓reduceIte,Nat.reduceEqDiff,Nat.reduceAdd]
      refine⟨(tl,G,true),⟨q1,q2,rfl⟩,A9 [0,1,2,3,4,5,7] ?_⟩
      have eH:Nx g r m (tl,G,true)=[.pin g 104 (.c (lfA r)),.blk 170 (.c (tlA tl)),.mp .i64 (puE r.pub),.mp .i64 (putI (slE r.boxes) m.cl (.a (.o 6))),.mp .i64 (slE r.rows),.abs (Aa G),.own 41 (.u64 m.ns.l)]:=rfl
      rw[eH]
      unfold lfA
      simp (maxSteps:=10^6) only[vw,vj,g2,↓Ag,↓Az,↓List.forall_mem_cons,↓List.forall_mem_append,↓Ad,Au,push_cast,↓reduceIte,reduceCtorEq,Nat.reduceEqDiff,Nat.reduceLT,Nat.reduceAdd]
      refine⟨by rw[Wb,Rt];rfl,Wc (of_eq_true (Rr _ _)) (by show 6 < 7;omega)⟩
     ·rw[if_neg g5] at q1
      subst e0
      rw[B5 g5]
      simp (maxSteps:=10^6) only[if_neg g5,push_cast,↓reduceIte,Nat.reduceEqDiff,Nat.reduceLT,Nat.reduceAdd]
      refine⟨(tl,G,false),⟨q1,q2,(decide_eq_false g5).symm⟩,EE (A9 [0,1,2,3,4,5] ?_)⟩
      unfold lfA
      simp (maxSteps:=10^6) only[vw,vj,g2,↓Ag,↓Az,↓List.forall_mem_cons,↓List.forall_mem_append,↓Ad,↓Af,↓Ax,Au,push_cast,↓reduceIte,reduceCtorEq,Nat.reduceEqDiff,Nat.reduceLT,Nat.reduceAdd]
    ·rw[if_pos (by simp [gn,g4])] at e0
     subst e0
     rw[B5 (by decide)]
     simp (maxSteps:=10^6) only[g4,push_cast,↓reduceIte,Int.reduceEq]
     refine⟨(r.ty,[],false),⟨rfl,by rw[List.append_nil];exact ok.ty,rfl⟩,EE (A9 [0,1,2,3,4,5] ?_)⟩
     unfold lfA
     simp (maxSteps:=10^6) only[vw,vj,g2,↓Ag,↓Az,↓List.forall_mem_cons,↓List.forall_mem_append,↓Ad,↓Af,↓Ax,Au,push_cast,↓reduceIte,reduceCtorEq,Nat.reduceEqDiff,Nat.reduceLT,Nat.reduceAdd]
   ·rw[if_pos (by simpa using g3)] at e0
    subst e0
    rw[B5 (by decide)]
    have g3:A8 r.waits.l m.cl=false:=by simpa using g3
    simp (maxSteps:=10^6) only[g3,push_cast,↓reduceIte,Nat.reduceLT,Nat.reduceAdd,Int.reduceEq]
    refine⟨(r.ty,[],false),⟨rfl,by rw[List.append_nil];exact ok.ty,rfl⟩,EE (A9 [0,1,2,3,4,5] ?_)⟩
    unfold lfA
    simp (maxSteps:=10^6) only[vw,vj,g2,↓Ag,↓Az,↓List.forall_mem_cons,↓List.forall_mem_append,↓Ad,↓Af,↓Ax,Au,push_cast,↓reduceIte,reduceCtorEq,Nat.reduceEqDiff,Nat.reduceLT,Nat.reduceAdd]
  ·rw[if_pos g2] at e0
   subst e0
   rw[B5 (by decide)]
   simp (maxSteps:=10^6) only[g2,push_cast,↓reduceIte,Int.reduceEq]
   refine⟨(r.ty,[],false),⟨rfl,by rw[List.append_nil];exact ok.ty,rfl⟩,EE (A9 [0,1,2,3,4,5] ?_)⟩
   unfold lfA
   simp (maxSteps:=10^6) only[vw,vj,↓Ag,↓Az,↓List.forall_mem_cons,↓List.forall_mem_append,↓Ad,↓Af,↓Ax,Au,push_cast,↓reduceIte,reduceCtorEq,Nat.reduceEqDiff,Nat.reduceLT,Nat.reduceAdd]
 ·rw[if_pos g1] at e0
  subst e0
  rw[B5 (by decide)]
  simp (maxSteps:=10^6) only[gm,f4,vw,vj,gl,g1,undef,push_cast,↓reduceIte,reduceCtorEq,Nat.reduceEqDiff,Nat.reduceLT,Nat.reduceAdd,Int.reduceEq]
  refine⟨(r.ty,[],false),⟨rfl,by rw[List.append_nil];exact ok.ty,rfl⟩,EE (A9 [0,1,2,3,4,5] ?_)⟩
  unfold lfA
  simp (maxSteps:=10^6) only[vw,vj,↓Ag,↓Az,↓List.forall_mem_cons,↓List.forall_mem_append,↓Ad,↓Af,↓Ax,Au,push_cast,↓reduceIte,reduceCtorEq,Nat.reduceEqDiff,Nat.reduceLT,Nat.reduceAdd]
def Ny (g:Nat) (r:LfR) (m:MgR) (x:TalR×List Fct×Bool):List Res:=if x.2.2=true then [.pin g 104 (.c (lfA r)),.blk 170 (.c (tlA x.1)),.mp .i64 (puE r.pub),bxR r,.mp .i64 (putI (slE r.rows) m.cl (.a (.o 6))),.abs (Aa x.2.1),.own 111 (.u32 m.xs.l)] else lfB g {r with ty:=x.1}++[.abs (Aa x.2.1)]
set_option maxRecDepth 100000 in
theorem A33 (r:LfR) (m:MgR) {g:Nat} {w:World} {B:Nat→Prop} {γ:List Nm} {Fs:List Fct} (hS:Sat w B γ (lfB g r) w) (hw:Known w B Fs) (ok:LfOk Fs r) (hm:MgF m w B) (hk:m.k=5) (hlv:r.phase < 2→r.live=true):
  Calls Tryz.prog 56 (List.map (Sv.val (γ++[.m (.bool true) (fun _=>False)])) [.x (.a (.p 0 0)),.x (.g (mgA m))]).toArray w fun e w'=>∃(x:TalR×List Fct×Bool) (γ1:List Nm),(x.1.t=(if r.s.cameE m.mg=0 then r.s.tally.came m.cl else r.s.tally)∧TalOk (Fs++x.2.1) x.1∧x.2.2=decide (r.s.cameE m.mg=0))∧e=.returned ((Sv.x (.a (.v (erV (r.s.cameE m.mg))))).val γ1)∧Sat w B γ1 (Ny g r m x) w':=by
 have gl:=Aw ok.sum.s
 have gm:=Aw hm.few.sm
 obtain⟨f0,f1,f2,f3,f4,f5,f38,f39,f40,f41,f42⟩:=mgA_get hm.few.sm
 have vn:m.ns.val=.slice m.ns.A m.ns.l.length m.ns.c:=rfl
 have vx:m.xs.val=.slice m.xs.A m.xs.l.length m.xs.c:=rfl
 have vw:r.waits.val=.slice r.waits.A r.waits.l.length r.waits.c:=rfl
 have vj:r.joined.val=.slice r.joined.A r.joined.l.length r.joined.c:=rfl
 have fw:=hw.fw ok.waits (fun e=>by rw[e];rfl)
 have e0:r.s.cameE m.mg=if m.ge≠r.gen then 10 else if r.phase≠2 then 9 else if A8 r.waits.l m.cl=false then 6 else if r.s.fits m.mg=false then 13 else r.s.tally.can m.cl:=by
  have hk':m.mg.k=5:=hk
  unfold LfS.cameE F0
  rw[hk']
  rfl
 have ef:r.s.fits m.mg=decide ((m.xs.l.length:Int)=r.dim):=by
  have hk':m.mg.k=5:=hk
  unfold LfS.fits
  rw[hk']
  rfl
 rw[ef] at e0
 have et:r.s.tally=r.ty.t:=rfl
 rw[et] at e0 ⊢
 generalize r.s.cameE m.mg=E at e0 ⊢
 refine Ci (n:=106) (ι:=TalR×List Fct×Bool) (fun x=>x.1.t=(if E=0 then r.ty.t.came m.cl else r.ty.t)∧TalOk (Fs++x.2.1) x.1∧x.2.2=decide (E=0)) (fun _=>.x (.a (.v (erV E)))) (fun x=>Ny g r m x) Tryz.func56 rfl Tryz.ntmps56 _ (hS.fct0 (Ar g r)) (by simp) ?_
 unfold lfB lfA
 simp (maxSteps:=10^6) only[↓Ag,↓List.forall_mem_cons,↓Ad,↓Af,↓Bg,↓Bf,push_cast,↓reduceIte,reduceCtorEq,Nat.reduceLT,Nat.reduceAdd]
 (repeat (refine And.intro (by first|omega|decide) ?_))
 refine Cc [(0,true),(1,true),(2,true),(3,true),(4,true),(5,true),(6,true)] (by kernel_rfl) (by kernel_rfl) rfl (by kernel_rfl) ?_
 have EE:∀{hp:List Res} {sv:Sv} {tl:TalR} {G:List Fct},Ff sv [.pin g 104 (.c (lfA r)),.blk 170 (.c (tlA tl)),.mp .i64 (puE r.pub),bxR r,.mp .i64 (slE r.rows),.abs (Aa G)] sv hp→Ff sv (Ny g r m (tl,G,false)) sv hp:=fun h=>h
 have km:m.k=5:=hk
 have eb2:∀tl,bxR {r with ty:=tl}=bxR r:=fun _=>rfl
 by_cases g1:m.ge=r.gen
 ·rw[if_neg (fun h=>h g1)] at e0
  simp (maxSteps:=10^6) only[gm,f4,vw,vj,gl,g1,undef,push_cast,↓reduceIte,reduceCtorEq,Nat.reduceEqDiff,Nat.reduceLT,Nat.reduceAdd]
  (repeat (refine And.intro (by first|omega|decide) ?_))
  refine Cc [(0,true),(1,true),(2,true),(3,true),(4,true)] (by kernel_rfl) (by kernel_rfl) rfl (by kernel_rfl) ?_
  simp (maxSteps:=10^6) only[gm,f0,f5,km,k53,undef,push_cast,↓reduceIte,reduceCtorEq,Nat.reduceEqDiff,Nat.reduceLT,Nat.reduceAdd]
  (repeat (refine And.intro (by first|omega|decide) ?_))
  refine Cc [(0,true),(1,true),(2,true),(3,true),(4,true),(5,true),(6,true),(7,true),(8,true),(9,true)] (by kernel_rfl) (by kernel_rfl) rfl (by kernel_rfl) ?_
  simp (maxSteps:=10^6) only[gm,f41,vx,gl,undef,push_cast,↓reduceIte,reduceCtorEq,Nat.reduceEqDiff,Nat.reduceLT,Nat.reduceAdd]
  (repeat (refine And.intro (by first|omega|decide) ?_))
  by_cases g2:r.phase=2
  ·rw[if_neg (fun h=>h g2)] at e0
   simp (maxSteps:=10^6) only[g2,push_cast,↓reduceIte]
   (repeat (refine And.intro (by first|omega|decide) ?_))
   refine Cc [(0,true),(1,true),(2,true),(3,true),(4,true),(5,true),(6,false),(7,true)] (by kernel_rfl) (by kernel_rfl) rfl (by kernel_rfl) ?_
   simp (maxSteps:=10^6) only[gm,f3,gl,undef,push_cast,↓reduceIte,reduceCtorEq,Nat.reduceEqDiff,Nat.reduceLT,Nat.reduceAdd]
   (repeat (refine And.intro (by first|omega|decide) ?_))
   refine Kh rfl Je rfl (Jm (l:=r.waits.l) m.cl (by have:=ok.few3;omega) (Di fw.2 _ _ (List.length_map ..) fw.1)) (Ae rfl) ?_
   by_cases g3:A8 r.waits.l m.cl=true
   ·rw[if_neg (by rw[g3];decide)] at e0
    simp (maxSteps:=10^6) only[g3,push_cast,↓reduceIte,Nat.reduceEqDiff,Nat.reduceLT,Nat.reduceAdd]
    (repeat (refine And.intro (by first|omega|decide) ?_))
    by_cases g4:(m.xs.l.length:Int)=r.dim
    ·rw[if_neg (by simp [g4])] at e0
     simp (maxSteps:=10^6) only[g4,push_cast,↓reduceIte]
     (repeat (refine And.intro (by first|omega|decide) ?_))
     refine Fw 6 [(0,true),(1,true),(2,true),(3,true),(4,true),(5,true)] (by kernel_rfl) (by kernel_rfl) ?_
     simp (maxSteps:=10^6) only[gm,f3,gl,undef,push_cast,↓reduceIte,reduceCtorEq,Nat.reduceEqDiff,Nat.reduceLT,Nat.reduceAdd]
     (repeat (refine And.intro (by first|omega|decide) ?_))
     refine Rn (ι:=TalR×List Fct) 1 5 (fun x=>x.1.t=(if r.ty.t.can m.cl=0 then r.ty.t.came m.cl else r.ty.t)∧TalOk (Fs++x.2) x.1) (fun _=>.x (.a (.v (erV (r.ty.t.can m.cl))))) (fun x=>.c (tlA x.1)) (fun x=>x.2) rfl rfl rfl Uz rfl (fun γ' w' hS' γ0 h0 hS0=>Wa hS' (k:=1) rfl hw ok.ty m.cl h0 hS0) (fun _ _=>rfl) (of_eq_true (Ag r.ty 0)) (fun x=>of_eq_true (Ag x.1 0)) (Ae rfl) (by simp (maxSteps:=10^6) only[↓Ag,↓List.forall_mem_cons,↓Ad,↓Af,↓A5,↓Bg,push_cast,Nat.reduceLT,Nat.reduceAdd]) ?_
     rintro⟨tl,G⟩ ⟨q1,q2⟩
     dsimp only at q1 q2
     by_cases g5:r.ty.t.can m.cl=0
     ·rw[if_pos g5] at q1
      rw[g5] at e0
      subst e0
      rw[g5,En]
      skip
      simp (maxSteps:=10^6) only[gm,f0,km,k51,k53,undef,push_cast,↓reduceIte,reduceCtorEq,Nat.reduceEqDiff,Nat.reduceLT,Nat.reduceAdd]
      (repeat (refine And.intro (by first|omega|decide) ?_))
      refine Fw 9 [(0,true),(1,true),(2,true),(3,true),(4,true),(5,true),(6,true),(7,true),(8,false)] (by kernel_rfl) (by kernel_rfl) ?_
      simp (maxSteps:=10^6) only[gm,f3,f41,vx,gl,undef,push_cast,↓reduceIte,reduceCtorEq,Nat.reduceEqDiff,Nat.reduceLT,Nat.reduceAdd]
      (repeat (refine And.intro (by first|omega|decide) ?_))
      refine Lx rfl Zo rfl (A2j (l:=m.xs.l) hm.few.xs (Di hm.xs.2 _ _ (List.length_map ..) hm.xs.1) (by simp (maxSteps:=10^6) only[↓Ag,↓List.forall_mem_cons,↓Ad,↓Af,↓A5,push_cast,Nat.reduceLT,Nat.reduceAdd])) (Ae rfl) (by simp (maxSteps:=10^6) only[↓Ag,↓List.forall_mem_cons,↓Ad,↓Af,↓A5,↓Bg,push_cast,Nat.reduceLT,Nat.reduceAdd]) ?_
      simp (maxSteps:=10^6) only[push_cast,↓reduceIte,Nat.reduceEqDiff,Nat.reduceAdd]
      refine⟨(tl,G,true),⟨q1,q2,rfl⟩,A9 [0,1,2,3,4,5,7] ?_⟩
      have eH:Ny g r m (tl,G,true)=[.pin g 104 (.c (lfA r)),.blk 170 (.c (tlA tl)),.mp .i64 (puE r.pub),bxR r,.mp .i64 (putI (slE r.rows) m.cl (.a (.o 6))),.abs (Aa G),.own 111 (.u32 m.xs.l)]:=rfl
      rw[eH]
      unfold lfA
      simp (maxSteps:=10^6) only[vw,vj,g2,↓Ag,↓Az,↓List.forall_mem_cons,↓List.forall_mem_append,↓Ad,↓Af,↓Ax,Au,push_cast,↓reduceIte,reduceCtorEq,Nat.reduceEqDiff,Nat.reduceLT,Nat.reduceAdd]
      refine⟨by rw[Wb,Rt];rfl,Wc (of_eq_true (Rr _ _)) (by show 6 < 7;omega)⟩
     ·rw[if_neg g5] at q1
      subst e0
      rw[B5 g5]
      simp (maxSteps:=10^6) only[if_neg g5,push_cast,↓reduceIte,Nat.reduceEqDiff,Nat.reduceLT,Nat.reduceAdd]
      refine⟨(tl,G,false),⟨q1,q2,(decide_eq_false g5).symm⟩,EE (A9 [0,1,2,3,4,5] ?_)⟩
      unfold lfA
      simp (maxSteps:=10^6) only[vw,vj,g2,↓Ag,↓Az,↓List.forall_mem_cons,↓List.forall_mem_append,↓Ad,↓Af,↓Ax,Au,push_cast,↓reduceIte,reduceCtorEq,Nat.reduceEqDiff,Nat.reduceLT,Nat.reduceAdd]
    ·rw[if_pos (by simp [g4])] at e0
     subst e0
     rw[B5 (by decide)]
     simp (maxSteps:=10^6) only[g4,push_cast,↓reduceIte,Int.reduceEq]
     refine⟨(r.ty,[],false),⟨rfl,by rw[List.append_nil];exact ok.ty,rfl⟩,EE (A9 [0,1,2,3,4,5] ?_)⟩
     unfold lfA
     simp (maxSteps:=10^6) only[vw,vj,g2,↓Ag,↓Az,↓List.forall_mem_cons,↓List.forall_mem_append,↓Ad,↓Af,↓Ax,Au,push_cast,↓reduceIte,reduceCtorEq,Nat.reduceEqDiff,Nat.reduceLT,Nat.reduceAdd]
   ·rw[if_pos (by simpa using g3)] at e0
    subst e0
    rw[B5 (by decide)]
    have g3:A8 r.waits.l m.cl=false:=by simpa using g3
    simp (maxSteps:=10^6) only[g3,push_cast,↓reduceIte,Nat.reduceLT,Nat.reduceAdd,Int.reduceEq]
    refine⟨(r.ty,[],false),⟨rfl,by rw[List.append_nil];exact ok.ty,rfl⟩,EE (A9 [0,1,2,3,4,5] ?_)⟩
    unfold lfA
    simp (maxSteps:=10^6) only[vw,vj,g2,↓Ag,↓Az,↓List.forall_mem_cons,↓List.forall_mem_append,↓Ad,↓Af,↓Ax,Au,push_cast,↓reduceIte,reduceCtorEq,Nat.reduceEqDiff,Nat.reduceLT,Nat.reduceAdd]
  ·rw[if_pos g2] at e0
   subst e0
   rw[B5 (by decide)]
   simp (maxSteps:=10^6) only[g2,push_cast,↓reduceIte,Int.reduceEq]
   refine⟨(r.ty,[],false),⟨rfl,by rw[List.append_nil];exact ok.ty,rfl⟩,EE (A9 [0,1,2,3,4,5] ?_)⟩
   unfold lfA
   simp (maxSteps:=10^6) only[vw,vj,↓Ag,↓Az,↓List.forall_mem_cons,↓List.forall_mem_append,↓Ad,↓Af,↓Ax,Au,push_cast,↓reduceIte,reduceCtorEq,Nat.reduceEqDiff,Nat.reduceLT,Nat.reduceAdd]
 ·rw[if_pos g1] at e0
  subst e0
  rw[B5 (by decide)]
  simp (maxSteps:=10^6) only[gm,f4,vw,vj,gl,g1,undef,push_cast,↓reduceIte,reduceCtorEq,Nat.reduceEqDiff,Nat.reduceLT,Nat.reduceAdd,Int.reduceEq]
  refine⟨(r.ty,[],false),⟨rfl,by rw[List.append_nil];exact ok.ty,rfl⟩,EE (A9 [0,1,2,3,4,5] ?_)⟩
  unfold lfA
  simp (maxSteps:=10^6) only[vw,vj,↓Ag,↓Az,↓List.forall_mem_cons,↓List.forall_mem_append,↓Ad,↓Af,↓Ax,Au,push_cast,↓reduceIte,reduceCtorEq,Nat.reduceEqDiff,Nat.reduceLT,Nat.reduceAdd]
end Go.Proofs.YtedaafmfjhjfmaaGreatDoor
