import Derived.Test.YtedaafmfjhjfmaaGreatDoorHb1
import Derived.Test.YtedaafmfjhjfmaaGreatDoorLwI
/- Layer 30 walked: again, on. -/
namespace Go.Proofs.YtedaafmfjhjfmaaGreatDoor
open _root_.Go.Proofs.Tryz
open Go.RowKit
set_option linter.unusedSimpArgs false
set_option linter.unusedVariables false
def HTellQ (Fs:List Fct) (s:HbS) (out:List SnS) (x:HbR×SlV SnR×List Fct):Prop:=x.1.s=s∧x.2.1.l.map SnR.s=out∧HbOk (Fs++x.2.2) x.1∧OutOk x.2.2 x.2.1∧(x.2.1.l=[]→x.2.1=⟨none,0,[]⟩)
attribute [local irreducible] Ac Ad Ah Au Ao Aj Ai Al
attribute [local irreducible] A9 okV Ak erV Bq Tal.can Tal.st
section
variable {r:HbR} {g gs:Nat} {w:World} {B:Nat→Prop} {γ:List Nm} {Fs:List Fct}
theorem Ae6 {M:List Res} {w0:World} {ow:Nat→Prop} (ok:HbOk Fs r) (hk:∀γ w,Sat w0 ow γ (hbB g gs r++M) w→Known w (fun b=>∃(k:Nat) (q:Res),(hbB g gs r)[k]?=some q∧q.has γ k b) Fs):∀γ w,Sat w0 ow γ (hbB g gs r++M) w→nmB γ 0=g→Calls prog 137 ([.x (.a (.p 0 0))].map (Sv.val γ)).toArray w fun e w'=>∃(x:MgR×List Fct) (γ1:List Nm),(x.1.mg=r.s.sums.all r.gen∧MOk x.2 x.1)∧e=.returned ((Sv.x (.g (mgA x.1))).val [])∧Sat w (fun b=>∃(k:Nat) (q:Res),(hbB g gs r)[k]?=some q∧q.has γ k b) γ1 (hbB g gs r++[.abs (fctRep x.2)]) w':=fun γ w hS hg=>by
 have:=Ayt (hS.frontA (Ar g gs r)) (hk γ w hS) ok
 rw[Fe (hS.frontA (Ar g gs r)) [] (fun x hx=>by cases hx) γ] at this
 show Calls _ _ #[.pointer (some ⟨nmB γ 0,0,none⟩)] w _
 rw[hg]
 refine this.mono fun e w'' ⟨x,γ1,h1,h2,h3⟩=>⟨x,γ1,h1,?_,h3⟩
 rw[h2,Bi,Bi]
set_option maxRecDepth 100000 in
theorem Ayu (hS:Sat w B γ (hbB g gs r) w) (hw:Known w B Fs) (ok:HbOk Fs r) (h1:r.phase=1) (h2:0≤r.parent):
  Calls prog 100 (List.map (Sv.val (γ++[.m (.bool true) (fun _=>False)])) [.x (.a (.p 0 0))]).toArray w fun e w'=>∃(x:MgR×List Fct) (γ1:List Nm),(x.1.mg=r.s.sums.all r.gen∧MOk x.2 x.1)∧e=.returned ((Sv.x (.a (.o 7))).val γ1)∧Sat w B γ1 (hbB g gs r++[.abs (fctRep x.2),.onn 60 45 (.c (snL [⟨false,r.parent,x.1⟩]))]) w':=by
 refine Cy (n:=23) (ι:=MgR×List Fct) (fun x=>x.1.mg=r.s.sums.all r.gen∧MOk x.2 x.1) (fun x=>.x (.a (.o 7))) (fun x=>hbB g gs r++[.abs (fctRep x.2),.onn 60 45 (.c (snL [⟨false,r.parent,x.1⟩]))]) func100 rfl ntmps100 [.x (.a (.p 0 0))] (hS.fct0 (Ar g gs r)) (by simp) ?_
 have h1t:(r.phase=1)=True:=eq_true h1
 have np:¬r.parent < 0:=by omega
 have dz:(mgA zeroR).drop 43=[]:=rfl
 unfold hbB hbA
 simp (maxSteps:=10^6) only[h1t,np,undef,push_cast,↓reduceIte,reduceCtorEq,Nat.reduceEqDiff,Nat.reduceLT,Nat.reduceAdd]
 (repeat (refine And.intro (by first|omega|decide) ?_))
 refine Xd (ι:=MgR×List Fct) (fun x=>x.1.mg=r.s.sums.all r.gen∧MOk x.2 x.1) 0 [] 6 (.rd 0 (.rd 1 (.rd 2 (.rd 4 (.fk 3 (.wr 5 .nil) 5 (.wr 3 .nil)))))) (fun x=>⟨[(18,.x (.a (.v (.int .i64 r.parent)))),(20,.x (.g (mgA x.1)))],[.pin g 149 (.c [.v (.int .i64 r.place),.v (.int .i64 r.gen),.v (.int .i64 r.parent),.v r.above.val,.v r.under.val,.o 2,.p 1 0,.p 3 0,.v (.int .i64 r.phase)]),.blk 170 (.c (tlA r.ty)),.mp .i64 (slE r.next),.pin gs 120 (.c [.v (.int .i64 r.sm.place),.v (.int .i64 r.sm.dim),.v r.sm.spots.val,.o 4,.o 5]),.mp .i64 (iE r.sm.heard),.mp .i64 (mgE r.sm.taken),.abs (fctRep []),.abs (fctRep x.2)]⟩) (by kernel_rfl) (by kernel_rfl) (Nat.zero_le _) ?_ ?_
 ·simp (maxSteps:=10^6) only[undef,push_cast,↓reduceIte,reduceCtorEq,Nat.reduceEqDiff,Nat.reduceLT,Nat.reduceAdd,Nat.reduceSub]
  refine⟨?_,?_⟩
  ·refine Tn (ι:=MgR×List Fct) (A:=hbB g gs r) (M:=[.abs (fctRep [])]) (g:=g) (t:=149) (c:=.c (hbA r)) (fun x=>x.1.mg=r.s.sums.all r.gen∧MOk x.2 x.1) (fun x=>.x (.g (mgA x.1))) (fun _=>hbB g gs r) (fun x=>x.2) rfl rfl (fun x _=>⟨_,rfl⟩) (fun x _=>rfl) rfl Aa6 rfl (Ae6 ok fun γ w hS=>D3 hS hw) (fun x γ=>by rw[Bi,Bi]) (Aa rfl) (Ar g gs r) (fun x _=>Ar g gs r) (by simp (maxSteps:=10^6) only[↓Ae,↓List.forall_mem_cons,push_cast,Nat.reduceLT,Nat.reduceAdd]) (by
    show ∀x∈_,Sv.av 6 _
    simp (maxSteps:=10^6) only[↓List.forall_mem_cons,push_cast,Nat.reduceLeDiff]) (by
    show ∀x∈_,Res.av 6 _
    simp (maxSteps:=10^6) only[↓List.forall_mem_cons,push_cast]) (fun x _=>rfl) (fun j q h=>Aez _ j q h _) ?_
   rintro⟨x,J⟩ ⟨x1,x2⟩
   have gx:=Bd x2.s
   unfold hbB hbA
   simp (maxSteps:=10^6) only[push_cast]
   refine⟨(x,J),⟨x1,x2⟩,Cn [0,1,2,3,4,5,6,7] ?_⟩
   simp (maxSteps:=10^6) only[rn,↓Ae,↓Aw,↓List.forall_mem_cons,↓A8,↓La,push_cast,↓reduceIte,reduceCtorEq,Nat.reduceEqDiff,Nat.reduceLT,Nat.reduceAdd]
  ·refine Tn (ι:=MgR×List Fct) (A:=hbB g gs r) (M:=[.abs (fctRep [])]) (g:=g) (t:=149) (c:=.c (hbA r)) (fun x=>x.1.mg=r.s.sums.all r.gen∧MOk x.2 x.1) (fun x=>.x (.g (mgA x.1))) (fun _=>hbB g gs r) (fun x=>x.2) rfl rfl (fun x _=>⟨_,rfl⟩) (fun x _=>rfl) rfl Aa6 rfl (Ae6 ok fun γ w hS=>D3 hS hw) (fun x γ=>by rw[Bi,Bi]) (Aa rfl) (Ar g gs r) (fun x _=>Ar g gs r) (by simp (maxSteps:=10^6) only[↓Ae,↓List.forall_mem_cons,push_cast,Nat.reduceLT,Nat.reduceAdd]) (by
    show ∀x∈_,Sv.av 6 _
    simp (maxSteps:=10^6) only[↓List.forall_mem_cons,push_cast,Nat.reduceLeDiff]) (by
    show ∀x∈_,Res.av 6 _
    simp (maxSteps:=10^6) only[↓List.forall_mem_cons,push_cast]) (fun x _=>rfl) (fun j q h=>Aez _ j q h _) ?_
   rintro⟨x,J⟩ ⟨x1,x2⟩
   have gx:=Bd x2.s
   unfold hbB hbA
   simp (maxSteps:=10^6) only[undef,push_cast,↓reduceIte,Nat.reduceEqDiff,Nat.reduceLT,Nat.reduceAdd]
   refine⟨(x,J),⟨x1,x2⟩,Cn [0,1,2,3,4,5,6,7] ?_⟩
   simp (maxSteps:=10^6) only[rn,↓Ae,↓Aw,↓List.forall_mem_cons,↓A8,↓La,push_cast,↓reduceIte,reduceCtorEq,Nat.reduceEqDiff,Nat.reduceLT,Nat.reduceAdd]
 rintro⟨x,J⟩ ⟨x1,x2⟩
 dsimp only at x1 x2 ⊢
 have gx:=Bd x2.s
 simp (maxSteps:=10^6) only[gx,dz,Bo,F0,Hk,Br,B0,I7,↓Ae,↓List.forall_mem_cons,↓Bm,↓A8,push_cast,↓reduceIte,reduceCtorEq,Nat.reduceEqDiff,Nat.reduceLT,Nat.reduceLeDiff,Nat.reduceAdd,Nat.reduceMul]
 refine⟨of_eq_true (mgA_one _ _),(x,J),⟨x1,x2⟩,A6 [0,1,2,3,4,5,7,8] ?_⟩
 have e:snL [⟨false,r.parent,x⟩]=.v (.bool false):: .v (.int .i64 r.parent)::mgA x:=by
  unfold snL
  rw[List.flatMap_cons,List.flatMap_nil,List.append_nil]
  rfl
 simp (maxSteps:=10^6) only[e,rn,↓Db,↓Gv,↓Ae,↓Aw,↓List.forall_mem_cons,push_cast,↓reduceIte,reduceCtorEq,Nat.reduceEqDiff,Nat.reduceLT,Nat.reduceAdd]
set_option maxRecDepth 100000 in
theorem Ayv (hS:Sat w B γ (hbB g gs r) w) (h1:¬(r.phase=1∧0≤r.parent)):
  Calls prog 100 (List.map (Sv.val (γ++[.m (.bool true) (fun _=>False)])) [.x (.a (.p 0 0))]).toArray w fun e w'=>∃(_:Unit) (γ1:List Nm),True∧e=.returned ((Sv.x (.a (.v (.slice none 0 0)))).val γ1)∧Sat w B γ1 (hbB g gs r++[.abs (fctRep [])]) w':=by
 refine Cy (n:=23) (ι:=Unit) (fun _=>True) (fun x=>.x (.a (.v (.slice none 0 0)))) (fun x=>hbB g gs r++[.abs (fctRep [])]) func100 rfl ntmps100 [.x (.a (.p 0 0))] (hS.fct0 (Ar g gs r)) (by simp) ?_
 unfold hbB hbA
 by_cases hp:r.phase=1
 ·have h1t:(r.phase=1)=True:=eq_true hp
  have np:r.parent < 0:=by
   apply Int.not_le.1
   exact fun h=>h1 ⟨hp,h⟩
  simp (maxSteps:=10^6) only[h1t,np,undef,push_cast,↓reduceIte,reduceCtorEq,Nat.reduceEqDiff,Nat.reduceLT,Nat.reduceAdd]
  refine⟨(),A6 [0,1,2,3,4,5,6] ?_⟩
  simp (maxSteps:=10^6) only[↓Ae,↓Aw,↓List.forall_mem_cons,push_cast,↓reduceIte,reduceCtorEq,Nat.reduceEqDiff,Nat.reduceLT,Nat.reduceAdd]
 ·simp (maxSteps:=10^6) only[hp,undef,push_cast,↓reduceIte,reduceCtorEq,Nat.reduceEqDiff,Nat.reduceLT,Nat.reduceAdd]
  refine⟨(),A6 [0,1,2,3,4,5,6] ?_⟩
  simp (maxSteps:=10^6) only[↓Ae,↓Aw,↓List.forall_mem_cons,push_cast,↓reduceIte,reduceCtorEq,Nat.reduceEqDiff,Nat.reduceLT,Nat.reduceAdd]
def Xf (f:FuncId) (xs:List Value) (Fs:List Fct) (s:HbS) (out:List SnS) (g gs:Nat) (w:World) (B:Nat→Prop):Prop:=
 Calls prog f (.pointer (some ⟨g,0,none⟩)::xs).toArray w fun e w'=>∃(x:HbR×SlV SnR×List Fct) (γ1:List Nm),HTellQ Fs s out x∧e=.returned x.2.1.val∧Sat w B γ1 (hbB g gs x.1++[.abs (fctRep x.2.2)]) w'
theorem Xg (hS:Sat w B γ (hbB g gs r) w) (hw:Known w B Fs) (ok:HbOk Fs r):Xf 100 [] Fs r.s r.s.again g gs w B:=by
 by_cases h:r.phase=1∧0≤r.parent
 ·have e0:r.s.again=[⟨false,r.parent,r.s.sums.all r.gen⟩]:=if_pos h
  have:=Ayu hS hw ok h.1 h.2
  rw[Fe hS [] (fun x hx=>by cases hx) γ] at this
  refine this.mono fun e w' ⟨⟨x,J⟩,γ1,⟨x1,x2⟩,he,hS1⟩=>?_
  dsimp only at x1 x2 he hS1
  have hL:∀y∈[SnR.mk false r.parent x],MOk J y.m:=fun y hy=>by
   rw[List.mem_singleton.1 hy]
   exact x2
  obtain⟨A1,cap,γ',e1,e2,eB,eS,h5⟩:=hS1.onnF (j:=7) (k:=6) (vs:=[SnR.mk false r.parent x].flatMap snV) (n:=1) (l:=J) rfl rfl (by decide) (I6 γ1 _) (Id fun y hy=>(hL y hy).s)
  have h6:Sat w B γ' ((hbB g gs r++[.abs (fctRep (J++[⟨.slice A1 1 cap,1,[SnR.mk false r.parent x].flatMap snV⟩]))])++[.gone]) w':=h5
  refine⟨(r,⟨A1,cap,[SnR.mk false r.parent x]⟩,J++[⟨.slice A1 1 cap,1,[SnR.mk false r.parent x].flatMap snV⟩]),_,⟨rfl,by rw[e0];show [SnS.mk false r.parent x.mg]=_;rw[x1],ok.more fun f hf=>List.mem_append_left _ hf,OutOk.of hL (by show 1≤1000;omega),fun h=>by cases h⟩,?_,h6.frontOf (M1 g gs _ _)⟩
  rw[he]
  show Ending.returned (nmS γ1 7)=_
  rw[e1]
  rfl
 ·have e0:r.s.again=[]:=if_neg h
  have:=Ayv hS h
  rw[Fe hS [] (fun x hx=>by cases hx) γ] at this
  refine this.mono fun e w' ⟨_,γ1,_,he,hS1⟩=>?_
  exact⟨(r,⟨none,0,[]⟩,[]),γ1,⟨rfl,by rw[e0];rfl,by rw[List.append_nil];exact ok,D4 _,fun _=>rfl⟩,he,hS1⟩
def Hh (ge pl:Int) (A:Option Addr):MgR:={zeroR with k:=17,ge:=ge,ids:=⟨A,1,[pl]⟩}
set_option maxRecDepth 100000 in
theorem Ayw (hS:Sat w B γ (hbB g gs r) w) (ok:HbOk Fs r) (hp:r.phase=0) (h1:r.ty.t.st=2) (h2:0≤r.parent):
  Calls prog 97 (List.map (Sv.val (γ++[.m (.bool true) (fun _=>False)])) [.x (.a (.p 0 0))]).toArray w fun e w'=>∃(A:Option Addr) (γ1:List Nm),True∧e=.returned ((Sv.x (.a (.o 7))).val γ1)∧Sat w B γ1 (hbB g gs {r with phase:=2}++[.abs (fctRep [⟨.slice A 1 1,1,[.int .i64 r.place]⟩]),.onn 60 45 (.c (snL [⟨false,r.parent,Hh r.gen r.place A⟩]))]) w':=by
 have hpt:(r.phase=0)=True:=eq_true hp
 refine Cy (n:=48) (ι:=Option Addr) (fun _=>True) (fun A=>.x (.a (.o 7))) (fun A=>hbB g gs {r with phase:=2}++[.abs (fctRep [⟨.slice A 1 1,1,[.int .i64 r.place]⟩]),.onn 60 45 (.c (snL [⟨false,r.parent,Hh r.gen r.place A⟩]))]) func97 rfl ntmps97 [.x (.a (.p 0 0))] (hS.fct0 (Ar g gs r)) (by show 1≤48;omega) ?_
 unfold hbB hbA
 simp (maxSteps:=10^6) only[hpt,undef,push_cast,↓reduceIte,reduceCtorEq,Nat.reduceLT,Nat.reduceAdd]
 (repeat (refine And.intro (by first|omega|decide) ?_))
 refine Am rfl Md rfl (Ox (k:=1) rfl ok.ty) (Aa rfl) ?_
 rw[h1]
 simp (maxSteps:=10^6) only[h2,undef,push_cast,↓reduceIte,reduceCtorEq,Nat.reduceEqDiff,Nat.reduceLT,Nat.reduceAdd,Int.reduceEq]
 (repeat (refine And.intro (by first|omega|decide) ?_))
 have lb:=fun n h=>Ad1 n r.gen 7 h
 refine Mq 7 [] 11 (.rd 0 (.rd 1 (.rd 2 (.rd 3 (.rd 4 (.rd 5 (.rd 6 (.rd 7 (.fk 8 (.rd 9 (.wr 10 .nil)) 10 (.wr 8 (.wr 9 .nil))))))))))) ⟨[(0,.x (.a (.p 0 0))),(3,.x (.a (.p 8 0))),(40,.x (.g (Hg r.gen (.s 7 0 1 1))))],[.pin g 149 (.c [.v (.int .i64 r.place),.v (.int .i64 r.gen),.v (.int .i64 r.parent),.v r.above.val,.v r.under.val,.o 2,.p 1 0,.p 3 0,.v (.int .i64 2)]),.blk 170 (.c (tlA r.ty)),.mp .i64 (slE r.next),.pin gs 120 (.c [.v (.int .i64 r.sm.place),.v (.int .i64 r.sm.dim),.v r.sm.spots.val,.o 4,.o 5]),.mp .i64 (iE r.sm.heard),.mp .i64 (mgE r.sm.taken),.abs (fctRep []),.blk 3 (.i64 [r.place]),.blk 48 (.c (mgA zeroR))]⟩ (by kernel_rfl) (by kernel_rfl) (Nat.le_refl 7) ?_ ?_
 ·simp (maxSteps:=10^6) only[Bo,B9,Br,B0,Awj,undef,↓Ae,↓List.forall_mem_cons,↓Ag,push_cast,↓reduceIte,reduceCtorEq,Nat.reduceEqDiff,Nat.reduceLT,Nat.reduceLeDiff,Nat.reduceAdd,Nat.reduceSub]
  repeat' (refine And.intro ?_ ?_)
  all_goals first
   |exact of_eq_true (Ad1 _ _ _ (by decide))
   |(refine Cn [0,1,2,3,4,5,6,7,8] ?_
     simp (maxSteps:=10^6) only[↓Ad2,rn,↓lb,↓Ae,↓Aw,↓List.forall_mem_cons,↓Ag,↓Ay,push_cast,↓reduceIte,reduceCtorEq,Nat.reduceEqDiff,Nat.reduceLT,Nat.reduceAdd]
     done)
   |(refine Cn [0,1,2,3,4,5,6,8,7] ?_
     simp (maxSteps:=10^6) only[↓Ad2,rn,↓lb,↓Ae,↓Aw,↓List.forall_mem_cons,↓Ag,↓Ay,push_cast,↓reduceIte,reduceCtorEq,Nat.reduceEqDiff,Nat.reduceLT,Nat.reduceAdd]
     done)
 ·have ll:=Awl r.gen (.s 7 0 1 1)
  simp (maxSteps:=10^6) only[ll,B0,undef,push_cast,↓reduceIte,reduceCtorEq,Nat.reduceEqDiff,Nat.reduceLT,Nat.reduceAdd]
  refine⟨Ad0 (q:=At.one [.pin g 149 (.c [.v (.int .i64 r.place),.v (.int .i64 r.gen),.v (.int .i64 r.parent),.v r.above.val,.v r.under.val,.o 2,.p 1 0,.p 3 0,.v (.int .i64 2)]),.blk 170 (.c (tlA r.ty)),.mp .i64 (slE r.next),.pin gs 120 (.c [.v (.int .i64 r.sm.place),.v (.int .i64 r.sm.dim),.v r.sm.spots.val,.o 4,.o 5]),.mp .i64 (iE r.sm.heard),.mp .i64 (mgE r.sm.taken),.abs (fctRep []),.blk 3 (.i64 [r.place]),.blk 48 (.c (mgA zeroR))]) (fun _ h _=>h) (a:=.s 7 0 1 1) (by first|rfl|trivial),?_⟩
  refine Awi 7 8 6 38 1 (c:=.i64 [r.place]) (cells:=Hg r.gen (.s 7 0 1 1)) (vs:=[.int .i64 r.place]) (l:=[]) rfl rfl rfl (fun _=>rfl) rfl rfl (by decide) (by decide) (by decide) (by unfold maxLen;omega) fun A=>?_
  have es:(Hg r.gen (.s 7 0 1 1)).set 38 (.v (.slice A 1 1))=mgA (Hh r.gen r.place A):=rfl
  have gm:=Bd (m:=Hh r.gen r.place A) rfl
  have dz:(mgA zeroR).drop 43=[]:=rfl
  refine Hw [0,3] ?_
  simp (maxSteps:=10^6) only[es,push_cast,↓reduceIte,reduceCtorEq]
  refine B3 [(0,true),(1,true),(2,true),(3,true),(4,true),(5,true),(6,false),(7,true)] (by kernel_rfl) (by kernel_rfl) rfl (by kernel_rfl) ?_
  simp (maxSteps:=10^6) only[gm,dz,Bo,F0,Hk,Br,B0,I7,undef,↓Ae,↓List.forall_mem_cons,↓Bm,↓Ag,↓A8,push_cast,↓reduceIte,reduceCtorEq,Nat.reduceEqDiff,Nat.reduceLT,Nat.reduceLeDiff,Nat.reduceAdd,Nat.reduceMul]
  refine⟨of_eq_true (mgA_one _ _),A,A6 [0,1,2,3,4,5,6,9] ?_⟩
  have e:snL [⟨false,r.parent,Hh r.gen r.place A⟩]=.v (.bool false):: .v (.int .i64 r.parent)::mgA (Hh r.gen r.place A):=by
   unfold snL
   rw[List.flatMap_cons,List.flatMap_nil,List.append_nil]
   rfl
  simp (maxSteps:=10^6) only[e,↓Db,↓Gv,↓Ae,↓Aw,↓List.forall_mem_cons,push_cast,↓reduceIte,reduceCtorEq,Nat.reduceEqDiff,Nat.reduceLT,Nat.reduceAdd]
set_option maxRecDepth 100000 in
theorem Ayx (hS:Sat w B γ (hbB g gs r) w) (hw:Known w B Fs) (ok:HbOk Fs r) (hp:r.phase=0) (h1:r.ty.t.st=1):
  Calls prog 97 (List.map (Sv.val (γ++[.m (.bool true) (fun _=>False)])) [.x (.a (.p 0 0))]).toArray w fun e w'=>∃(x:HbR×SlV SnR×List Fct) (γ1:List Nm),HTellQ Fs ({r with phase:=1}:HbR).s ({r with phase:=1}:HbR).s.again x∧e=.returned ((Sv.x (.a (.v x.2.1.val))).val γ1)∧Sat w B γ1 (hbB g gs x.1++[.abs (fctRep x.2.2)]) w':=by
 have hpt:(r.phase=0)=True:=eq_true hp
 refine Cy (n:=48) (ι:=HbR×SlV SnR×List Fct) (HTellQ Fs ({r with phase:=1}:HbR).s ({r with phase:=1}:HbR).s.again) (fun x=>.x (.a (.v x.2.1.val))) (fun x=>hbB g gs x.1++[.abs (fctRep x.2.2)]) func97 rfl ntmps97 [.x (.a (.p 0 0))] (hS.fct0 (Ar g gs r)) (by show 1≤48;omega) ?_
 unfold hbB hbA
 simp (maxSteps:=10^6) only[hpt,undef,push_cast,↓reduceIte,reduceCtorEq,Nat.reduceLT,Nat.reduceAdd]
 (repeat (refine And.intro (by first|omega|decide) ?_))
 refine Am rfl Md rfl (Ox (k:=1) rfl ok.ty) (Aa rfl) ?_
 rw[h1]
 simp (maxSteps:=10^6) only[undef,push_cast,↓reduceIte,reduceCtorEq,Nat.reduceLT,Nat.reduceAdd]
 (repeat (refine And.intro (by first|omega|decide) ?_))
 refine Gp [19] ?_
 simp (maxSteps:=10^6) only[push_cast,↓reduceIte]
 obtain⟨r1,hr1⟩:∃r1:HbR,r1={r with phase:=1}:=⟨_,rfl⟩
 have ok1:HbOk Fs r1:=by rw[hr1];exact⟨ok.above,ok.under,ok.next,ok.ty,ok.sm,ok.few,ok.fine⟩
 rw[←hr1]
 refine C9 (ι:=HbR×SlV SnR×List Fct) (A:=hbB g gs r1) (M:=[.abs (fctRep [])]) (g:=g) (t:=149) (c:=.c (hbA r1)) (l:=[]) 0 (HTellQ Fs r1.s r1.s.again) (fun x=>.x (.a (.v x.2.1.val))) (fun x=>hbB g gs x.1) (fun x=>x.2.2) (by rw[hr1];rfl) rfl rfl (fun x _=>⟨_,rfl⟩) (fun x _=>rfl) rfl Vi rfl (fun γ' w' hS' hg=>?_) (fun _ _=>rfl) (Aa rfl) (Ar g gs r1) (fun x _=>Ar g gs x.1) (by simp (maxSteps:=10^6) only[↓Ae,↓List.forall_mem_cons,push_cast,Nat.reduceLT,Nat.reduceAdd]) (by
  show ∀x∈_,Sv.av 6 _
  simp (maxSteps:=10^6) only[↓List.forall_mem_cons,push_cast,Nat.reduceLeDiff]) (by
  show ∀x∈_,Res.av 6 _
  simp (maxSteps:=10^6) only[↓List.forall_mem_cons,push_cast]) ?_
 ·have:=Xg (hS'.frontA (Ar g gs r1)) (D3 (A:=hbB g gs r1) hS' hw) ok1
  show Calls _ _ #[.pointer (some ⟨nmB γ' 0,0,none⟩)] w' _
  rw[hg]
  exact this
 rintro⟨r2,out,G2⟩ ⟨t1,t2,t3,t4,t5⟩
 dsimp only at t1 t2 t3 t4 t5
 unfold hbB hbA
 simp (maxSteps:=10^6) only[push_cast,↓reduceIte,Nat.reduceLT,Nat.reduceAdd]
 refine⟨(r2,out,G2),⟨t1,t2,t3,t4,t5⟩,A6 [0,1,2,3,4,5,6] ?_⟩
 simp (maxSteps:=10^6) only[↓Ae,↓Aw,↓List.forall_mem_cons,push_cast,↓reduceIte,reduceCtorEq,Nat.reduceEqDiff,Nat.reduceLT,Nat.reduceAdd]
set_option maxRecDepth 100000 in
theorem Ayy (hS:Sat w B γ (hbB g gs r) w) (ok:HbOk Fs r) (h1:¬r.phase=0∨(r.phase=0∧¬r.ty.t.st=1∧¬r.ty.t.st=2)):
  Calls prog 97 (List.map (Sv.val (γ++[.m (.bool true) (fun _=>False)])) [.x (.a (.p 0 0))]).toArray w fun e w'=>∃(_:Unit) (γ1:List Nm),True∧e=.returned ((Sv.x (.a (.v (.slice none 0 0)))).val γ1)∧Sat w B γ1 (hbB g gs r++[.abs (fctRep [])]) w':=by
 refine Cy (n:=48) (ι:=Unit) (fun _=>True) (fun x=>.x (.a (.v (.slice none 0 0)))) (fun x=>hbB g gs r++[.abs (fctRep [])]) func97 rfl ntmps97 [.x (.a (.p 0 0))] (hS.fct0 (Ar g gs r)) (by show 1≤48;omega) ?_
 unfold hbB hbA
 rcases h1 with hp|⟨hp,h2,h3⟩
 ·simp (maxSteps:=10^6) only[hp,undef,push_cast,↓reduceIte,reduceCtorEq,Nat.reduceLT,Nat.reduceAdd]
  refine⟨(),A6 [0,1,2,3,4,5,6] ?_⟩
  simp (maxSteps:=10^6) only[↓Ae,↓Aw,↓List.forall_mem_cons,push_cast,↓reduceIte,reduceCtorEq,Nat.reduceEqDiff,Nat.reduceLT,Nat.reduceAdd]
 ·have hpt:(r.phase=0)=True:=eq_true hp
  simp (maxSteps:=10^6) only[hpt,undef,push_cast,↓reduceIte,reduceCtorEq,Nat.reduceLT,Nat.reduceAdd]
  (repeat (refine And.intro (by first|omega|decide) ?_))
  refine Am rfl Md rfl (Ox (k:=1) rfl ok.ty) (Aa rfl) ?_
  simp (maxSteps:=10^6) only[h2,h3,push_cast,↓reduceIte,Nat.reduceEqDiff,Nat.reduceLT,Nat.reduceAdd]
  refine⟨(),A6 [0,1,2,3,4,5,6] ?_⟩
  simp (maxSteps:=10^6) only[↓Ae,↓Aw,↓List.forall_mem_cons,push_cast,↓reduceIte,reduceCtorEq,Nat.reduceEqDiff,Nat.reduceLT,Nat.reduceAdd]
set_option maxRecDepth 100000 in
theorem Ayz (hS:Sat w B γ (hbB g gs r) w) (ok:HbOk Fs r) (hp:r.phase=0) (h1:r.ty.t.st=2) (h2:r.parent < 0):
  Calls prog 97 (List.map (Sv.val (γ++[.m (.bool true) (fun _=>False)])) [.x (.a (.p 0 0))]).toArray w fun e w'=>∃(_:Unit) (γ1:List Nm),True∧e=.returned ((Sv.x (.a (.v (.slice none 0 0)))).val γ1)∧Sat w B γ1 (hbB g gs {r with phase:=2}++[.abs (fctRep [])]) w':=by
 refine Cy (n:=48) (ι:=Unit) (fun _=>True) (fun x=>.x (.a (.v (.slice none 0 0)))) (fun x=>hbB g gs {r with phase:=2}++[.abs (fctRep [])]) func97 rfl ntmps97 [.x (.a (.p 0 0))] (hS.fct0 (Ar g gs r)) (by show 1≤48;omega) ?_
 have np:¬0≤r.parent:=by omega
 have hpt:(r.phase=0)=True:=eq_true hp
 unfold hbB hbA
 simp (maxSteps:=10^6) only[hpt,undef,push_cast,↓reduceIte,reduceCtorEq,Nat.reduceLT,Nat.reduceAdd]
 (repeat (refine And.intro (by first|omega|decide) ?_))
 refine Am rfl Md rfl (Ox (k:=1) rfl ok.ty) (Aa rfl) ?_
 rw[h1]
 simp (maxSteps:=10^6) only[np,undef,push_cast,↓reduceIte,reduceCtorEq,Nat.reduceEqDiff,Nat.reduceLT,Nat.reduceAdd,Int.reduceEq]
 refine⟨(),A6 [0,1,2,3,4,5,6] ?_⟩
 simp (maxSteps:=10^6) only[↓Ae,↓Aw,↓List.forall_mem_cons,push_cast,↓reduceIte,reduceCtorEq,Nat.reduceEqDiff,Nat.reduceLT,Nat.reduceAdd]
theorem Xh (hS:Sat w B γ (hbB g gs r) w) (hw:Known w B Fs) (ok:HbOk Fs r):Xf 97 [] Fs r.s.on.1 r.s.on.2 g gs w B:=by
 by_cases h1:r.phase=0∧r.ty.t.st=1
 ·have e0:r.s.on=(({r with phase:=1}:HbR).s,({r with phase:=1}:HbR).s.again):=if_pos h1
  have:=Ayx hS hw ok h1.1 h1.2
  rw[Fe hS [] (fun x hx=>by cases hx) γ] at this
  rw[e0]
  exact this.mono fun e w' ⟨x,γ1,h⟩=>⟨x,γ1,h⟩
 by_cases h2:r.phase=0∧r.ty.t.st=2
 ·have e0:r.s.on=(({r with phase:=2}:HbR).s,if 0≤r.parent then [⟨false,r.parent,{D1 17 with ge:=r.gen,ids:=[r.place]}⟩] else []):=(if_neg (show ¬(r.s.phase=0∧r.s.tally.st=1) from h1)).trans (if_pos (show r.s.phase=0∧r.s.tally.st=2 from h2))
  have ok1:∀Gs:List Fct,HbOk (Fs++Gs) ({r with phase:=2}:HbR):=fun Gs=>by
   have ok':=ok.more (Gs:=Fs++Gs) fun f hf=>List.mem_append_left _ hf
   exact⟨ok'.above,ok'.under,ok'.next,ok'.ty,ok'.sm,ok.few,ok.fine⟩
  rw[e0]
  by_cases h3:0≤r.parent
  ·rw[if_pos h3]
   have:=Ayw hS ok h2.1 h2.2 h3
   rw[Fe hS [] (fun x hx=>by cases hx) γ] at this
   refine this.mono fun e w' ⟨A,γ1,_,he,hS1⟩=>?_
   have hL:∀y∈[SnR.mk false r.parent (Hh r.gen r.place A)],MOk [⟨.slice A 1 1,1,[.int .i64 r.place]⟩] y.m:=fun y hy=>by
    rw[List.mem_singleton.1 hy]
    exact⟨rfl,.inr (List.mem_singleton.2 rfl),.inl rfl,.inl rfl,.inl rfl,⟨rfl,by show 1≤1000;omega,Nat.zero_le _,Nat.zero_le _,Nat.zero_le _⟩⟩
   obtain⟨A1,cap,γ',e1,e2,eB,eS,h5⟩:=hS1.onnF (j:=7) (k:=6) (vs:=[SnR.mk false r.parent (Hh r.gen r.place A)].flatMap snV) (n:=1) (l:=[⟨.slice A 1 1,1,[.int .i64 r.place]⟩]) rfl rfl (by decide) (I6 γ1 _) (Id fun y hy=>(hL y hy).s)
   have h6:Sat w B γ' ((hbB g gs {r with phase:=2}++[.abs (fctRep ([⟨.slice A 1 1,1,[.int .i64 r.place]⟩]++[⟨.slice A1 1 cap,1,[SnR.mk false r.parent (Hh r.gen r.place A)].flatMap snV⟩]))])++[.gone]) w':=h5
   refine⟨({r with phase:=2},⟨A1,cap,[SnR.mk false r.parent (Hh r.gen r.place A)]⟩,[⟨.slice A 1 1,1,[.int .i64 r.place]⟩]++[⟨.slice A1 1 cap,1,[SnR.mk false r.parent (Hh r.gen r.place A)].flatMap snV⟩]),_,⟨rfl,rfl,ok1 _,OutOk.of hL (by show 1≤1000;omega),fun h=>by cases h⟩,?_,h6.frontOf (M1 g gs _ _)⟩
   rw[he]
   show Ending.returned (nmS γ1 7)=_
   rw[e1]
   rfl
  ·rw[if_neg h3]
   have:=Ayz hS ok h2.1 h2.2 (by omega)
   rw[Fe hS [] (fun x hx=>by cases hx) γ] at this
   refine this.mono fun e w' ⟨_,γ1,_,he,hS1⟩=>?_
   exact⟨({r with phase:=2},⟨none,0,[]⟩,[]),γ1,⟨rfl,rfl,ok1 _,D4 _,fun _=>rfl⟩,he,hS1⟩
 have e0:r.s.on=(r.s,[]):=(if_neg (show ¬(r.s.phase=0∧r.s.tally.st=1) from h1)).trans (if_neg (show ¬(r.s.phase=0∧r.s.tally.st=2) from h2))
 have:=Ayy hS ok (by
  by_cases hp:r.phase=0
  ·exact .inr ⟨hp,fun e=>h1 ⟨hp,e⟩,fun e=>h2 ⟨hp,e⟩⟩
  ·exact .inl hp)
 rw[Fe hS [] (fun x hx=>by cases hx) γ] at this
 rw[e0]
 refine this.mono fun e w' ⟨_,γ1,_,he,hS1⟩=>?_
 exact⟨(r,⟨none,0,[]⟩,[]),γ1,⟨rfl,rfl,by rw[List.append_nil];exact ok,D4 _,fun _=>rfl⟩,he,hS1⟩
end
end Go.Proofs.YtedaafmfjhjfmaaGreatDoor
