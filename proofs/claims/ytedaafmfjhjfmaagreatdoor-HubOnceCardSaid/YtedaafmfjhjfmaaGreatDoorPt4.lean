import Derived.Test.YtedaafmfjhjfmaaGreatDoorLwA
import Derived.Test.YtedaafmfjhjfmaaGreatDoorLwI
import Derived.Test.YtedaafmfjhjfmaaGreatDoorRg
/- Layer 29 walked: Take. -/
namespace Go.Proofs.YtedaafmfjhjfmaaGreatDoor
open _root_.Go.Proofs.Tryz
open Go.RowKit
set_option linter.unusedSimpArgs false
set_option linter.unusedVariables false
attribute [local irreducible] Ac Ad Ah Au Ao Aj Ai Al
attribute [local irreducible] okV Bq Sms.may Sms.takeE
theorem Wv:L2 prog 48 (.g (mgA zeroR))=True:=
 eq_true ⟨.agg ([Value.int .u8 0,.int .i64 0,.int .i64 0,.int .i64 0,.int .i64 0,.int .u64 0]++(List.replicate 32 (Value.int .u8 0)++[Value.slice none 0 0,.slice none 0 0,.slice none 0 0,.slice none 0 0,.int .i64 0])).toArray,by kernel_rfl,fun _=>rfl⟩
theorem Aws {r:SmR} {m:MgR} {Fs:List Fct} {g:Nat} {M:List Res} {w0:World} {B:Nat→Prop} (ok:SmOk Fs r) (hw:Known w0 B Fs) (hm:MgF m w0 B):
  Ad prog w0 B 71 [.x (.a (.p 0 0)),.x (.g (mgA m))] (smB g r++M) (.x (.a (.v (.bool (r.s.may m.mg))))) (smB g r++M):=Bc fun γ w hS=>by
 obtain⟨e1,h1⟩:=Aug hS (ok.sp (Ow (B:=No) hS hw (fun b h=>h.elim)))
 have:=Avy r ⟨g,0,none⟩ m w h1 (hm.ok hS)
 show Calls _ _ #[.pointer (some ⟨nmB γ 0,0,none⟩),(Sv.x (.g (mgA m))).val γ] w _
 rw[e1,Bi]
 exact this
theorem SmOk.heard {Fs:List Fct} {r:SmR} (h:SmOk Fs r) (l:List (Int×Int)):SmOk Fs {r with heard:=l}:=⟨h.spots,h.above,h.clients,h.taken,h.few⟩
theorem Ww {r:SmR} {m:MgS} (h0:¬r.s.may m=false) (h1:¬m.ge < (Az r.heard m.pl).getD 0):r.s.take m={r.s with heard:=Bv r.heard m.pl m.ge,taken:=if r.s.takeE m=0 then Bv (Bw MgR.mg r.taken) m.pl m else Bw MgR.mg r.taken}:=by
 unfold Sms.take
 exact if_neg fun h=>h.elim h0 h1
theorem Wx {r:SmR} {m:MgS} (h0:¬r.s.may m=false) (h1:¬m.ge < (Az r.heard m.pl).getD 0):r.s.takeE m=if (Az (Bw MgR.mg r.taken) m.pl).isSome=true then 8 else if (Bw MgR.mg r.taken).any (fun t=>E0 t.2 m)=true then 11 else 0:=by
 unfold Sms.takeE
 rw[if_neg h0]
 exact if_neg h1
theorem Ad7 (l:List (Int×MgR)) (f:MgS→Bool):(Bw MgR.mg l).any (fun t=>f t.2)=l.any fun t=>f t.2.mg:=by
 unfold Bw
 rw[List.any_map]
 rfl
theorem O3 (l:List (Int×MgR)):Mv (mgE l):=fun p hp γ=>by
 obtain⟨q,_,rfl⟩:=List.mem_map.1 hp
 have:=Sa q.2 γ []
 exact this
theorem Lh {Fs:List Fct} {m:MgR} {w:World} {B:Nat→Prop} (h:MOk Fs m) (hk:Known w B Fs):MgF m w B:=
 ⟨h.few,hk.fw h.ids (fun e=>by rw[e];rfl),hk.fw h.ns (fun e=>by rw[e];rfl),hk.fw h.ps (fun e=>by rw[e];rfl),hk.fw h.xs (fun e=>by rw[e];rfl)⟩
theorem Awt {w0:World} {ow:Nat→Prop} {hp:List Res} {A:Option Addr} {vs:List Value} {n c:Nat} (h:FW w0 ow A vs) (hc:n≤c):Hx w0 ow hp (.x (.a (.v (.slice A n c)))) n vs:=fun γ w hS=>by
 obtain⟨A',c',e,_,h3⟩:=Dq (hp:=hp) h vs.length vs.length rfl (Nat.le_refl _) γ w hS
 have e:Value.slice A vs.length vs.length=.slice A' vs.length c':=e
 injection e with e1 _ _
 subst e1
 exact⟨A,c,rfl,hc,h3⟩
theorem Ad8 {a b:MgR} {hp:List Res} {w0:World} {B:Nat→Prop} (ha:MgF a w0 B) (hb:MgF b w0 B):
  Ad prog w0 B 72 [.x (.g (mgA a)),.x (.g (mgA b))] hp (.x (.a (.v (.bool (E0 a.mg b.mg))))) hp:=Bc fun γ w hS=>by
 have:=Avz a b w (ha.ok hS) (hb.ok hS)
 show Calls _ _ #[(Sv.x (.g (mgA a))).val γ,(Sv.x (.g (mgA b))).val γ] w _
 rw[Bi,Bi]
 exact this
theorem Awu {l:List (Int×MgR)} {i:Nat} {p:Int×Sc} (h:(mgE l)[i]?=some p):∃q,l[i]?=some q∧p=(q.1,.g (mgA q.2)):=by
 unfold mgE at h
 rw[List.getElem?_map] at h
 cases hq:l[i]? with
 |none=>rw[hq] at h;cases h
 |some q=>
  rw[hq] at h
  exact⟨q,rfl,(Option.some.inj h).symm⟩
theorem Ad9:∀{n:Nat} {l:List Nat},l.Nodup→(∀i∈l,i < n)→l.length≤n
 |0,l,_,h=>by
  cases l with
  |nil=>exact Nat.le_refl _
  |cons a l=>exact absurd (h a (List.mem_cons_self ..)) (Nat.not_lt_zero _)
 |n+1,l,hd,h=>by
  have h2:=Ad9 (n:=n) (l:=l.erase n) (hd.erase n) fun i hi=>by
   have h3:=h i (List.mem_of_mem_erase hi)
   have h4:i≠n:=fun e=>by
    subst e
    exact (List.Nodup.not_mem_erase hd) hi
   omega
  have:=List.length_erase_le (a:=n) (l:=l)
  by_cases hn:n∈l
  ·have:=List.length_erase_of_mem hn
   omega
  ·rw[List.erase_of_not_mem hn] at h2
   omega
def Wy (Fs:List Fct) (r:SmR) (m:MgS) (x:SmR×List Fct):Prop:=x.1.s=r.s.take m∧SmOk (Fs++x.2) x.1
set_option maxRecDepth 100000 in
set_option maxHeartbeats 2000000 in
theorem Awv (r:SmR) (m:MgR) {g:Nat} {w:World} {B:Nat→Prop} {γ:List Nm} {Fs:List Fct} (hS:Sat w B γ (smB g r) w) (hw:Known w B Fs) (ok:SmOk Fs r) (hm:MgF m w B):
  Calls prog 24 (List.map (Sv.val (γ++[.m (.bool true) (fun _=>False)])) [.x (.a (.p 0 0)),.x (.g (mgA m))]).toArray w fun e w'=>∃(x:SmR×List Fct) (γ1:List Nm),Wy Fs r m.mg x∧e=.returned ((Sv.x (.a (.v (erV (r.s.takeE m.mg))))).val γ1)∧Sat w B γ1 (smB g x.1++[.abs (fctRep x.2)]) w':=by
 have few:=hm.few
 have vi:m.ids.val=.slice m.ids.A m.ids.l.length m.ids.c:=rfl
 have vn:m.ns.val=.slice m.ns.A m.ns.l.length m.ns.c:=rfl
 have vp:m.ps.val=.slice m.ps.A m.ps.l.length m.ps.c:=rfl
 have vx:m.xs.val=.slice m.xs.A m.xs.l.length m.xs.c:=rfl
 have gm:=Bd (show m.sm.length=32 from few.sm)
 obtain⟨f0,f1,f2,f3,f4,f5,f38,f39,f40,f41,f42⟩:=C8 (show m.sm.length=32 from few.sm)
 refine Cy (n:=84) (ι:=SmR×List Fct) (Wy Fs r m.mg) (fun x=>.x (.a (.v (erV (r.s.takeE m.mg))))) (fun x=>smB g x.1++[.abs (fctRep x.2)]) func24 rfl ntmps24 [.x (.a (.p 0 0)),.x (.g (mgA m))] (hS.fct0 (by unfold smB smA;simp (maxSteps:=10^6) only[↓List.forall_mem_cons,push_cast,Nat.reduceLT,Nat.reduceAdd])) (by simp) ?_
 unfold smB smA
 simp (maxSteps:=10^6) only[gm,↓List.forall_mem_cons,↓A8,↓Be,push_cast,↓reduceIte,reduceCtorEq,Nat.reduceEqDiff,Nat.reduceLT,Nat.reduceAdd]
 (repeat (refine And.intro (by first|omega|decide) ?_))
 refine Am rfl Aol rfl (Aws (g:=g) (M:=[.abs (fctRep []),.blk 48 (.c (mgA m))]) ok hw hm) (Aa rfl) ?_
 have ok0:SmOk (Fs++[]) r:=by rw[List.append_nil];exact ok
 by_cases g0:r.s.may m.mg=false
 ·have e1:r.s.takeE m.mg=13:=by
   unfold Sms.takeE
   exact if_pos g0
  have e2:r.s.take m.mg=r.s:=if_pos (.inl g0)
  have ev:erV 13=.iface 91 (.int .i64 13):=rfl
  simp (maxSteps:=10^6) only[g0,e1,ev,push_cast,↓reduceIte,Nat.reduceLT,Nat.reduceAdd]
  refine⟨(r,[]),⟨e2.symm,ok0⟩,A6 [0,1,2,3] ?_⟩
  simp (maxSteps:=10^6) only[↓List.forall_mem_cons,push_cast,↓reduceIte,reduceCtorEq,Nat.reduceEqDiff,Nat.reduceLT,Nat.reduceAdd]
 have g0t:r.s.may m.mg=true:=by rw[←Bool.not_eq_false];exact g0
 simp (maxSteps:=10^6) only[g0t,push_cast,↓reduceIte,Nat.reduceLT,Nat.reduceAdd]
 (repeat (refine And.intro (by first|omega|decide) ?_))
 refine B3 [(0,true),(1,true),(2,true),(3,true),(4,true),(5,true),(6,true),(7,true),(8,true),(9,true)] (by kernel_rfl) (by kernel_rfl) rfl (by kernel_rfl) ?_
 apply S6 (P:=prog) (w0:=w) (ow:=B) (n:=84) (X:=Unit) (fun _=>¬m.ge < (Az r.heard m.pl).getD 0) (fun _=>⟨[(0,.x (.a (.p 0 0))),(3,.x (.a (.p 4 0)))],[.pin g 120 (.c [.v (.int .i64 r.place),.v (.int .i64 r.dim),.v r.spots.val,.o 1,.o 2]),.mp .i64 (iE r.heard),.mp .i64 (mgE r.taken),.abs (fctRep []),.blk 48 (.c (mgA m))]⟩)
 ·intro J
  have e1:m.ge < (Az r.heard m.pl).getD 0→r.s.takeE m.mg=10:=fun g1=>by
   unfold Sms.takeE
   rw[if_neg g0]
   exact if_pos g1
  have e2:m.ge < (Az r.heard m.pl).getD 0→r.s.take m.mg=r.s:=fun g1=>if_pos (.inr g1)
  have ev:erV 10=.iface 91 (.int .i64 10):=rfl
  have lk:=Auh r.heard m.pl
  cases hh:Az r.heard m.pl with
  |none=>
   rw[hh] at lk e1 e2 J
   have lk:Co (iE r.heard) m.pl=none:=lk
   by_cases g1:m.ge < 0
   ·simp (maxSteps:=10^6) only[lk,g1,e1 g1,ev,gm,f1,f4,undef,push_cast,↓reduceIte,reduceCtorEq,Nat.reduceEqDiff,Nat.reduceLT,Nat.reduceAdd]
    refine⟨(r,[]),⟨(e2 g1).symm,ok0⟩,A6 [0,1,2,3] ?_⟩
    simp (maxSteps:=10^6) only[↓List.forall_mem_cons,push_cast,↓reduceIte,reduceCtorEq,Nat.reduceEqDiff,Nat.reduceLT,Nat.reduceAdd]
   ·have J:=J () g1
    simp (maxSteps:=10^6) only[lk,g1,gm,f1,f4,undef,push_cast,↓reduceIte,reduceCtorEq,Nat.reduceEqDiff,Nat.reduceLT,Nat.reduceAdd]
    refine Hw [0,3] ?_
    simp (maxSteps:=10^6) only[push_cast,↓reduceIte,reduceCtorEq,Nat.reduceEqDiff]
    exact J
  |some h0=>
   rw[hh] at lk e1 e2 J
   have lk:Co (iE r.heard) m.pl=some (.a (.v (.int .i64 h0))):=lk
   by_cases g1:m.ge < h0
   ·simp (maxSteps:=10^6) only[lk,g1,e1 g1,ev,gm,f1,f4,undef,push_cast,↓reduceIte,reduceCtorEq,Nat.reduceEqDiff,Nat.reduceLT,Nat.reduceAdd]
    refine⟨(r,[]),⟨(e2 g1).symm,ok0⟩,A6 [0,1,2,3] ?_⟩
    simp (maxSteps:=10^6) only[↓List.forall_mem_cons,push_cast,↓reduceIte,reduceCtorEq,Nat.reduceEqDiff,Nat.reduceLT,Nat.reduceAdd]
   ·have J:=J () g1
    simp (maxSteps:=10^6) only[lk,g1,gm,f1,f4,undef,push_cast,↓reduceIte,reduceCtorEq,Nat.reduceEqDiff,Nat.reduceLT,Nat.reduceAdd]
    refine Hw [0,3] ?_
    simp (maxSteps:=10^6) only[push_cast,↓reduceIte,reduceCtorEq,Nat.reduceEqDiff]
    exact J
 rintro _ g1
 refine Ha 8 [(0,true),(1,true),(2,true),(3,true),(4,true),(5,true),(6,true),(7,true)] (by kernel_rfl) (by kernel_rfl) ?_
 have ip:=Aui r.heard m.pl m.ge
 simp (maxSteps:=10^6) only[ip,gm,f1,f4,undef,push_cast,↓reduceIte,reduceCtorEq,Nat.reduceEqDiff,Nat.reduceLT,Nat.reduceAdd]
 refine Hw [0,3] ?_
 simp (maxSteps:=10^6) only[push_cast,↓reduceIte,reduceCtorEq,Nat.reduceEqDiff]
 have lk:=Adh r.taken m.pl
 cases hh:Az r.taken m.pl with
 |some t0=>
  rw[hh] at lk
  have lk:Co (mgE r.taken) m.pl=some (.g (mgA t0)):=lk
  have l0:=Bd (ok.taken _ (Sp hh)).s
  have dz:(mgA zeroR).drop 43=[]:=rfl
  refine Mq 5 [] 12 (.rd 0 (.rd 1 (.rd 2 (.rd 3 (.rd 4 (.rd 5 (.rd 6 (.rd 7 (.rd 8 (.rd 9 (.wr 10 (.wr 11 .nil)))))))))))) ⟨[(0,.x (.a (.p 0 0))),(3,.x (.a (.p 4 0))),(5,.x (.a (.p 5 0))),(45,.x (.a (.v (.bool true))))],[.pin g 120 (.c [.v (.int .i64 r.place),.v (.int .i64 r.dim),.v r.spots.val,.o 1,.o 2]),.mp .i64 (iE (Bv r.heard m.pl m.ge)),.mp .i64 (mgE r.taken),.abs (fctRep []),.blk 48 (.c (mgA m)),.blk 48 (.c (mgA t0))]⟩ (by kernel_rfl) (by kernel_rfl) (Nat.le_refl 5) ?_ ?_
  ·simp (maxSteps:=10^6) only[lk,l0,Bo,B9,Wv,Br,B0,gm,f1,undef,↓List.forall_mem_cons,↓mgA_one,↓Ag,↓A8,push_cast,↓reduceIte,reduceCtorEq,Nat.reduceEqDiff,Nat.reduceLT,Nat.reduceAdd,Nat.reduceSub]
   refine Cn [0,1,2,3,4,5] ?_
   simp (maxSteps:=10^6) only[↓List.forall_mem_cons,↓Ag,↓Ay,push_cast,↓reduceIte,reduceCtorEq,Nat.reduceEqDiff,Nat.reduceLT,Nat.reduceAdd]
  have e1:r.s.takeE m.mg=8:=by
   rw[Wx g0 g1]
   refine if_pos ?_
   rw[Oy]
   show ((Az r.taken m.pl).map _).isSome=true
   rw[hh]
   rfl
  have e2:=Ww g0 g1
  rw[e1,if_neg (by decide)] at e2
  have ev:erV 8=.iface 91 (.int .i64 8):=rfl
  rw[e1]
  simp (maxSteps:=10^6) only[ev,push_cast,↓reduceIte,reduceCtorEq,Nat.reduceEqDiff,Nat.reduceLT,Nat.reduceAdd]
  refine⟨({r with heard:=Bv r.heard m.pl m.ge},[]),⟨e2.symm,ok0.heard _⟩,A6 [0,1,2,3] ?_⟩
  simp (maxSteps:=10^6) only[↓List.forall_mem_cons,push_cast,↓reduceIte,reduceCtorEq,Nat.reduceEqDiff,Nat.reduceLT,Nat.reduceAdd]
 |none=>
  rw[hh] at lk
  have lk:Co (mgE r.taken) m.pl=none:=lk
  have dz:(mgA zeroR).drop 43=[]:=rfl
  have zb:=fun n=>Bm zeroR n
  simp only[At.bnd] at zb
  refine Mq 5 [] 12 (.rd 0 (.rd 1 (.rd 2 (.rd 3 (.rd 4 (.rd 5 (.rd 6 (.rd 7 (.rd 8 (.rd 9 (.wr 10 (.wr 11 .nil)))))))))))) ⟨[(0,.x (.a (.p 0 0))),(3,.x (.a (.p 4 0))),(5,.x (.a (.p 5 0))),(45,.x (.a (.v (.bool false))))],[.pin g 120 (.c [.v (.int .i64 r.place),.v (.int .i64 r.dim),.v r.spots.val,.o 1,.o 2]),.mp .i64 (iE (Bv r.heard m.pl m.ge)),.mp .i64 (mgE r.taken),.abs (fctRep []),.blk 48 (.c (mgA m)),.blk 48 (.c (mgA zeroR))]⟩ (by kernel_rfl) (by kernel_rfl) (Nat.le_refl 5) ?_ ?_
  ·simp (maxSteps:=10^6) only[lk,Bo,B9,Wv,Br,B0,gm,f1,undef,↓List.forall_mem_cons,↓mgA_one,↓Ag,↓A8,push_cast,↓reduceIte,reduceCtorEq,Nat.reduceEqDiff,Nat.reduceLT,Nat.reduceAdd,Nat.reduceSub]
   refine Cn [0,1,2,3,4,5] ?_
   simp (maxSteps:=10^6) only[↓List.forall_mem_cons,↓Ag,↓Ay,push_cast,↓reduceIte,reduceCtorEq,Nat.reduceEqDiff,Nat.reduceLT,Nat.reduceAdd]
  simp (maxSteps:=10^6) only[undef,push_cast,↓reduceIte,reduceCtorEq,Nat.reduceEqDiff,Nat.reduceLT,Nat.reduceAdd]
  refine Gp [0,3,51] ?_
  simp (maxSteps:=10^6) only[push_cast,↓reduceIte,reduceCtorEq,Nat.reduceEqDiff]
  refine Awo (k:=2) (q:=.i64) (l:=mgE r.taken) rfl rfl rfl underlying117 (O3 _) (Aa rfl) fun g1' it=>?_
  have hlen:(mgE r.taken).length=r.taken.length:=List.length_map ..
  simp (maxSteps:=10^6) only[push_cast]
  refine Bj (ι:=List Nat) (fun seen=>⟨[(0,.x (.a (.p 0 0))),(3,.x (.a (.p 4 0))),(52,.x (.a (.v (.pointer (some ⟨it,0,none⟩)))))],[.pin g 120 (.c [.v (.int .i64 r.place),.v (.int .i64 r.dim),.v r.spots.val,.o 1,.o 2]),.mp .i64 (iE (Bv r.heard m.pl m.ge)),.abs (Ja .i64 (mgE r.taken) g1' it seen),.abs (fctRep []),.blk 48 (.c (mgA m))]⟩)
   (fun seen=>seen.Nodup∧∀i∈seen,∃q,r.taken[i]?=some q∧E0 q.2.mg m.mg=false) (fun seen=>r.taken.length - seen.length) [] [0,1,2,3,4] ⟨List.nodup_nil,fun i hi=>by cases hi⟩ ?_ ?_
  ·simp (maxSteps:=10^6) only[↓List.forall_mem_cons,↓Ag,↓Ay,push_cast,↓reduceIte,reduceCtorEq,Nat.reduceEqDiff,Nat.reduceLT,Nat.reduceAdd]
  rintro seen ⟨n1,n2⟩
  simp (maxSteps:=10^6) only[push_cast,↓reduceIte]
  (repeat (refine And.intro (by first|omega|decide) ?_))
  refine Awq (k:=2) (q:=.i64) (l:=mgE r.taken) rfl rfl rfl (O3 _) (Aa rfl) (fun hall=>?_) (fun i p hp hns=>?_)
  ·rw[hlen] at hall
   have e1:r.s.takeE m.mg=0:=by
    rw[Wx g0 g1,Oy,if_neg (by show ¬((Az r.taken m.pl).map _).isSome=true;rw[hh];decide)]
    refine if_neg fun h=>?_
    rw[Ad7 r.taken fun t=>E0 t m.mg,List.any_eq_true] at h
    obtain⟨q,hq,hm2⟩:=h
    obtain⟨i,hi⟩:=List.getElem?_of_mem hq
    obtain⟨q',h1,h2⟩:=n2 i (hall i (List.getElem?_eq_some_iff.1 hi).1)
    rw[hi] at h1
    cases h1
    rw[h2] at hm2
    cases hm2
   have e2:=Ww g0 g1
   rw[e1,if_pos rfl] at e2
   have ev:erV 0=.nilIface:=rfl
   rw[e1]
   simp (maxSteps:=10^6) only[gm,f38,vi,undef,push_cast,↓reduceIte,reduceCtorEq,Nat.reduceEqDiff,Nat.reduceLT,Nat.reduceAdd]
   (repeat (refine And.intro (by first|omega|decide) ?_))
   refine Gb (Ad6 (k:=2) rfl (O3 _)) ?_
   have z0:m.sm.length=32:=few.sm
   simp (maxSteps:=10^6) only[push_cast]
   refine Ic 3 (vs:=m.ids.l.map (Value.int .i64)) rfl rfl Ve rfl (Adg (l:=m.ids.l) few.ids (Dq hm.ids.2 _ _ (by simp) hm.ids.1)) (Aa rfl) (by simp (maxSteps:=10^6) only[↓List.forall_mem_cons,↓Ag,push_cast,Nat.reduceLT,Nat.reduceAdd]) ?_
   intro A1 cap1 b1 _
   have s1:(mgA m).set 38 (.v (.slice A1 m.ids.l.length cap1))=mgA {m with ids:=⟨A1,cap1,m.ids.l⟩}:=(Ss z0).1 ⟨A1,cap1,m.ids.l⟩
   obtain⟨m1,hm1⟩:∃m1,m1={m with ids:=⟨A1,cap1,m.ids.l⟩}:=⟨_,rfl⟩
   rw[←hm1] at s1
   have z1:m1.sm.length=32:=by rw[hm1];exact z0
   have q1:∀d,(mgA m1).getD 39 d=.v m.ns.val:=fun d=>by
    have:=(C8 z1).2.2.2.2.2.2.2.1 d
    rw[this]
    simp only[hm1]
   have l1:=Bd z1
   simp (maxSteps:=10^6) only[s1,l1,q1,vn,List.length_map,gm,undef,push_cast,↓reduceIte,reduceCtorEq,Nat.reduceEqDiff,Nat.reduceLT,Nat.reduceAdd]
   (repeat (refine And.intro (by first|omega|decide) ?_))
   refine Ic 3 (vs:=m.ns.l.map vU64) rfl rfl Aof rfl (Aud (l:=m.ns.l) few.ns (Dq hm.ns.2 _ _ (by simp) hm.ns.1)) (Aa rfl) (by simp (maxSteps:=10^6) only[↓List.forall_mem_cons,↓Ag,push_cast,Nat.reduceLT,Nat.reduceAdd]) ?_
   intro A2 cap2 b2 _
   have s2:(mgA m1).set 39 (.v (.slice A2 m.ns.l.length cap2))=mgA {m1 with ns:=⟨A2,cap2,m.ns.l⟩}:=(Ss z1).2.1 ⟨A2,cap2,m.ns.l⟩
   obtain⟨m2,hm2⟩:∃m2,m2={m1 with ns:=⟨A2,cap2,m.ns.l⟩}:=⟨_,rfl⟩
   rw[←hm2] at s2
   have z2:m2.sm.length=32:=by rw[hm2];exact z1
   have q2:∀d,(mgA m2).getD 40 d=.v m.ps.val:=fun d=>by
    have:=(C8 z2).2.2.2.2.2.2.2.2.1 d
    rw[this]
    simp only[hm2,hm1]
   have l2:=Bd z2
   simp (maxSteps:=10^6) only[s2,l2,l1,q2,vp,List.length_map,undef,push_cast,↓reduceIte,reduceCtorEq,Nat.reduceEqDiff,Nat.reduceLT,Nat.reduceAdd]
   (repeat (refine And.intro (by first|omega|decide) ?_))
   refine Auc 3 (n':=m.ps.l.length) (vs:=pvs m.ps.l) rfl rfl Aom rfl (Auf (l:=m.ps.l) few.ps (Awt hm.ps.2 hm.ps.1)) (fun γ=>Vz γ _) (Oc _) (Aa rfl) (by simp (maxSteps:=10^6) only[↓List.forall_mem_cons,↓Ag,push_cast,Nat.reduceLT,Nat.reduceAdd]) ?_
   intro A3 cap3 b3
   have s3:(mgA m2).set 40 (.v (.slice A3 m.ps.l.length cap3))=mgA {m2 with ps:=⟨A3,cap3,m.ps.l⟩}:=(Ss z2).2.2.1 ⟨A3,cap3,m.ps.l⟩
   obtain⟨m3,hm3⟩:∃m3,m3={m2 with ps:=⟨A3,cap3,m.ps.l⟩}:=⟨_,rfl⟩
   rw[←hm3] at s3
   have z3:m3.sm.length=32:=by rw[hm3];exact z2
   have q3:∀d,(mgA m3).getD 41 d=.v m.xs.val:=fun d=>by
    have:=(C8 z3).2.2.2.2.2.2.2.2.2.1 d
    rw[this]
    simp only[hm3,hm2,hm1]
   have l3:=Bd z3
   simp (maxSteps:=10^6) only[s3,l3,l2,q3,vx,undef,push_cast,↓reduceIte,reduceCtorEq,Nat.reduceEqDiff,Nat.reduceLT,Nat.reduceAdd]
   (repeat (refine And.intro (by first|omega|decide) ?_))
   refine Ic 3 (vs:=m.xs.l.map Ap) rfl rfl Aon rfl (Aue (l:=m.xs.l) few.xs (Dq hm.xs.2 _ _ (by simp) hm.xs.1)) (Aa rfl) (by simp (maxSteps:=10^6) only[↓List.forall_mem_cons,↓Ag,push_cast,Nat.reduceLT,Nat.reduceAdd]) ?_
   intro A4 cap4 b4 _
   have s4:(mgA m3).set 41 (.v (.slice A4 m.xs.l.length cap4))=mgA {m3 with xs:=⟨A4,cap4,m.xs.l⟩}:=(Ss z3).2.2.2 ⟨A4,cap4,m.xs.l⟩
   obtain⟨m4,hm4⟩:∃m4,m4={m3 with xs:=⟨A4,cap4,m.xs.l⟩}:=⟨_,rfl⟩
   rw[←hm4] at s4
   have z4:m4.sm.length=32:=by rw[hm4];exact z3
   have l4:=Bd z4
   simp (maxSteps:=10^6) only[s4,l3,List.length_map,undef,push_cast,↓reduceIte,reduceCtorEq,Nat.reduceEqDiff,Nat.reduceLT,Nat.reduceAdd]
   (repeat (refine And.intro (by first|omega|decide) ?_))
   have f14:∀d,(mgA m4).getD 1 d=.v (.int .i64 m.pl):=fun d=>by
    have:=(C8 z4).2.1 d
    rw[this]
    simp only[hm4,hm3,hm2,hm1]
   have ip2:=Auj r.taken m.pl m4
   refine Ha 7 [(0,true),(1,true),(2,true),(3,true),(4,true),(5,true),(6,true)] (by kernel_rfl) (by kernel_rfl) ?_
   simp (maxSteps:=10^6) only[f14,ip2,l4,undef,push_cast,↓reduceIte,reduceCtorEq,Nat.reduceEqDiff,Nat.reduceLT,Nat.reduceAdd]
   refine⟨({r with heard:=Bv r.heard m.pl m.ge,taken:=Bv r.taken m.pl m4},[⟨.slice A1 m.ids.l.length cap1,m.ids.l.length,m.ids.l.map (Value.int .i64)⟩,⟨.slice A2 m.ns.l.length cap2,m.ns.l.length,m.ns.l.map vU64⟩,⟨.slice A3 m.ps.l.length cap3,m.ps.l.length,pvs m.ps.l⟩,⟨.slice A4 m.xs.l.length cap4,m.xs.l.length,m.xs.l.map Ap⟩]),⟨?_,ok0.spots.more fun f hf=>?_,fun x hx=>(ok0.above x hx).more fun f hf=>?_,fun x hx=>(ok0.clients x hx).more fun f hf=>?_,fun p hp=>?_,ok.few⟩,A6 [0,1,2,3] ?_⟩
   ·rw[e2]
    have em:m4.mg=m.mg:=by
     rw[hm4,hm3,hm2,hm1]
     rfl
    show Sms.mk _ _ _ _ (Bw MgR.mg (Bv r.taken m.pl m4))=Sms.mk _ _ _ _ _
    rw[Adc,em]
    rfl
   ·rw[List.append_nil] at hf;exact List.mem_append_left _ hf
   ·rw[List.append_nil] at hf;exact List.mem_append_left _ hf
   ·rw[List.append_nil] at hf;exact List.mem_append_left _ hf
   ·rcases Add hp with h|h
    ·rw[h]
     refine⟨z4,.inr (List.mem_append_right _ ?_),.inr (List.mem_append_right _ ?_),.inr (List.mem_append_right _ ?_),.inr (List.mem_append_right _ ?_),?_⟩
     ·simp only[hm4,hm3,hm2,hm1];exact List.mem_cons_self ..
     ·simp only[hm4,hm3,hm2,hm1];exact List.mem_cons_of_mem _ (List.mem_cons_self ..)
     ·simp only[hm4,hm3,hm2,hm1];exact List.mem_cons_of_mem _ (List.mem_cons_of_mem _ (List.mem_cons_self ..))
     ·simp only[hm4,hm3,hm2,hm1];exact List.mem_cons_of_mem _ (List.mem_cons_of_mem _ (List.mem_cons_of_mem _ (List.mem_cons_self ..)))
     ·simp only[hm4,hm3,hm2,hm1];exact few
    ·exact (ok.taken p h).more fun f hf=>List.mem_append_left _ hf
   ·simp (maxSteps:=10^6) only[ev,↓List.forall_mem_cons,push_cast,↓reduceIte,reduceCtorEq,Nat.reduceEqDiff,Nat.reduceLT,Nat.reduceAdd]
  ·obtain⟨q,hq,rfl⟩:=Awu hp
   have hqm:=List.mem_of_getElem? hq
   have hq43:=Bd (ok.taken q hqm).s
   simp (maxSteps:=10^6) only[push_cast,↓reduceIte,Nat.reduceLT,Nat.reduceAdd]
   (repeat (refine And.intro (by first|omega|decide) ?_))
   refine Awr (k:=2) (q:=.i64) (l:=mgE r.taken) rfl rfl rfl hp (O3 _) (Aa rfl) ?_
   simp (maxSteps:=10^6) only[hq43,Bo,B9,Br,B0,gm,undef,↓List.forall_mem_cons,↓mgA_one,↓Ag,↓A8,push_cast,↓reduceIte,reduceCtorEq,Nat.reduceEqDiff,Nat.reduceLT,Nat.reduceAdd]
   (repeat (refine And.intro (by first|omega|decide) ?_))
   by_cases g2:E0 q.2.mg m.mg=true
   ·have e1:r.s.takeE m.mg=11:=by
     rw[Wx g0 g1,Oy,if_neg (by show ¬((Az r.taken m.pl).map _).isSome=true;rw[hh];decide)]
     refine if_pos ?_
     rw[Ad7 r.taken fun t=>E0 t m.mg,List.any_eq_true]
     exact⟨q,hqm,g2⟩
    have e2:=Ww g0 g1
    rw[e1,if_neg (by decide)] at e2
    have ev:erV 11=.iface 91 (.int .i64 11):=rfl
    rw[e1]
    refine Gb (Ad6 (k:=2) rfl (O3 _)) ?_
    refine Am rfl Aaw rfl (Ad8 (Lh (ok.taken q hqm) hw) hm) (Aa rfl) ?_
    rw[g2]
    simp (maxSteps:=10^6) only[ev,push_cast,↓reduceIte,Nat.reduceLT,Nat.reduceAdd]
    refine⟨({r with heard:=Bv r.heard m.pl m.ge},[]),⟨e2.symm,ok0.heard _⟩,A6 [0,1,2,3] ?_⟩
    simp (maxSteps:=10^6) only[↓List.forall_mem_cons,push_cast,↓reduceIte,reduceCtorEq,Nat.reduceEqDiff,Nat.reduceLT,Nat.reduceAdd]
   ·rw[Bool.not_eq_true] at g2
    refine Am rfl Aaw rfl (Ad8 (Lh (ok.taken q hqm) hw) hm) (Aa rfl) ?_
    rw[g2]
    simp (maxSteps:=10^6) only[push_cast,↓reduceIte]
    have n3:(seen++[i]).Nodup:=by
     rw[List.nodup_append]
     refine⟨n1,by simp,fun a ha b hb e=>?_⟩
     rw[List.mem_singleton.1 hb] at e
     exact hns (e▸ha)
    have n4:∀a∈seen++[i],∃q,r.taken[a]?=some q∧E0 q.2.mg m.mg=false:=fun a ha=>by
     rcases List.mem_append.1 ha with ha|ha
     ·exact n2 a ha
     ·rw[List.mem_singleton.1 ha]
      exact⟨q,hq,g2⟩
    have n5:=Ad9 n3 fun a ha=>by
     obtain⟨q,h1,_⟩:=n4 a ha
     exact (List.getElem?_eq_some_iff.1 h1).1
    rw[List.length_append] at n5
    have n5:seen.length+1≤r.taken.length:=n5
    refine Ba (seen++[i]) [0,1,2,3,4] ⟨n3,n4⟩ (by rw[List.length_append];show r.taken.length - (seen.length+1) < _;omega) ?_
    simp (maxSteps:=10^6) only[↓List.forall_mem_cons,↓Ag,↓Ay,push_cast,↓reduceIte,reduceCtorEq,Nat.reduceEqDiff,Nat.reduceLT,Nat.reduceAdd]
end Go.Proofs.YtedaafmfjhjfmaaGreatDoor
