import Derived.Test.YtedaafmfjhjfmaaGreatDoorLwA
import Derived.Test.YtedaafmfjhjfmaaGreatDoorLwI
import Derived.Test.YtedaafmfjhjfmaaGreatDoorRg
/- Layer 29 walked: Take. -/
namespace Go.Proofs.YtedaafmfjhjfmaaGreatDoor
open Go.RowKit
set_option linter.unusedSimpArgs false
set_option linter.unusedVariables false
attribute [local irreducible] Ad Ae Ah Ar Ak Am Ai Al
attribute [local irreducible] okV Cj Sms.may Sms.takeE
theorem Ux:Aj Tryz.prog 48 (.g (mgA zeroR))=True:=
 eq_true ⟨.agg ([Value.int .u8 0,.int .i64 0,.int .i64 0,.int .i64 0,.int .i64 0,.int .u64 0]++(List.replicate 32 (Value.int .u8 0)++[Value.slice none 0 0,.slice none 0 0,.slice none 0 0,.slice none 0 0,.int .i64 0])).toArray,by kernel_rfl,fun _=>rfl⟩
theorem A3w {r:SmR} {m:MgR} {Fs:List Fct} {g:Nat} {M:List Res} {w0:World} {B:Nat→Prop} (ok:SmOk Fs r) (hw:Known w0 B Fs) (hm:MgF m w0 B):
  Ae Tryz.prog w0 B 71 [.x (.a (.p 0 0)),.x (.g (mgA m))] (smB g r++M) (.x (.a (.v (.bool (r.s.may m.mg))))) (smB g r++M):=A8 fun γ w hS=>by
 obtain⟨e1,h1⟩:=A1p hS (ok.sp (A0z (B:=No) hS hw (fun b h=>h.elim)))
 have:=A29 r ⟨g,0,none⟩ m w h1 (hm.ok hS)
 show Calls _ _ #[.pointer (some ⟨nmB γ 0,0,none⟩),(Sv.x (.g (mgA m))).val γ] w _
 rw[e1,Bc]
 exact this
theorem SmOk.heard {Fs:List Fct} {r:SmR} (h:SmOk Fs r) (l:List (Int×Int)):SmOk Fs {r with heard:=l}:=⟨h.spots,h.above,h.clients,h.taken,h.few⟩
theorem Uy {r:SmR} {m:MgS} (h0:¬r.s.may m=false) (h1:¬m.ge < (Av r.heard m.pl).getD 0):r.s.take m={r.s with heard:=Bp r.heard m.pl m.ge,taken:=if r.s.takeE m=0 then Bp (Bf MgR.mg r.taken) m.pl m else Bf MgR.mg r.taken}:=by
 unfold Sms.take
 exact if_neg fun h=>h.elim h0 h1
theorem Uz {r:SmR} {m:MgS} (h0:¬r.s.may m=false) (h1:¬m.ge < (Av r.heard m.pl).getD 0):r.s.takeE m=if (Av (Bf MgR.mg r.taken) m.pl).isSome=true then 8 else if (Bf MgR.mg r.taken).any (fun t=>Db t.2 m)=true then 11 else 0:=by
 unfold Sms.takeE
 rw[if_neg h0]
 exact if_neg h1
theorem Aa5 (l:List (Int×MgR)) (f:MgS→Bool):(Bf MgR.mg l).any (fun t=>f t.2)=l.any fun t=>f t.2.mg:=by
 unfold Bf
 rw[List.any_map]
 rfl
theorem Mz (l:List (Int×MgR)):Lh (mgE l):=fun p hp γ=>by
 obtain⟨q,_,rfl⟩:=List.mem_map.1 hp
 have:=Qc q.2 γ []
 exact this
theorem Hu {Fs:List Fct} {m:MgR} {w:World} {B:Nat→Prop} (h:MOk Fs m) (hk:Known w B Fs):MgF m w B:=
 ⟨h.few,hk.fw h.ids (fun e=>by rw[e];rfl),hk.fw h.ns (fun e=>by rw[e];rfl),hk.fw h.ps (fun e=>by rw[e];rfl),hk.fw h.xs (fun e=>by rw[e];rfl)⟩
theorem A3x {w0:World} {ow:Nat→Prop} {hp:List Res} {A:Option Addr} {vs:List Value} {n c:Nat} (h:FW w0 ow A vs) (hc:n≤c):Gq w0 ow hp (.x (.a (.v (.slice A n c)))) n vs:=fun γ w hS=>by
 obtain⟨A',c',e,_,h3⟩:=J3 (hp:=hp) h vs.length vs.length rfl (Nat.le_refl _) γ w hS
 have e:Value.slice A vs.length vs.length=.slice A' vs.length c':=e
 injection e with e1 _ _
 subst e1
 exact⟨A,c,rfl,hc,h3⟩
theorem Aa6 {a b:MgR} {hp:List Res} {w0:World} {B:Nat→Prop} (ha:MgF a w0 B) (hb:MgF b w0 B):
  Ae Tryz.prog w0 B 72 [.x (.g (mgA a)),.x (.g (mgA b))] hp (.x (.a (.v (.bool (Db a.mg b.mg))))) hp:=A8 fun γ w hS=>by
 have:=A3a a b w (ha.ok hS) (hb.ok hS)
 show Calls _ _ #[(Sv.x (.g (mgA a))).val γ,(Sv.x (.g (mgA b))).val γ] w _
 rw[Bc,Bc]
 exact this
theorem A3y {l:List (Int×MgR)} {i:Nat} {p:Int×Sc} (h:(mgE l)[i]?=some p):∃q,l[i]?=some q∧p=(q.1,.g (mgA q.2)):=by
 unfold mgE at h
 rw[List.getElem?_map] at h
 cases hq:l[i]? with
 |none=>rw[hq] at h;cases h
 |some q=>
  rw[hq] at h
  exact⟨q,rfl,(Option.some.inj h).symm⟩
theorem Aa7:∀{n:Nat} {l:List Nat},l.Nodup→(∀i∈l,i < n)→l.length≤n
 |0,l,_,h=>by
  cases l with
  |nil=>exact Nat.le_refl _
  |cons a l=>exact absurd (h a (List.mem_cons_self ..)) (Nat.not_lt_zero _)
 |n+1,l,hd,h=>by
  have h2:=Aa7 (n:=n) (l:=l.erase n) (hd.erase n) fun i hi=>by
   have h3:=h i (List.mem_of_mem_erase hi)
   have h4:i≠n:=fun e=>by
    subst e
    exact (List.Nodup.not_mem_erase hd) hi
   omega
  have:=List.length_erase_le (a:=n) (l:=l)
  by_cases hn:n∈l
  ·have:=List.length_erase_of_mem hn
   omega
  ·rw[List.erase_of_not_mem hn] at h2
   omega
def Hv (Fs:List Fct) (r:SmR) (m:MgS) (x:SmR×List Fct):Prop:=x.1.s=r.s.take m∧SmOk (Fs++x.2) x.1
set_option maxRecDepth 100000 in
set_option maxHeartbeats 2000000 in
theorem U0 (r:SmR) (m:MgR) {g:Nat} {w:World} {B:Nat→Prop} {γ:List Nm} {Fs:List Fct} (hS:Sat w B γ (smB g r) w) (hw:Known w B Fs) (ok:SmOk Fs r) (hm:MgF m w B):
  Calls Tryz.prog 24 (List.map (Sv.val (γ++[.m (.bool true) (fun _=>False)])) [.x (.a (.p 0 0)),.x (.g (mgA m))]).toArray w fun e w'=>∃(x:SmR×List Fct) (γ1:List Nm),Hv Fs r m.mg x∧e=.returned ((Sv.x (.a (.v (erV (r.s.takeE m.mg))))).val γ1)∧Sat w B γ1 (smB g x.1++[.abs (Aa x.2)]) w':=by
 have few:=hm.few
 have vi:m.ids.val=.slice m.ids.A m.ids.l.length m.ids.c:=rfl
 have vn:m.ns.val=.slice m.ns.A m.ns.l.length m.ns.c:=rfl
 have vp:m.ps.val=.slice m.ps.A m.ps.l.length m.ps.c:=rfl
 have vx:m.xs.val=.slice m.xs.A m.xs.l.length m.xs.c:=rfl
 have gm:=Bo (show m.sm.length=32 from few.sm)
 obtain⟨f0,f1,f2,f3,f4,f5,f38,f39,f40,f41,f42⟩:=Dc (show m.sm.length=32 from few.sm)
 refine Uo (n:=84) (ι:=SmR×List Fct) (Hv Fs r m.mg) (fun x=>.x (.a (.v (erV (r.s.takeE m.mg))))) (fun x=>smB g x.1++[.abs (Aa x.2)]) Tryz.func24 rfl Tryz.ntmps24 [.x (.a (.p 0 0)),.x (.g (mgA m))] (hS.fct0 (by unfold smB smA;simp (maxSteps:=10^6) only[↓List.forall_mem_cons,push_cast,Nat.reduceLT,Nat.reduceAdd])) (by simp) ?_
 unfold smB smA
 simp (maxSteps:=10^6) only[gm,↓List.forall_mem_cons,↓Bj,↓A9,push_cast,↓reduceIte,reduceCtorEq,Nat.reduceEqDiff,Nat.reduceLT,Nat.reduceAdd]
 (repeat (refine And.intro (by first|omega|decide) ?_))
 refine Aq rfl Av5 rfl (A3w (g:=g) (M:=[.abs (Aa []),.blk 48 (.c (mgA m))]) ok hw hm) (Af rfl) ?_
 have ok0:SmOk (Fs++[]) r:=by rw[List.append_nil];exact ok
 by_cases g0:r.s.may m.mg=false
 ·have e1:r.s.takeE m.mg=13:=by
   unfold Sms.takeE
   exact if_pos g0
  have e2:r.s.take m.mg=r.s:=if_pos (.inl g0)
  have ev:erV 13=.iface 91 (.int .i64 13):=rfl
  simp (maxSteps:=10^6) only[g0,e1,ev,push_cast,↓reduceIte,Nat.reduceLT,Nat.reduceAdd]
  refine⟨(r,[]),⟨e2.symm,ok0⟩,Fp [0,1,2,3] ?_⟩
  simp (maxSteps:=10^6) only[↓List.forall_mem_cons,push_cast,↓reduceIte,reduceCtorEq,Nat.reduceEqDiff,Nat.reduceLT,Nat.reduceAdd]
 have g0t:r.s.may m.mg=true:=by rw[←Bool.not_eq_false];exact g0
 simp (maxSteps:=10^6) only[g0t,push_cast,↓reduceIte,Nat.reduceLT,Nat.reduceAdd]
 (repeat (refine And.intro (by first|omega|decide) ?_))
 refine Dp [(0,true),(1,true),(2,true),(3,true),(4,true),(5,true),(6,true),(7,true),(8,true),(9,true)] (by kernel_rfl) (by kernel_rfl) rfl (by kernel_rfl) ?_
 apply Uu (P:=Tryz.prog) (w0:=w) (ow:=B) (n:=84) (X:=Unit) (fun _=>¬m.ge < (Av r.heard m.pl).getD 0) (fun _=>⟨[(0,.x (.a (.p 0 0))),(3,.x (.a (.p 4 0)))],[.pin g 120 (.c [.v (.int .i64 r.place),.v (.int .i64 r.dim),.v r.spots.val,.o 1,.o 2]),.mp .i64 (iE r.heard),.mp .i64 (mgE r.taken),.abs (Aa []),.blk 48 (.c (mgA m))]⟩)
 ·intro J
  have e1:m.ge < (Av r.heard m.pl).getD 0→r.s.takeE m.mg=10:=fun g1=>by
   unfold Sms.takeE
   rw[if_neg g0]
   exact if_pos g1
  have e2:m.ge < (Av r.heard m.pl).getD 0→r.s.take m.mg=r.s:=fun g1=>if_pos (.inr g1)
  have ev:erV 10=.iface 91 (.int .i64 10):=rfl
  have lk:=A1q r.heard m.pl
  cases hh:Av r.heard m.pl with
  |none=>
   rw[hh] at lk e1 e2 J
   have lk:Cr (iE r.heard) m.pl=none:=lk
   by_cases g1:m.ge < 0
   ·simp (maxSteps:=10^6) only[lk,g1,e1 g1,ev,gm,f1,f4,undef,push_cast,↓reduceIte,reduceCtorEq,Nat.reduceEqDiff,Nat.reduceLT,Nat.reduceAdd]
    refine⟨(r,[]),⟨(e2 g1).symm,ok0⟩,Fp [0,1,2,3] ?_⟩
    simp (maxSteps:=10^6) only[↓List.forall_mem_cons,push_cast,↓reduceIte,reduceCtorEq,Nat.reduceEqDiff,Nat.reduceLT,Nat.reduceAdd]
   ·have J:=J () g1
    simp (maxSteps:=10^6) only[lk,g1,gm,f1,f4,undef,push_cast,↓reduceIte,reduceCtorEq,Nat.reduceEqDiff,Nat.reduceLT,Nat.reduceAdd]
    refine Ii [0,3] ?_
    simp (maxSteps:=10^6) only[push_cast,↓reduceIte,reduceCtorEq,Nat.reduceEqDiff]
    exact J
  |some h0=>
   rw[hh] at lk e1 e2 J
   have lk:Cr (iE r.heard) m.pl=some (.a (.v (.int .i64 h0))):=lk
   by_cases g1:m.ge < h0
   ·simp (maxSteps:=10^6) only[lk,g1,e1 g1,ev,gm,f1,f4,undef,push_cast,↓reduceIte,reduceCtorEq,Nat.reduceEqDiff,Nat.reduceLT,Nat.reduceAdd]
    refine⟨(r,[]),⟨(e2 g1).symm,ok0⟩,Fp [0,1,2,3] ?_⟩
    simp (maxSteps:=10^6) only[↓List.forall_mem_cons,push_cast,↓reduceIte,reduceCtorEq,Nat.reduceEqDiff,Nat.reduceLT,Nat.reduceAdd]
   ·have J:=J () g1
    simp (maxSteps:=10^6) only[lk,g1,gm,f1,f4,undef,push_cast,↓reduceIte,reduceCtorEq,Nat.reduceEqDiff,Nat.reduceLT,Nat.reduceAdd]
    refine Ii [0,3] ?_
    simp (maxSteps:=10^6) only[push_cast,↓reduceIte,reduceCtorEq,Nat.reduceEqDiff]
    exact J
 rintro _ g1
 refine S6 8 [(0,true),(1,true),(2,true),(3,true),(4,true),(5,true),(6,true),(7,true)] (by kernel_rfl) (by kernel_rfl) ?_
 have ip:=A1r r.heard m.pl m.ge
 simp (maxSteps:=10^6) only[ip,gm,f1,f4,undef,push_cast,↓reduceIte,reduceCtorEq,Nat.reduceEqDiff,Nat.reduceLT,Nat.reduceAdd]
 refine Ii [0,3] ?_
 simp (maxSteps:=10^6) only[push_cast,↓reduceIte,reduceCtorEq,Nat.reduceEqDiff]
 have lk:=Aal r.taken m.pl
 cases hh:Av r.taken m.pl with
 |some t0=>
  rw[hh] at lk
  have lk:Cr (mgE r.taken) m.pl=some (.g (mgA t0)):=lk
  have l0:=Bo (ok.taken _ (Us hh)).s
  have dz:(mgA zeroR).drop 43=[]:=rfl
  refine Mw 5 [] 12 (.rd 0 (.rd 1 (.rd 2 (.rd 3 (.rd 4 (.rd 5 (.rd 6 (.rd 7 (.rd 8 (.rd 9 (.wr 10 (.wr 11 .nil)))))))))))) ⟨[(0,.x (.a (.p 0 0))),(3,.x (.a (.p 4 0))),(5,.x (.a (.p 5 0))),(45,.x (.a (.v (.bool true))))],[.pin g 120 (.c [.v (.int .i64 r.place),.v (.int .i64 r.dim),.v r.spots.val,.o 1,.o 2]),.mp .i64 (iE (Bp r.heard m.pl m.ge)),.mp .i64 (mgE r.taken),.abs (Aa []),.blk 48 (.c (mgA m)),.blk 48 (.c (mgA t0))]⟩ (by kernel_rfl) (by kernel_rfl) (Nat.le_refl 5) ?_ ?_
  ·simp (maxSteps:=10^6) only[lk,l0,B6,Cq,Ux,B9,Ck,gm,f1,undef,↓List.forall_mem_cons,↓Cp,↓Ao,↓Bj,push_cast,↓reduceIte,reduceCtorEq,Nat.reduceEqDiff,Nat.reduceLT,Nat.reduceAdd,Nat.reduceSub]
   refine Fc [0,1,2,3,4,5] ?_
   simp (maxSteps:=10^6) only[↓List.forall_mem_cons,↓Ao,↓A7,push_cast,↓reduceIte,reduceCtorEq,Nat.reduceEqDiff,Nat.reduceLT,Nat.reduceAdd]
  have e1:r.s.takeE m.mg=8:=by
   rw[Uz g0 g1]
   refine if_pos ?_
   rw[Qj]
   show ((Av r.taken m.pl).map _).isSome=true
   rw[hh]
   rfl
  have e2:=Uy g0 g1
  rw[e1,if_neg (by decide)] at e2
  have ev:erV 8=.iface 91 (.int .i64 8):=rfl
  rw[e1]
  simp (maxSteps:=10^6) only[ev,push_cast,↓reduceIte,reduceCtorEq,Nat.reduceEqDiff,Nat.reduceLT,Nat.reduceAdd]
  refine⟨({r with heard:=Bp r.heard m.pl m.ge},[]),⟨e2.symm,ok0.heard _⟩,Fp [0,1,2,3] ?_⟩
  simp (maxSteps:=10^6) only[↓List.forall_mem_cons,push_cast,↓reduceIte,reduceCtorEq,Nat.reduceEqDiff,Nat.reduceLT,Nat.reduceAdd]
 |none=>
  rw[hh] at lk
  have lk:Cr (mgE r.taken) m.pl=none:=lk
  have dz:(mgA zeroR).drop 43=[]:=rfl
  have zb:=fun n=>Cs zeroR n
  simp only[At.bnd] at zb
  refine Mw 5 [] 12 (.rd 0 (.rd 1 (.rd 2 (.rd 3 (.rd 4 (.rd 5 (.rd 6 (.rd 7 (.rd 8 (.rd 9 (.wr 10 (.wr 11 .nil)))))))))))) ⟨[(0,.x (.a (.p 0 0))),(3,.x (.a (.p 4 0))),(5,.x (.a (.p 5 0))),(45,.x (.a (.v (.bool false))))],[.pin g 120 (.c [.v (.int .i64 r.place),.v (.int .i64 r.dim),.v r.spots.val,.o 1,.o 2]),.mp .i64 (iE (Bp r.heard m.pl m.ge)),.mp .i64 (mgE r.taken),.abs (Aa []),.blk 48 (.c (mgA m)),.blk 48 (.c (mgA zeroR))]⟩ (by kernel_rfl) (by kernel_rfl) (Nat.le_refl 5) ?_ ?_
  ·simp (maxSteps:=10^6) only[lk,B6,Cq,Ux,B9,Ck,gm,f1,undef,↓List.forall_mem_cons,↓Cp,↓Ao,↓Bj,push_cast,↓reduceIte,reduceCtorEq,Nat.reduceEqDiff,Nat.reduceLT,Nat.reduceAdd,Nat.reduceSub]
   refine Fc [0,1,2,3,4,5] ?_
   simp (maxSteps:=10^6) only[↓List.forall_mem_cons,↓Ao,↓A7,push_cast,↓reduceIte,reduceCtorEq,Nat.reduceEqDiff,Nat.reduceLT,Nat.reduceAdd]
  simp (maxSteps:=10^6) only[undef,push_cast,↓reduceIte,reduceCtorEq,Nat.reduceEqDiff,Nat.reduceLT,Nat.reduceAdd]
  refine Aw4 [0,3,51] ?_
  simp (maxSteps:=10^6) only[push_cast,↓reduceIte,reduceCtorEq,Nat.reduceEqDiff]
  refine A3s (k:=2) (q:=.i64) (l:=mgE r.taken) rfl rfl rfl Tryz.underlying117 (Mz _) (Af rfl) fun g1' it=>?_
  have hlen:(mgE r.taken).length=r.taken.length:=List.length_map ..
  simp (maxSteps:=10^6) only[push_cast]
  refine Bh (ι:=List Nat) (fun seen=>⟨[(0,.x (.a (.p 0 0))),(3,.x (.a (.p 4 0))),(52,.x (.a (.v (.pointer (some ⟨it,0,none⟩)))))],[.pin g 120 (.c [.v (.int .i64 r.place),.v (.int .i64 r.dim),.v r.spots.val,.o 1,.o 2]),.mp .i64 (iE (Bp r.heard m.pl m.ge)),.abs (Ht .i64 (mgE r.taken) g1' it seen),.abs (Aa []),.blk 48 (.c (mgA m))]⟩)
   (fun seen=>seen.Nodup∧∀i∈seen,∃q,r.taken[i]?=some q∧Db q.2.mg m.mg=false) (fun seen=>r.taken.length - seen.length) [] [0,1,2,3,4] ⟨List.nodup_nil,fun i hi=>by cases hi⟩ ?_ ?_
  ·simp (maxSteps:=10^6) only[↓List.forall_mem_cons,↓Ao,↓A7,push_cast,↓reduceIte,reduceCtorEq,Nat.reduceEqDiff,Nat.reduceLT,Nat.reduceAdd]
  rintro seen ⟨n1,n2⟩
  simp (maxSteps:=10^6) only[push_cast,↓reduceIte]
  (repeat (refine And.intro (by first|omega|decide) ?_))
  refine A3u (k:=2) (q:=.i64) (l:=mgE r.taken) rfl rfl rfl (Mz _) (Af rfl) (fun hall=>?_) (fun i p hp hns=>?_)
  ·rw[hlen] at hall
   have e1:r.s.takeE m.mg=0:=by
    rw[Uz g0 g1,Qj,if_neg (by show ¬((Av r.taken m.pl).map _).isSome=true;rw[hh];decide)]
    refine if_neg fun h=>?_
    rw[Aa5 r.taken fun t=>Db t m.mg,List.any_eq_true] at h
    obtain⟨q,hq,hm2⟩:=h
    obtain⟨i,hi⟩:=List.getElem?_of_mem hq
    obtain⟨q',h1,h2⟩:=n2 i (hall i (List.getElem?_eq_some_iff.1 hi).1)
    rw[hi] at h1
    cases h1
    rw[h2] at hm2
    cases hm2
   have e2:=Uy g0 g1
   rw[e1,if_pos rfl] at e2
   have ev:erV 0=.nilIface:=rfl
   rw[e1]
   simp (maxSteps:=10^6) only[gm,f38,vi,undef,push_cast,↓reduceIte,reduceCtorEq,Nat.reduceEqDiff,Nat.reduceLT,Nat.reduceAdd]
   (repeat (refine And.intro (by first|omega|decide) ?_))
   refine J6 (Aa4 (k:=2) rfl (Mz _)) ?_
   have z0:m.sm.length=32:=few.sm
   simp (maxSteps:=10^6) only[push_cast]
   refine J5 3 (vs:=m.ids.l.map (Value.int .i64)) rfl rfl X9 rfl (Aak (l:=m.ids.l) few.ids (J3 hm.ids.2 _ _ (by simp) hm.ids.1)) (Af rfl) (by simp (maxSteps:=10^6) only[↓List.forall_mem_cons,↓Ao,push_cast,Nat.reduceLT,Nat.reduceAdd]) ?_
   intro A1 cap1 b1 _
   have s1:(mgA m).set 38 (.v (.slice A1 m.ids.l.length cap1))=mgA {m with ids:=⟨A1,cap1,m.ids.l⟩}:=(Ql z0).1 ⟨A1,cap1,m.ids.l⟩
   obtain⟨m1,hm1⟩:∃m1,m1={m with ids:=⟨A1,cap1,m.ids.l⟩}:=⟨_,rfl⟩
   rw[←hm1] at s1
   have z1:m1.sm.length=32:=by rw[hm1];exact z0
   have q1:∀d,(mgA m1).getD 39 d=.v m.ns.val:=fun d=>by
    have:=(Dc z1).2.2.2.2.2.2.2.1 d
    rw[this]
    simp only[hm1]
   have l1:=Bo z1
   simp (maxSteps:=10^6) only[s1,l1,q1,vn,List.length_map,gm,undef,push_cast,↓reduceIte,reduceCtorEq,Nat.reduceEqDiff,Nat.reduceLT,Nat.reduceAdd]
   (repeat (refine And.intro (by first|omega|decide) ?_))
   refine J5 3 (vs:=m.ns.l.map vU64) rfl rfl Avy rfl (A1m (l:=m.ns.l) few.ns (J3 hm.ns.2 _ _ (by simp) hm.ns.1)) (Af rfl) (by simp (maxSteps:=10^6) only[↓List.forall_mem_cons,↓Ao,push_cast,Nat.reduceLT,Nat.reduceAdd]) ?_
   intro A2 cap2 b2 _
   have s2:(mgA m1).set 39 (.v (.slice A2 m.ns.l.length cap2))=mgA {m1 with ns:=⟨A2,cap2,m.ns.l⟩}:=(Ql z1).2.1 ⟨A2,cap2,m.ns.l⟩
   obtain⟨m2,hm2⟩:∃m2,m2={m1 with ns:=⟨A2,cap2,m.ns.l⟩}:=⟨_,rfl⟩
   rw[←hm2] at s2
   have z2:m2.sm.length=32:=by rw[hm2];exact z1
   have q2:∀d,(mgA m2).getD 40 d=.v m.ps.val:=fun d=>by
    have:=(Dc z2).2.2.2.2.2.2.2.2.1 d
    rw[this]
    simp only[hm2,hm1]
   have l2:=Bo z2
   simp (maxSteps:=10^6) only[s2,l2,l1,q2,vp,List.length_map,undef,push_cast,↓reduceIte,reduceCtorEq,Nat.reduceEqDiff,Nat.reduceLT,Nat.reduceAdd]
   (repeat (refine And.intro (by first|omega|decide) ?_))
   refine A1l 3 (n':=m.ps.l.length) (vs:=pvs m.ps.l) rfl rfl Av6 rfl (A1o (l:=m.ps.l) few.ps (A3x hm.ps.2 hm.ps.1)) (fun γ=>T6 γ _) (Mm _) (Af rfl) (by simp (maxSteps:=10^6) only[↓List.forall_mem_cons,↓Ao,push_cast,Nat.reduceLT,Nat.reduceAdd]) ?_
   intro A3 cap3 b3
   have s3:(mgA m2).set 40 (.v (.slice A3 m.ps.l.length cap3))=mgA {m2 with ps:=⟨A3,cap3,m.ps.l⟩}:=(Ql z2).2.2.1 ⟨A3,cap3,m.ps.l⟩
   obtain⟨m3,hm3⟩:∃m3,m3={m2 with ps:=⟨A3,cap3,m.ps.l⟩}:=⟨_,rfl⟩
   rw[←hm3] at s3
   have z3:m3.sm.length=32:=by rw[hm3];exact z2
   have q3:∀d,(mgA m3).getD 41 d=.v m.xs.val:=fun d=>by
    have:=(Dc z3).2.2.2.2.2.2.2.2.2.1 d
    rw[this]
    simp only[hm3,hm2,hm1]
   have l3:=Bo z3
   simp (maxSteps:=10^6) only[s3,l3,l2,q3,vx,undef,push_cast,↓reduceIte,reduceCtorEq,Nat.reduceEqDiff,Nat.reduceLT,Nat.reduceAdd]
   (repeat (refine And.intro (by first|omega|decide) ?_))
   refine J5 3 (vs:=m.xs.l.map Ap) rfl rfl Av7 rfl (A1n (l:=m.xs.l) few.xs (J3 hm.xs.2 _ _ (by simp) hm.xs.1)) (Af rfl) (by simp (maxSteps:=10^6) only[↓List.forall_mem_cons,↓Ao,push_cast,Nat.reduceLT,Nat.reduceAdd]) ?_
   intro A4 cap4 b4 _
   have s4:(mgA m3).set 41 (.v (.slice A4 m.xs.l.length cap4))=mgA {m3 with xs:=⟨A4,cap4,m.xs.l⟩}:=(Ql z3).2.2.2 ⟨A4,cap4,m.xs.l⟩
   obtain⟨m4,hm4⟩:∃m4,m4={m3 with xs:=⟨A4,cap4,m.xs.l⟩}:=⟨_,rfl⟩
   rw[←hm4] at s4
   have z4:m4.sm.length=32:=by rw[hm4];exact z3
   have l4:=Bo z4
   simp (maxSteps:=10^6) only[s4,l3,List.length_map,undef,push_cast,↓reduceIte,reduceCtorEq,Nat.reduceEqDiff,Nat.reduceLT,Nat.reduceAdd]
   (repeat (refine And.intro (by first|omega|decide) ?_))
   have f14:∀d,(mgA m4).getD 1 d=.v (.int .i64 m.pl):=fun d=>by
    have:=(Dc z4).2.1 d
    rw[this]
    simp only[hm4,hm3,hm2,hm1]
   have ip2:=A1s r.taken m.pl m4
   refine S6 7 [(0,true),(1,true),(2,true),(3,true),(4,true),(5,true),(6,true)] (by kernel_rfl) (by kernel_rfl) ?_
   simp (maxSteps:=10^6) only[f14,ip2,l4,undef,push_cast,↓reduceIte,reduceCtorEq,Nat.reduceEqDiff,Nat.reduceLT,Nat.reduceAdd]
   refine⟨({r with heard:=Bp r.heard m.pl m.ge,taken:=Bp r.taken m.pl m4},[⟨.slice A1 m.ids.l.length cap1,m.ids.l.length,m.ids.l.map (Value.int .i64)⟩,⟨.slice A2 m.ns.l.length cap2,m.ns.l.length,m.ns.l.map vU64⟩,⟨.slice A3 m.ps.l.length cap3,m.ps.l.length,pvs m.ps.l⟩,⟨.slice A4 m.xs.l.length cap4,m.xs.l.length,m.xs.l.map Ap⟩]),⟨?_,ok0.spots.more fun f hf=>?_,fun x hx=>(ok0.above x hx).more fun f hf=>?_,fun x hx=>(ok0.clients x hx).more fun f hf=>?_,fun p hp=>?_,ok.few⟩,Fp [0,1,2,3] ?_⟩
   ·rw[e2]
    have em:m4.mg=m.mg:=by
     rw[hm4,hm3,hm2,hm1]
     rfl
    show Sms.mk _ _ _ _ (Bf MgR.mg (Bp r.taken m.pl m4))=Sms.mk _ _ _ _ _
    rw[A1f,em]
    rfl
   ·rw[List.append_nil] at hf;exact List.mem_append_left _ hf
   ·rw[List.append_nil] at hf;exact List.mem_append_left _ hf
   ·rw[List.append_nil] at hf;exact List.mem_append_left _ hf
   ·rcases A1g hp with h|h
    ·rw[h]
     refine⟨z4,.inr (List.mem_append_right _ ?_),.inr (List.mem_append_right _ ?_),.inr (List.mem_append_right _ ?_),.inr (List.mem_append_right _ ?_),?_⟩
     ·simp only[hm4,hm3,hm2,hm1];exact List.mem_cons_self ..
     ·simp only[hm4,hm3,hm2,hm1];exact List.mem_cons_of_mem _ (List.mem_cons_self ..)
     ·simp only[hm4,hm3,hm2,hm1];exact List.mem_cons_of_mem _ (List.mem_cons_of_mem _ (List.mem_cons_self ..))
     ·simp only[hm4,hm3,hm2,hm1];exact List.mem_cons_of_mem _ (List.mem_cons_of_mem _ (List.mem_cons_of_mem _ (List.mem_cons_self ..)))
     ·simp only[hm4,hm3,hm2,hm1];exact few
    ·exact (ok.taken p h).more fun f hf=>List.mem_append_left _ hf
   ·simp (maxSteps:=10^6) only[ev,↓List.forall_mem_cons,push_cast,↓reduceIte,reduceCtorEq,Nat.reduceEqDiff,Nat.reduceLT,Nat.reduceAdd]
  ·obtain⟨q,hq,rfl⟩:=A3y hp
   have hqm:=List.mem_of_getElem? hq
   have hq43:=Bo (ok.taken q hqm).s
   simp (maxSteps:=10^6) only[push_cast,↓reduceIte,Nat.reduceLT,Nat.reduceAdd]
   (repeat (refine And.intro (by first|omega|decide) ?_))
   refine A3v (k:=2) (q:=.i64) (l:=mgE r.taken) rfl rfl rfl hp (Mz _) (Af rfl) ?_
   simp (maxSteps:=10^6) only[hq43,B6,Cq,B9,Ck,gm,undef,↓List.forall_mem_cons,↓Cp,↓Ao,↓Bj,push_cast,↓reduceIte,reduceCtorEq,Nat.reduceEqDiff,Nat.reduceLT,Nat.reduceAdd]
   (repeat (refine And.intro (by first|omega|decide) ?_))
   by_cases g2:Db q.2.mg m.mg=true
   ·have e1:r.s.takeE m.mg=11:=by
     rw[Uz g0 g1,Qj,if_neg (by show ¬((Av r.taken m.pl).map _).isSome=true;rw[hh];decide)]
     refine if_pos ?_
     rw[Aa5 r.taken fun t=>Db t m.mg,List.any_eq_true]
     exact⟨q,hqm,g2⟩
    have e2:=Uy g0 g1
    rw[e1,if_neg (by decide)] at e2
    have ev:erV 11=.iface 91 (.int .i64 11):=rfl
    rw[e1]
    refine J6 (Aa4 (k:=2) rfl (Mz _)) ?_
    refine Aq rfl Ya rfl (Aa6 (Hu (ok.taken q hqm) hw) hm) (Af rfl) ?_
    rw[g2]
    simp (maxSteps:=10^6) only[ev,push_cast,↓reduceIte,Nat.reduceLT,Nat.reduceAdd]
    refine⟨({r with heard:=Bp r.heard m.pl m.ge},[]),⟨e2.symm,ok0.heard _⟩,Fp [0,1,2,3] ?_⟩
    simp (maxSteps:=10^6) only[↓List.forall_mem_cons,push_cast,↓reduceIte,reduceCtorEq,Nat.reduceEqDiff,Nat.reduceLT,Nat.reduceAdd]
   ·rw[Bool.not_eq_true] at g2
    refine Aq rfl Ya rfl (Aa6 (Hu (ok.taken q hqm) hw) hm) (Af rfl) ?_
    rw[g2]
    simp (maxSteps:=10^6) only[push_cast,↓reduceIte]
    have n3:(seen++[i]).Nodup:=by
     rw[List.nodup_append]
     refine⟨n1,by simp,fun a ha b hb e=>?_⟩
     rw[List.mem_singleton.1 hb] at e
     exact hns (e▸ha)
    have n4:∀a∈seen++[i],∃q,r.taken[a]?=some q∧Db q.2.mg m.mg=false:=fun a ha=>by
     rcases List.mem_append.1 ha with ha|ha
     ·exact n2 a ha
     ·rw[List.mem_singleton.1 ha]
      exact⟨q,hq,g2⟩
    have n5:=Aa7 n3 fun a ha=>by
     obtain⟨q,h1,_⟩:=n4 a ha
     exact (List.getElem?_eq_some_iff.1 h1).1
    rw[List.length_append] at n5
    have n5:seen.length+1≤r.taken.length:=n5
    refine Be (seen++[i]) [0,1,2,3,4] ⟨n3,n4⟩ (by rw[List.length_append];show r.taken.length - (seen.length+1) < _;omega) ?_
    simp (maxSteps:=10^6) only[↓List.forall_mem_cons,↓Ao,↓A7,push_cast,↓reduceIte,reduceCtorEq,Nat.reduceEqDiff,Nat.reduceLT,Nat.reduceAdd]
end Go.Proofs.YtedaafmfjhjfmaaGreatDoor
