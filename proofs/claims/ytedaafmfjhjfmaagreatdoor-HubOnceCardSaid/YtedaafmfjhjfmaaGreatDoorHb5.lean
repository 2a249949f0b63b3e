import Derived.Test.YtedaafmfjhjfmaaGreatDoorHb4
/- Layer 30 walked: Hear, From, Phase. -/
namespace Go.Proofs.YtedaafmfjhjfmaaGreatDoor
open _root_.Go.Proofs.Tryz
open Go.RowKit
set_option linter.unusedSimpArgs false
set_option linter.unusedVariables false
attribute [local irreducible] Ac Ad Ah Au Ao Aj Ai Al
attribute [local irreducible] A9 okV Ak erV Bq Tal.can Tal.st
section
variable {r:HbR} {g gs:Nat} {w:World} {B:Nat→Prop} {γ:List Nm} {Fs:List Fct}
theorem Ay8 (m:MgR) (hS:Sat w B γ (hbB g gs r) w) (hw:Known w B Fs) (ok:HbOk Fs r) (hm:MgF m w B):Xi 98 [.agg (mgV m).toArray] Fs (r.s.partial_ m.mg) g gs w B:=by
 have:=Ay7 m hS hw ok hm
 unfold Xl at this
 rw[Fe hS [.x (.g (mgA m))] (fun x hx γ γ'=>by rw[List.mem_singleton.1 hx,Bi,Bi]) γ,List.map_cons,List.map_nil,Bi] at this
 exact this.mono fun e w' ⟨x,γ1,h⟩=>⟨x,γ1,h⟩
def Xm (Fs:List Fct) (r:HbR) (m:MgR) (g gs:Nat) (w:World) (B:Nat→Prop) (γ:List Nm):Prop:=
 Calls prog 42 (List.map (Sv.val (γ++[.m (.bool true) (fun _=>False)])) [.x (.a (.p 0 0)),.x (.g (mgA m))]).toArray w fun e w'=>∃(x:HbR×SlV SnR×List Fct) (γ1:List Nm),HTellQ Fs (r.s.hear m.mg).1 (r.s.hear m.mg).2.1 x∧e=.returned ((Sv.t [.a (.v x.2.1.val),.a (.v (erV (r.s.hear m.mg).2.2))]).val γ1)∧Sat w B γ1 (hbB g gs x.1++[.abs (fctRep x.2.2)]) w'
set_option maxRecDepth 100000 in
set_option maxHeartbeats 4000000 in
theorem Ay9 (m:MgR) (hS:Sat w B γ (hbB g gs r) w) (hw:Known w B Fs) (ok:HbOk Fs r) (hm:MgF m w B):Xm Fs r m g gs w B γ:=by
 unfold Xm
 have few:=hm.few
 have gm:=Bd (show m.sm.length=32 from few.sm)
 obtain⟨f0,f1,f2,f3,f4,f5,f38,f39,f40,f41,f42⟩:=C8 (show m.sm.length=32 from few.sm)
 have e9:(⟨none,0,[]⟩:SlV SnR).val=.slice none 0 0:=rfl
 have ee1:erV 1=.iface 91 (.int .i64 1):=En (by decide)
 have ee2:erV 2=.iface 91 (.int .i64 2):=En (by decide)
 refine Cy (n:=87) (ι:=HbR×SlV SnR×List Fct) (HTellQ Fs (r.s.hear m.mg).1 (r.s.hear m.mg).2.1) (fun x=>.t [.a (.v x.2.1.val),.a (.v (erV (r.s.hear m.mg).2.2))]) (fun x=>hbB g gs x.1++[.abs (fctRep x.2.2)]) func42 rfl ntmps42 [.x (.a (.p 0 0)),.x (.g (mgA m))] (hS.fct0 (Ar g gs r)) (by show 2≤87;omega) ?_
 obtain⟨X,hX⟩:∃X,r.s.hear m.mg=X:=⟨_,rfl⟩
 rw[hX]
 have hsp:=hX.symm
 unfold HbS.hear at hsp
 unfold hbB hbA
 simp (maxSteps:=10^6) only[gm,↓Ae,↓List.forall_mem_cons,↓A8,↓Be,push_cast,↓reduceIte,reduceCtorEq,Nat.reduceEqDiff,Nat.reduceLT,Nat.reduceAdd]
 (repeat (refine And.intro (by first|omega|decide) ?_))
 refine Am rfl Aav rfl (Awn hm) (Aa rfl) ?_
 by_cases hc:Bq m.mg=false
 ·rw[if_pos hc] at hsp
  have e0:=hsp
  rw[hc,H8]
  simp (maxSteps:=10^6) only[push_cast,↓reduceIte,Nat.reduceEqDiff,Nat.reduceLT,Nat.reduceAdd]
  refine⟨(r,⟨none,0,[]⟩,[]),by rw[e0];exact⟨rfl,rfl,by rw[List.append_nil];exact ok,D4 _,fun _=>rfl⟩,A6 [0,1,2,3,4,5,6] ?_⟩
  rw[e0]
  simp (maxSteps:=10^6) only[e9,ee1,↓Ae,↓Aw,↓List.forall_mem_cons,push_cast,↓reduceIte,reduceCtorEq,Nat.reduceEqDiff,Nat.reduceLT,Nat.reduceAdd]
  done
 rw[if_neg hc] at hsp
 have hc:Bq m.mg=true:=by simpa using hc
 rw[hc,Gt]
 by_cases k6:m.k=6
 ·have e0:=hsp.trans (if_pos (show m.mg.k=6 from k6))
  have k6t:(m.k=6)=True:=eq_true k6
  simp (maxSteps:=10^6) only[gm,f0,k6t,undef,push_cast,↓reduceIte,reduceCtorEq,Nat.reduceEqDiff,Nat.reduceLT,Nat.reduceAdd]
  (repeat (refine And.intro (by first|omega|decide) ?_))
  refine C9 (ι:=HbR×SlV SnR×List Fct) (A:=hbB g gs r) (M:=[.abs (fctRep []),.blk 48 (.c (mgA m))]) (g:=g) (t:=149) (c:=.c (hbA r)) (l:=[]) 0 (HTellQ Fs (r.s.partial_ m.mg).1 (r.s.partial_ m.mg).2.1) (fun x=>.t [.a (.v x.2.1.val),.a (.v (erV (r.s.partial_ m.mg).2.2))]) (fun x=>hbB g gs x.1) (fun x=>x.2.2) rfl rfl rfl (fun x _=>⟨_,rfl⟩) (fun x _=>rfl) rfl Aou rfl (fun γ' w' hS' hg=>?_) (fun _ _=>rfl) (Aa rfl) (Ar g gs r) (fun x _=>Ar g gs x.1) (by simp (maxSteps:=10^6) only[↓Ae,↓List.forall_mem_cons,↓Ag,↓A8,push_cast,Nat.reduceLT,Nat.reduceAdd]) (by
   show ∀x∈_,Sv.av 6 _
   simp (maxSteps:=10^6) only[↓List.forall_mem_cons,↓Ck,push_cast,reduceCtorEq,Nat.reduceLeDiff]) (by
   show ∀x∈_,Res.av 6 _
   simp (maxSteps:=10^6) only[↓List.forall_mem_cons,↓Ck,push_cast]) ?_
  ·have:=Ay8 m (hS'.frontA (Ar g gs r)) (D3 (A:=hbB g gs r) hS' hw) ok (hm.front hS')
   show Calls _ _ #[.pointer (some ⟨nmB γ' 0,0,none⟩),(Sv.x (.g (mgA m))).val γ'] w' _
   rw[hg,Bi]
   exact this
  rintro⟨r2,out,G2⟩ ⟨t1,t2,t3,t4,t5⟩
  dsimp only at t1 t2 t3 t4 t5
  unfold hbB hbA
  simp (maxSteps:=10^6) only[push_cast,↓reduceIte,Nat.reduceEqDiff,Nat.reduceLT,Nat.reduceAdd]
  rw[e0]
  refine⟨(r2,out,G2),⟨t1,t2,t3,t4,t5⟩,A6 [0,1,2,3,4,5,6] ?_⟩
  simp (maxSteps:=10^6) only[↓Ae,↓Aw,↓List.forall_mem_cons,push_cast,↓reduceIte,reduceCtorEq,Nat.reduceEqDiff,Nat.reduceLT,Nat.reduceAdd]
  done
 rw[if_neg (show ¬m.mg.k=6 from k6)] at hsp
 by_cases k17:m.k=17
 ·have e0:=hsp.trans (if_pos (show m.mg.k=17 from k17))
  have k17t:(m.k=17)=True:=eq_true k17
  simp (maxSteps:=10^6) only[gm,f0,k6,k17t,undef,push_cast,↓reduceIte,reduceCtorEq,Nat.reduceEqDiff,Nat.reduceLT,Nat.reduceAdd]
  (repeat (refine And.intro (by first|omega|decide) ?_))
  refine C9 (ι:=HbR×SlV SnR×List Fct) (A:=hbB g gs r) (M:=[.abs (fctRep []),.blk 48 (.c (mgA m))]) (g:=g) (t:=149) (c:=.c (hbA r)) (l:=[]) 0 (HTellQ Fs (r.s.lost m.mg).1 (r.s.lost m.mg).2.1) (fun x=>.t [.a (.v x.2.1.val),.a (.v (erV (r.s.lost m.mg).2.2))]) (fun x=>hbB g gs x.1) (fun x=>x.2.2) rfl rfl rfl (fun x _=>⟨_,rfl⟩) (fun x _=>rfl) rfl Aov rfl (fun γ' w' hS' hg=>?_) (fun _ _=>rfl) (Aa rfl) (Ar g gs r) (fun x _=>Ar g gs x.1) (by simp (maxSteps:=10^6) only[↓Ae,↓List.forall_mem_cons,↓Ag,↓A8,push_cast,Nat.reduceLT,Nat.reduceAdd]) (by
   show ∀x∈_,Sv.av 6 _
   simp (maxSteps:=10^6) only[↓List.forall_mem_cons,↓Ck,push_cast,reduceCtorEq,Nat.reduceLeDiff]) (by
   show ∀x∈_,Res.av 6 _
   simp (maxSteps:=10^6) only[↓List.forall_mem_cons,↓Ck,push_cast]) ?_
  ·have:=Ay4 m (hS'.frontA (Ar g gs r)) (D3 (A:=hbB g gs r) hS' hw) ok (hm.front hS')
   show Calls _ _ #[.pointer (some ⟨nmB γ' 0,0,none⟩),(Sv.x (.g (mgA m))).val γ'] w' _
   rw[hg,Bi]
   exact this
  rintro⟨r2,out,G2⟩ ⟨t1,t2,t3,t4,t5⟩
  dsimp only at t1 t2 t3 t4 t5
  unfold hbB hbA
  simp (maxSteps:=10^6) only[push_cast,↓reduceIte,Nat.reduceEqDiff,Nat.reduceLT,Nat.reduceAdd]
  rw[e0]
  refine⟨(r2,out,G2),⟨t1,t2,t3,t4,t5⟩,A6 [0,1,2,3,4,5,6] ?_⟩
  simp (maxSteps:=10^6) only[↓Ae,↓Aw,↓List.forall_mem_cons,push_cast,↓reduceIte,reduceCtorEq,Nat.reduceEqDiff,Nat.reduceLT,Nat.reduceAdd]
  done
 rw[if_neg (show ¬m.mg.k=17 from k17)] at hsp
 by_cases k16:m.k=16
 ·rw[if_pos (show m.mg.k=16 from k16)] at hsp
  have k16t:(m.k=16)=True:=eq_true k16
  by_cases hp:m.pl=r.place
  case neg=>
   have e0:=hsp.trans (if_pos (.inl (show m.mg.pl≠r.s.place from hp)))
   simp (maxSteps:=10^6) only[gm,f0,k6,k17,k16t,undef,push_cast,↓reduceIte,reduceCtorEq,Nat.reduceEqDiff,Nat.reduceLT,Nat.reduceAdd]
   (repeat (refine And.intro (by first|omega|decide) ?_))
   refine B3 [(0,true),(1,true),(2,true),(3,true),(4,true),(5,true),(6,true),(7,true),(8,true),(9,true),(10,true),(11,true),(12,true),(13,true),(14,false),(15,true),(16,true)] (by kernel_rfl) (by kernel_rfl) rfl (by kernel_rfl) ?_
   simp (maxSteps:=10^6) only[gm,f1,hp,undef,push_cast,↓reduceIte,reduceCtorEq,Nat.reduceEqDiff,Nat.reduceLT,Nat.reduceAdd]
   refine⟨(r,⟨none,0,[]⟩,[]),by rw[e0];exact⟨rfl,rfl,by rw[List.append_nil];exact ok,D4 _,fun _=>rfl⟩,A6 [0,1,2,3,4,5,6] ?_⟩
   rw[e0]
   simp (maxSteps:=10^6) only[e9,ee2,↓Ae,↓Aw,↓List.forall_mem_cons,push_cast,↓reduceIte,reduceCtorEq,Nat.reduceEqDiff,Nat.reduceLT,Nat.reduceAdd]
   done
  have hpt:(m.pl=r.place)=True:=eq_true hp
  have fu:=hw.fw ok.above (fun e=>by rw[e];rfl)
  have su:∀hp,Bg w B hp (.x (.a (.v r.above.val))) (r.above.l.map (Value.int .i64)):=fun hp=>Dq fu.2 _ _ (List.length_map ..) fu.1
  simp (maxSteps:=10^6) only[gm,f0,k6,k17,k16t,undef,push_cast,↓reduceIte,reduceCtorEq,Nat.reduceEqDiff,Nat.reduceLT,Nat.reduceAdd]
  (repeat (refine And.intro (by first|omega|decide) ?_))
  refine B3 [(0,true),(1,true),(2,true),(3,true),(4,true),(5,true),(6,true),(7,true),(8,true),(9,true),(10,true),(11,true),(12,true),(13,true),(14,false),(15,true),(16,true)] (by kernel_rfl) (by kernel_rfl) rfl (by kernel_rfl) ?_
  simp (maxSteps:=10^6) only[gm,f1,f2,hpt,undef,push_cast,↓reduceIte,reduceCtorEq,Nat.reduceEqDiff,Nat.reduceLT,Nat.reduceAdd]
  (repeat (refine And.intro (by first|omega|decide) ?_))
  refine Kr rfl Kw rfl (Lb (l:=r.above.l) m.ot (by have:=ok.few.1;omega) (su _)) (Aa rfl) ?_
  by_cases hin:m.ot∈r.above.l
  case neg=>
   have hb:Em m.ot r.above.l=false:=decide_eq_false hin
   have e0:=hsp.trans (if_pos (.inr (show m.mg.ot∉r.s.above from hin)))
   simp (maxSteps:=10^6) only[hb,push_cast,↓reduceIte,Nat.reduceEqDiff,Nat.reduceLT,Nat.reduceAdd]
   refine⟨(r,⟨none,0,[]⟩,[]),by rw[e0];exact⟨rfl,rfl,by rw[List.append_nil];exact ok,D4 _,fun _=>rfl⟩,A6 [0,1,2,3,4,5,6] ?_⟩
   rw[e0]
   simp (maxSteps:=10^6) only[e9,ee2,↓Ae,↓Aw,↓List.forall_mem_cons,push_cast,↓reduceIte,reduceCtorEq,Nat.reduceEqDiff,Nat.reduceLT,Nat.reduceAdd]
   done
  have hb:Em m.ot r.above.l=true:=decide_eq_true hin
  obtain⟨r1,hr1⟩:∃r1:HbR,r1={r with parent:=m.ot}:=⟨_,rfl⟩
  have ok1:HbOk Fs r1:=by rw[hr1];exact⟨ok.above,ok.under,ok.next,ok.ty,ok.sm,ok.few,ok.fine⟩
  have e0:X=(r1.s,r1.s.again,0):=(hsp.trans (if_neg (fun h=>h.elim (fun h=>h hp) fun h=>h hin))).trans (by rw[hr1];rfl)
  simp (maxSteps:=10^6) only[hb,gm,f2,undef,push_cast,↓reduceIte,reduceCtorEq,Nat.reduceEqDiff,Nat.reduceLT,Nat.reduceAdd]
  (repeat (refine And.intro (by first|omega|decide) ?_))
  refine Gp [55] ?_
  simp (maxSteps:=10^6) only[push_cast,↓reduceIte]
  refine C9 (ι:=HbR×SlV SnR×List Fct) (A:=hbB g gs r1) (M:=[.abs (fctRep []),.blk 48 (.c (mgA m))]) (g:=g) (t:=149) (c:=.c (hbA r1)) (l:=[]) 0 (HTellQ Fs r1.s r1.s.again) (fun x=>.x (.a (.v x.2.1.val))) (fun x=>hbB g gs x.1) (fun x=>x.2.2) (by rw[hr1];rfl) rfl rfl (fun x _=>⟨_,rfl⟩) (fun x _=>rfl) rfl Vi rfl (fun γ' w' hS' hg=>?_) (fun _ _=>rfl) (Aa rfl) (Ar g gs r1) (fun x _=>Ar g gs x.1) (by simp (maxSteps:=10^6) only[↓Ae,↓List.forall_mem_cons,↓Ag,push_cast,Nat.reduceLT,Nat.reduceAdd]) (by
   show ∀x∈_,Sv.av 6 _
   simp (maxSteps:=10^6) only[↓List.forall_mem_cons,push_cast,Nat.reduceLeDiff]) (by
   show ∀x∈_,Res.av 6 _
   simp (maxSteps:=10^6) only[↓List.forall_mem_cons,↓Ck,push_cast]) ?_
  ·have:=Xg (hS'.frontA (Ar g gs r1)) (D3 (A:=hbB g gs r1) hS' hw) ok1
   show Calls _ _ #[.pointer (some ⟨nmB γ' 0,0,none⟩)] w' _
   rw[hg]
   exact this
  rintro⟨r2,out,G2⟩ ⟨t1,t2,t3,t4,t5⟩
  dsimp only at t1 t2 t3 t4 t5
  unfold hbB hbA
  simp (maxSteps:=10^6) only[push_cast,↓reduceIte,Nat.reduceEqDiff,Nat.reduceLT,Nat.reduceAdd]
  rw[e0]
  refine⟨(r2,out,G2),⟨t1,t2,t3,t4,t5⟩,A6 [0,1,2,3,4,5,6] ?_⟩
  simp (maxSteps:=10^6) only[Gc,↓Ae,↓Aw,↓List.forall_mem_cons,push_cast,↓reduceIte,reduceCtorEq,Nat.reduceEqDiff,Nat.reduceLT,Nat.reduceAdd]
  done
 rw[if_neg (show ¬m.mg.k=16 from k16)] at hsp
 by_cases k15:m.k=15
 ·rw[if_pos (show m.mg.k=15 from k15)] at hsp
  have k15t:(m.k=15)=True:=eq_true k15
  simp (maxSteps:=10^6) only[gm,f0,k6,k17,k16,k15t,undef,push_cast,↓reduceIte,reduceCtorEq,Nat.reduceEqDiff,Nat.reduceLT,Nat.reduceAdd]
  (repeat (refine And.intro (by first|omega|decide) ?_))
  by_cases hn:r.parent < 0
  ·have e0:=hsp.trans (if_pos (.inl (show r.s.parent < 0 from hn)))
   refine B3 [(0,true),(1,true),(2,true),(3,true),(4,true),(5,true),(6,true),(7,true),(8,true),(9,true),(10,true),(11,true),(12,true),(13,true)] (by kernel_rfl) (by kernel_rfl) rfl (by kernel_rfl) ?_
   simp (maxSteps:=10^6) only[hn,undef,push_cast,↓reduceIte,reduceCtorEq,Nat.reduceEqDiff,Nat.reduceLT,Nat.reduceAdd]
   refine⟨(r,⟨none,0,[]⟩,[]),by rw[e0];exact⟨rfl,rfl,by rw[List.append_nil];exact ok,D4 _,fun _=>rfl⟩,A6 [0,1,2,3,4,5,6] ?_⟩
   rw[e0]
   simp (maxSteps:=10^6) only[e9,ee2,↓Ae,↓Aw,↓List.forall_mem_cons,push_cast,↓reduceIte,reduceCtorEq,Nat.reduceEqDiff,Nat.reduceLT,Nat.reduceAdd]
   done
  by_cases hp:m.pl=r.parent
  case neg=>
   have e0:=hsp.trans (if_pos (.inr (show m.mg.pl≠r.s.parent from hp)))
   refine B3 [(0,true),(1,true),(2,true),(3,true),(4,true),(5,true),(6,true),(7,true),(8,true),(9,true),(10,true),(11,true),(12,true),(13,true)] (by kernel_rfl) (by kernel_rfl) rfl (by kernel_rfl) ?_
   simp (maxSteps:=10^6) only[gm,f1,hn,hp,undef,push_cast,↓reduceIte,reduceCtorEq,Nat.reduceEqDiff,Nat.reduceLT,Nat.reduceAdd]
   refine⟨(r,⟨none,0,[]⟩,[]),by rw[e0];exact⟨rfl,rfl,by rw[List.append_nil];exact ok,D4 _,fun _=>rfl⟩,A6 [0,1,2,3,4,5,6] ?_⟩
   rw[e0]
   simp (maxSteps:=10^6) only[e9,ee2,↓Ae,↓Aw,↓List.forall_mem_cons,push_cast,↓reduceIte,reduceCtorEq,Nat.reduceEqDiff,Nat.reduceLT,Nat.reduceAdd]
   done
  have hpt:(m.pl=r.parent)=True:=eq_true hp
  have e0:X=(r.s,r.s.again,0):=hsp.trans (if_neg (fun h=>h.elim hn fun h=>h hp))
  refine B3 [(0,true),(1,true),(2,true),(3,true),(4,true),(5,true),(6,true),(7,true),(8,true),(9,true),(10,true),(11,true),(12,true),(13,true)] (by kernel_rfl) (by kernel_rfl) rfl (by kernel_rfl) ?_
  simp (maxSteps:=10^6) only[gm,f1,hn,hpt,undef,push_cast,↓reduceIte,reduceCtorEq,Nat.reduceEqDiff,Nat.reduceLT,Nat.reduceAdd]
  (repeat (refine And.intro (by first|omega|decide) ?_))
  refine Gp [74] ?_
  simp (maxSteps:=10^6) only[push_cast,↓reduceIte]
  refine C9 (ι:=HbR×SlV SnR×List Fct) (A:=hbB g gs r) (M:=[.abs (fctRep []),.blk 48 (.c (mgA m))]) (g:=g) (t:=149) (c:=.c (hbA r)) (l:=[]) 0 (HTellQ Fs r.s r.s.again) (fun x=>.x (.a (.v x.2.1.val))) (fun x=>hbB g gs x.1) (fun x=>x.2.2) rfl rfl rfl (fun x _=>⟨_,rfl⟩) (fun x _=>rfl) rfl Vi rfl (fun γ' w' hS' hg=>?_) (fun _ _=>rfl) (Aa rfl) (Ar g gs r) (fun x _=>Ar g gs x.1) (by simp (maxSteps:=10^6) only[↓Ae,↓List.forall_mem_cons,↓Ag,push_cast,Nat.reduceLT,Nat.reduceAdd]) (by
   show ∀x∈_,Sv.av 6 _
   simp (maxSteps:=10^6) only[↓List.forall_mem_cons,push_cast,Nat.reduceLeDiff]) (by
   show ∀x∈_,Res.av 6 _
   simp (maxSteps:=10^6) only[↓List.forall_mem_cons,↓Ck,push_cast]) ?_
  ·have:=Xg (hS'.frontA (Ar g gs r)) (D3 (A:=hbB g gs r) hS' hw) ok
   show Calls _ _ #[.pointer (some ⟨nmB γ' 0,0,none⟩)] w' _
   rw[hg]
   exact this
  rintro⟨r2,out,G2⟩ ⟨t1,t2,t3,t4,t5⟩
  dsimp only at t1 t2 t3 t4 t5
  unfold hbB hbA
  simp (maxSteps:=10^6) only[push_cast,↓reduceIte,Nat.reduceEqDiff,Nat.reduceLT,Nat.reduceAdd]
  rw[e0]
  refine⟨(r2,out,G2),⟨t1,t2,t3,t4,t5⟩,A6 [0,1,2,3,4,5,6] ?_⟩
  simp (maxSteps:=10^6) only[Gc,↓Ae,↓Aw,↓List.forall_mem_cons,push_cast,↓reduceIte,reduceCtorEq,Nat.reduceEqDiff,Nat.reduceLT,Nat.reduceAdd]
  done
 rw[if_neg (show ¬m.mg.k=15 from k15)] at hsp
 by_cases k7:m.k=7
 ·rw[if_pos (show m.mg.k=7 from k7)] at hsp
  have k7t:(m.k=7)=True:=eq_true k7
  simp (maxSteps:=10^6) only[gm,f0,k6,k17,k16,k15,k7t,undef,push_cast,↓reduceIte,reduceCtorEq,Nat.reduceEqDiff,Nat.reduceLT,Nat.reduceAdd]
  (repeat (refine And.intro (by first|omega|decide) ?_))
  refine B3 [(0,true),(1,true),(2,true),(3,true),(4,true),(5,true),(6,true)] (by kernel_rfl) (by kernel_rfl) rfl (by kernel_rfl) ?_
  by_cases hp:m.pl=r.place
  ·have hpt:(m.pl=r.place)=True:=eq_true hp
   have e0:=hsp.trans (if_neg (show ¬(m.mg.pl≠r.s.place) from fun h=>h hp))
   simp (maxSteps:=10^6) only[gm,f1,hpt,undef,push_cast,↓reduceIte,reduceCtorEq,Nat.reduceEqDiff,Nat.reduceLT,Nat.reduceAdd]
   refine⟨(r,⟨none,0,[]⟩,[]),by rw[e0];exact⟨rfl,rfl,by rw[List.append_nil];exact ok,D4 _,fun _=>rfl⟩,A6 [0,1,2,3,4,5,6] ?_⟩
   rw[e0]
   simp (maxSteps:=10^6) only[e9,Gc,↓Ae,↓Aw,↓List.forall_mem_cons,push_cast,↓reduceIte,reduceCtorEq,Nat.reduceEqDiff,Nat.reduceLT,Nat.reduceAdd]
   done
  have e0:=hsp.trans (if_pos (show m.mg.pl≠r.s.place from hp))
  simp (maxSteps:=10^6) only[gm,f1,hp,undef,push_cast,↓reduceIte,reduceCtorEq,Nat.reduceEqDiff,Nat.reduceLT,Nat.reduceAdd]
  refine⟨(r,⟨none,0,[]⟩,[]),by rw[e0];exact⟨rfl,rfl,by rw[List.append_nil];exact ok,D4 _,fun _=>rfl⟩,A6 [0,1,2,3,4,5,6] ?_⟩
  rw[e0]
  simp (maxSteps:=10^6) only[e9,ee2,↓Ae,↓Aw,↓List.forall_mem_cons,push_cast,↓reduceIte,reduceCtorEq,Nat.reduceEqDiff,Nat.reduceLT,Nat.reduceAdd]
  done
 have e0:=hsp.trans (if_neg (show ¬m.mg.k=7 from k7))
 simp (maxSteps:=10^6) only[gm,f0,k6,k17,k16,k15,k7,undef,push_cast,↓reduceIte,reduceCtorEq,Nat.reduceEqDiff,Nat.reduceLT,Nat.reduceAdd]
 refine⟨(r,⟨none,0,[]⟩,[]),by rw[e0];exact⟨rfl,rfl,by rw[List.append_nil];exact ok,D4 _,fun _=>rfl⟩,A6 [0,1,2,3,4,5,6] ?_⟩
 rw[e0]
 simp (maxSteps:=10^6) only[e9,ee1,↓Ae,↓Aw,↓List.forall_mem_cons,push_cast,↓reduceIte,reduceCtorEq,Nat.reduceEqDiff,Nat.reduceLT,Nat.reduceAdd]
theorem Aza (m:MgR) (hS:Sat w B γ (hbB g gs r) w) (hw:Known w B Fs) (ok:HbOk Fs r) (hm:MgF m w B):Xi 42 [.agg (mgV m).toArray] Fs (r.s.hear m.mg) g gs w B:=by
 have:=Ay9 m hS hw ok hm
 unfold Xm at this
 rw[Fe hS [.x (.g (mgA m))] (fun x hx γ γ'=>by rw[List.mem_singleton.1 hx,Bi,Bi]) γ,List.map_cons,List.map_nil,Bi] at this
 exact this.mono fun e w' ⟨x,γ1,h⟩=>⟨x,γ1,h⟩
end
end Go.Proofs.YtedaafmfjhjfmaaGreatDoor
