import Derived.Test.YtedaafmfjhjfmaaGreatDoorHb2
import Derived.Test.YtedaafmfjhjfmaaGreatDoorLwI
/- Layer 30 walked: Tick, lost; Gone of a tally. -/
namespace Go.Proofs.YtedaafmfjhjfmaaGreatDoor
open _root_.Go.Proofs.Tryz
open Go.RowKit
set_option linter.unusedSimpArgs false
set_option linter.unusedVariables false
attribute [local irreducible] Ac Ad Ah Au Ao Aj Ai Al
attribute [local irreducible] A9 okV Ak erV Bq Tal.can Tal.st
set_option maxRecDepth 100000 in
theorem Ay0 (r:TalR) (id:Int) {Fs:List Fct} {g:Nat} {w:World} {B:Nat→Prop} {γ:List Nm} (hS:Sat w B γ [.pin g 170 (.c (tlA r))] w) (hw:Known w B Fs) (ok:TalOk Fs r):
  Calls prog 96 (List.map (Sv.val (γ++[.m (.bool true) (fun _=>False)])) [.x (.a (.p 0 0)),.x (.a (.v (.int .i64 id)))]).toArray w fun e w'=>∃(x:TalR×List Fct) (γ1:List Nm),(x.1.t=(if r.t.can id=0 then r.t.goneS id else r.t)∧TalOk (Fs++x.2) x.1)∧e=.returned ((Sv.x (.a (.v (erV (r.t.can id))))).val γ1)∧Sat w B γ1 [.pin g 170 (.c (tlA x.1)),.abs (fctRep x.2)] w':=by
 have hkn:=Wm hw
 have fi:=(hw.fw ok.gone (fun e=>by rw[e];rfl))
 have vi:r.gone.val=.slice r.gone.A r.gone.l.length r.gone.c:=rfl
 have kw:∀{hp:List Res} γ' w',Sat w B γ' hp w'→Known w' No Fs:=fun γ' w' hS'=>Ow hS' hw (fun b h=>h.elim)
 refine Cy (n:=22) (ι:=TalR×List Fct) (fun x=>x.1.t=(if r.t.can id=0 then r.t.goneS id else r.t)∧TalOk (Fs++x.2) x.1) (fun _=>.x (.a (.v (erV (r.t.can id))))) (fun x=>[.pin g 170 (.c (tlA x.1)),.abs (fctRep x.2)]) func96 rfl ntmps96 _ (hS.fct0 (by unfold tlA;simp only[push_cast])) (by simp) ?_
 simp (maxSteps:=10^6) only[push_cast,↓reduceIte,reduceCtorEq,Nat.reduceEqDiff,Nat.reduceLT,Nat.reduceAdd]
 (repeat (refine And.intro (by first|omega|decide) ?_))
 refine Am rfl Aa5 rfl (Ada (r:=r) (Fs:=Fs) (k:=0) id rfl ok kw) (Aa rfl) ?_
 by_cases g1:r.t.can id=0
 ·rw[g1,Gc]
  simp (maxSteps:=10^6) only[tlA,undef,push_cast,↓reduceIte,reduceCtorEq,Nat.reduceEqDiff,Nat.reduceLT,Nat.reduceLeDiff,Nat.reduceAdd]
  (repeat (refine And.intro (by first|omega|decide) ?_))
  refine Ic 1 (vs:=(Ak r.gone.l [id]).map (Value.int .i64)) rfl rfl Nz rfl (Mk (svs:=[]) (Q:=fun w en w'=>∃v',en=.returned v'∧Own w' w.heap.size 3 v' ((Ak r.gone.l [id]).map (Value.int .i64))∧Below w.heap.size w w') (va:=r.gone.l.map (Value.int .i64)) (vb:=[id].map (Value.int .i64)) (Dq (show FW w B r.gone.A (r.gone.l.map (Value.int .i64)) from fi.2) _ _ (List.length_map ..) fi.1) (Vn (k:=2) (vs:=[id].map (Value.int .i64)) rfl (fun _=>rfl) 1 1 rfl (Nat.le_refl _)) fun A c A2 c2 w hc hc2 r1 r2=>?_) (Aa rfl) (by simp (maxSteps:=10^6) only[push_cast,Nat.reduceLT,Nat.reduceAdd]) ?_
  ·rw[List.length_map] at hc hc2 ⊢
   rw[List.length_map]
   exact R5 r.gone.l [id] A A2 c c2 w (by have:=ok.few3;omega) (by simp) hc hc2 r1 r2
  intro A cap h1 h2
  simp (maxSteps:=10^6) only[undef,push_cast,↓reduceIte,reduceCtorEq,Nat.reduceEqDiff,Nat.reduceLT,Nat.reduceAdd]
  (repeat (refine And.intro (by first|omega|decide) ?_))
  refine⟨({r with gone:=⟨A,cap,Ak r.gone.l [id]⟩},[⟨.slice A (Ak r.gone.l [id]).length cap,(Ak r.gone.l [id]).length,(Ak r.gone.l [id]).map (Value.int .i64)⟩]),⟨rfl,?_⟩,A6 [0,1] ?_⟩
  ·have h3:=Adb r.gone.l [id]
   exact⟨ok.who.left,ok.inn.left,SlF.new rfl (by simp [Da]),ok.few1,ok.few2,by show (Ak _ _).length≤1000;omega,ok.need,ok.went⟩
  ·simp (maxSteps:=10^6) only[SlV.val,push_cast,↓reduceIte,reduceCtorEq,Nat.reduceAdd]
 ·rw[En g1]
  simp (maxSteps:=10^6) only[push_cast,↓reduceIte,Nat.reduceEqDiff,Nat.reduceLT,Nat.reduceAdd]
  refine⟨(r,[]),⟨by rw[if_neg g1],by rw[List.append_nil];exact ok⟩,A6 [0,1] ?_⟩
  simp (maxSteps:=10^6) only[tlA,push_cast,↓reduceIte,reduceCtorEq,Nat.reduceAdd]
theorem Ae7 {w0 w:World} {ow:Nat→Prop} {γ:List Nm} {hp:List Res} (hS:Sat w0 ow γ hp w) {k:Nat} {r:TalR} {Fs:List Fct} (hk:Ch hp[k]?=some (170,.c (tlA r))) (hw:Known w0 ow Fs) (ok:TalOk Fs r) (id:Int) {γ0:List Nm} (h0:nmB γ0 0=nmB γ k) (hS0:Sat w (fun b=>b=nmB γ k) γ0 [.pin (nmB γ k) 170 (.c (tlA r))] w):
  Calls prog 96 #[.pointer (some ⟨nmB γ k,0,none⟩),.int .i64 id] w fun e w'=>∃(x:TalR×List Fct) (γ1:List Nm),(x.1.t=(if r.t.can id=0 then r.t.goneS id else r.t)∧TalOk (Fs++x.2) x.1)∧e=.returned ((Sv.x (.a (.v (erV (r.t.can id))))).val [])∧Sat w (fun b=>b=nmB γ k) γ1 [.pin (nmB γ k) 170 (.c (tlA x.1)),.abs (fctRep x.2)] w':=by
 have hw':Known w (fun b=>b=nmB γ k) Fs:=Ow hS hw fun b hb=>by
  obtain⟨_,_,r0,hr0,hh,_⟩:=hS.bv hk
  exact (hS.mine k r0 b hr0 (by rw[hh];show some _=some _;rw[hb])).1
 have:=Ay0 r id hS0 hw' ok
 have e0:(List.map (Sv.val (γ0++[Nm.m (.bool true) (fun _=>False)])) [Sv.x (.a (.p 0 0)),.x (.a (.v (.int .i64 id)))]).toArray=#[.pointer (some ⟨nmB γ k,0,none⟩),.int .i64 id]:=by
  show #[Value.pointer (some ⟨nmB _ 0,0,none⟩),_]=_
  rw[Dv (by rw[hS0.len];show 0 < 1;omega),h0]
  rfl
 rw[e0] at this
 exact this
theorem Tp {Fs Gs:List Fct} {r:HbR} {tl:TalR} (h:HbOk Fs r) (ht:TalOk (Fs++Gs) tl):HbOk (Fs++Gs) {r with ty:=tl}:=by
 have h':=h.more (Gs:=Fs++Gs) fun f hf=>List.mem_append_left _ hf
 exact⟨h'.above,h'.under,h'.next,ht,h'.sm,h.few,h.fine⟩
section
variable {r:HbR} {g gs:Nat} {w:World} {B:Nat→Prop} {γ:List Nm} {Fs:List Fct}
set_option maxRecDepth 100000 in
theorem Ay1 (hS:Sat w B γ (hbB g gs r) w) (hw:Known w B Fs) (ok:HbOk Fs r):
  Calls prog 40 (List.map (Sv.val (γ++[.m (.bool true) (fun _=>False)])) [.x (.a (.p 0 0))]).toArray w fun e w'=>∃(x:HbR×SlV SnR×List Fct) (γ1:List Nm),HTellQ Fs r.s.tick.1 r.s.tick.2 x∧e=.returned ((Sv.x (.a (.v x.2.1.val))).val γ1)∧Sat w B γ1 (hbB g gs x.1++[.abs (fctRep x.2.2)]) w':=by
 refine Cy (n:=19) (ι:=HbR×SlV SnR×List Fct) (HTellQ Fs r.s.tick.1 r.s.tick.2) (fun x=>.x (.a (.v x.2.1.val))) (fun x=>hbB g gs x.1++[.abs (fctRep x.2.2)]) func40 rfl ntmps40 [.x (.a (.p 0 0))] (hS.fct0 (Ar g gs r)) (by show 1≤19;omega) ?_
 unfold hbB hbA
 by_cases hp:r.phase=0
 case neg=>
  have e0:r.s.tick=(r.s,[]):=if_neg hp
  rw[e0]
  simp (maxSteps:=10^6) only[hp,undef,push_cast,↓reduceIte,reduceCtorEq,Nat.reduceEqDiff,Nat.reduceLT,Nat.reduceAdd]
  refine⟨(r,⟨none,0,[]⟩,[]),⟨rfl,rfl,by rw[List.append_nil];exact ok,D4 _,fun _=>rfl⟩,A6 [0,1,2,3,4,5,6] ?_⟩
  have e9:(⟨none,0,[]⟩:SlV SnR).val=.slice none 0 0:=rfl
  simp (maxSteps:=10^6) only[e9,↓Ae,↓Aw,↓List.forall_mem_cons,push_cast,↓reduceIte,reduceCtorEq,Nat.reduceEqDiff,Nat.reduceLT,Nat.reduceAdd]
 have hpt:(r.phase=0)=True:=eq_true hp
 have e0:r.s.tick=({r.s with tally:=r.s.tally.tick}:HbS).on:=if_pos hp
 rw[e0]
 simp (maxSteps:=10^6) only[hpt,undef,push_cast,↓reduceIte,reduceCtorEq,Nat.reduceEqDiff,Nat.reduceLT,Nat.reduceAdd]
 (repeat (refine And.intro (by first|omega|decide) ?_))
 refine Sm (ι:=TalR×List Fct) 1 6 (fun x=>x.1.t=r.ty.t.tick∧TalOk (Fs++x.2) x.1) (fun _=>.t []) (fun x=>.c (tlA x.1)) (fun x=>x.2) rfl rfl rfl Aog rfl (fun γ' w' hS' γ0 h0 hS0=>Awm ok.ty h0 hS0) (fun _ _=>rfl) (of_eq_true (Ae r.ty 0)) (fun x=>of_eq_true (Ae x.1 0)) (Aa rfl) (by simp (maxSteps:=10^6) only[↓Ae,↓List.forall_mem_cons,push_cast,Nat.reduceLT,Nat.reduceAdd]) ?_
 rintro⟨tl,G⟩ ⟨q1,q2⟩
 dsimp only at q1 q2
 obtain⟨r1,hr1⟩:∃r1:HbR,r1={r with ty:=tl}:=⟨_,rfl⟩
 have es:r1.s=({r.s with tally:=r.s.tally.tick}:HbS):=by
  rw[hr1]
  show HbS.mk _ _ _ _ _ _ tl.t _ _=_
  rw[q1]
  rfl
 have ok1:HbOk (Fs++G) r1:=by rw[hr1];exact Tp ok q2
 simp (maxSteps:=10^6) only[push_cast,↓reduceIte,reduceCtorEq,Nat.reduceLT,Nat.reduceAdd]
 (repeat (refine And.intro (by first|omega|decide) ?_))
 refine Gp [17] ?_
 simp (maxSteps:=10^6) only[push_cast,↓reduceIte]
 refine C9 (ι:=HbR×SlV SnR×List Fct) (A:=hbB g gs r1) (M:=[.abs (fctRep G)]) (g:=g) (t:=149) (c:=.c (hbA r1)) (l:=G) 0 (HTellQ (Fs++G) r1.s.on.1 r1.s.on.2) (fun x=>.x (.a (.v x.2.1.val))) (fun x=>hbB g gs x.1) (fun x=>x.2.2) (by rw[hr1];rfl) rfl rfl (fun x _=>⟨_,rfl⟩) (fun x _=>rfl) rfl N2 rfl (fun γ' w' hS' hg=>?_) (fun _ _=>rfl) (Aa rfl) (Ar g gs r1) (fun x _=>Ar g gs x.1) (by simp (maxSteps:=10^6) only[↓Ae,↓List.forall_mem_cons,push_cast,Nat.reduceLT,Nat.reduceAdd]) (by
  show ∀x∈_,Sv.av 6 _
  simp (maxSteps:=10^6) only[↓List.forall_mem_cons,push_cast,Nat.reduceLeDiff]) (by
  show ∀x∈_,Res.av 6 _
  simp (maxSteps:=10^6) only[↓List.forall_mem_cons,push_cast]) ?_
 ·have k1:=Ms (D3 (A:=hbB g gs r1) hS' hw) (D2 (A:=hbB g gs r1) hS' (k:=0) rfl)
  have:=Xh (hS'.frontA (Ar g gs r1)) k1 ok1
  show Calls _ _ #[.pointer (some ⟨nmB γ' 0,0,none⟩)] w' _
  rw[hg]
  exact this
 rintro⟨r2,out,G2⟩ ⟨t1,t2,t3,t4,t5⟩
 dsimp only at t1 t2 t3 t4 t5
 rw[es] at t1 t2
 unfold hbB hbA
 simp (maxSteps:=10^6) only[push_cast,↓reduceIte,Nat.reduceLT,Nat.reduceAdd]
 refine⟨(r2,out,G++G2),⟨t1,t2,by show HbOk (Fs++(G++G2)) r2;rw[←List.append_assoc];exact t3,t4.more fun f hf=>List.mem_append_right _ hf,t5⟩,A6 [0,1,2,3,4,5,6] ?_⟩
 simp (maxSteps:=10^6) only[↓Ae,↓Aw,↓List.forall_mem_cons,push_cast,↓reduceIte,reduceCtorEq,Nat.reduceEqDiff,Nat.reduceLT,Nat.reduceAdd]
theorem Ay2 (hS:Sat w B γ (hbB g gs r) w) (hw:Known w B Fs) (ok:HbOk Fs r):Xf 40 [] Fs r.s.tick.1 r.s.tick.2 g gs w B:=by
 have:=Ay1 hS hw ok
 rw[Fe hS [] (fun x hx=>by cases hx) γ] at this
 exact this.mono fun e w' ⟨x,γ1,h⟩=>⟨x,γ1,h⟩
def Xi (f:FuncId) (xs:List Value) (Fs:List Fct) (s:HbS×List SnS×Int) (g gs:Nat) (w:World) (B:Nat→Prop):Prop:=
 Calls prog f (.pointer (some ⟨g,0,none⟩)::xs).toArray w fun e w'=>∃(x:HbR×SlV SnR×List Fct) (γ1:List Nm),HTellQ Fs s.1 s.2.1 x∧e=.returned (.tuple #[x.2.1.val,erV s.2.2])∧Sat w B γ1 (hbB g gs x.1++[.abs (fctRep x.2.2)]) w'
def Xj (Fs:List Fct) (r:HbR) (m:MgR) (g gs:Nat) (w:World) (B:Nat→Prop) (γ:List Nm):Prop:=
 Calls prog 99 (List.map (Sv.val (γ++[.m (.bool true) (fun _=>False)])) [.x (.a (.p 0 0)),.x (.g (mgA m))]).toArray w fun e w'=>∃(x:HbR×SlV SnR×List Fct) (γ1:List Nm),HTellQ Fs (r.s.lost m.mg).1 (r.s.lost m.mg).2.1 x∧e=.returned ((Sv.t [.a (.v x.2.1.val),.a (.v (erV (r.s.lost m.mg).2.2))]).val γ1)∧Sat w B γ1 (hbB g gs x.1++[.abs (fctRep x.2.2)]) w'
set_option maxRecDepth 100000 in
set_option maxHeartbeats 2000000 in
theorem Ay3 (m:MgR) (hS:Sat w B γ (hbB g gs r) w) (hw:Known w B Fs) (ok:HbOk Fs r) (hm:MgF m w B):Xj Fs r m g gs w B γ:=by
 unfold Xj
 have few:=hm.few
 have gm:=Bd (show m.sm.length=32 from few.sm)
 obtain⟨f0,f1,f2,f3,f4,f5,f38,f39,f40,f41,f42⟩:=C8 (show m.sm.length=32 from few.sm)
 have vi:m.ids.val=.slice m.ids.A m.ids.l.length m.ids.c:=rfl
 have e9:(⟨none,0,[]⟩:SlV SnR).val=.slice none 0 0:=rfl
 have ee2:erV 2=.iface 91 (.int .i64 2):=En (by decide)
 have ee9:erV 9=.iface 91 (.int .i64 9):=En (by decide)
 refine Cy (n:=44) (ι:=HbR×SlV SnR×List Fct) (HTellQ Fs (r.s.lost m.mg).1 (r.s.lost m.mg).2.1) (fun x=>.t [.a (.v x.2.1.val),.a (.v (erV (r.s.lost m.mg).2.2))]) (fun x=>hbB g gs x.1++[.abs (fctRep x.2.2)]) func99 rfl ntmps99 [.x (.a (.p 0 0)),.x (.g (mgA m))] (hS.fct0 (Ar g gs r)) (by show 2≤44;omega) ?_
 have nil_:∀E:Int,r.s.lost m.mg=(r.s,[],E)→HTellQ Fs (r.s.lost m.mg).1 (r.s.lost m.mg).2.1 (r,⟨none,0,[]⟩,[]):=fun E e=>by
  rw[e]
  exact⟨rfl,rfl,by rw[List.append_nil];exact ok,D4 _,fun _=>rfl⟩
 unfold hbB hbA
 by_cases hp:r.phase=0
 case neg=>
  have e0:r.s.lost m.mg=(r.s,[],9):=if_pos hp
  simp (maxSteps:=10^6) only[hp,undef,↓Ae,↓List.forall_mem_cons,↓A8,↓Be,push_cast,↓reduceIte,reduceCtorEq,Nat.reduceEqDiff,Nat.reduceLT,Nat.reduceAdd]
  refine⟨(r,⟨none,0,[]⟩,[]),nil_ 9 e0,A6 [0,1,2,3,4,5,6] ?_⟩
  rw[e0]
  simp (maxSteps:=10^6) only[e9,ee9,↓Ae,↓Aw,↓List.forall_mem_cons,push_cast,↓reduceIte,reduceCtorEq,Nat.reduceEqDiff,Nat.reduceLT,Nat.reduceAdd]
 have hpt:(r.phase=0)=True:=eq_true hp
 by_cases h1:(m.ids.l.length:Int)=1
 case neg=>
  have e0:r.s.lost m.mg=(r.s,[],2):=(if_neg (fun h=>h hp)).trans (if_pos (.inl (show m.ids.l.length≠1 from fun e=>h1 (by omega))))
  simp (maxSteps:=10^6) only[hpt,undef,↓Ae,↓List.forall_mem_cons,↓A8,↓Be,push_cast,↓reduceIte,reduceCtorEq,Nat.reduceLT,Nat.reduceAdd]
  (repeat (refine And.intro (by first|omega|decide) ?_))
  refine B3 [(0,true),(1,true),(2,true),(3,true),(4,true),(5,true),(6,true),(7,true),(8,true),(9,true),(10,true),(11,true),(12,true),(13,false),(14,true),(15,true)] (by kernel_rfl) (by kernel_rfl) rfl (by kernel_rfl) ?_
  simp (maxSteps:=10^6) only[h1,gm,f38,vi,undef,push_cast,↓reduceIte,reduceCtorEq,Nat.reduceEqDiff,Nat.reduceLT,Nat.reduceAdd]
  refine⟨(r,⟨none,0,[]⟩,[]),nil_ 2 e0,A6 [0,1,2,3,4,5,6] ?_⟩
  rw[e0]
  simp (maxSteps:=10^6) only[e9,ee2,↓Ae,↓Aw,↓List.forall_mem_cons,push_cast,↓reduceIte,reduceCtorEq,Nat.reduceEqDiff,Nat.reduceLT,Nat.reduceAdd]
 have hl1:m.ids.l.length=1:=by omega
 have Fi:FM (Value.int .i64) w B m.ids.A m.ids.l:=FM.fw hm.ids.2
 have ci:=Fi.cell 0 (by omega)
 have oi:=eq_true (Fi.ok 0 (by omega))
 have si:=Fi.some_ (by omega)
 rw[Cq] at ci oi
 have i1:(0:Int) < m.ids.l.length:=by omega
 have fu:=hw.fw ok.under (fun e=>by rw[e];rfl)
 have vu:r.under.val=.slice r.under.A r.under.l.length r.under.c:=rfl
 simp (maxSteps:=10^6) only[hpt,undef,↓Ae,↓List.forall_mem_cons,↓A8,↓Be,push_cast,↓reduceIte,reduceCtorEq,Nat.reduceLT,Nat.reduceAdd]
 (repeat (refine And.intro (by first|omega|decide) ?_))
 refine B3 [(0,true),(1,true),(2,true),(3,true),(4,true),(5,true),(6,true),(7,true),(8,true),(9,true),(10,true),(11,true),(12,true),(13,false),(14,true),(15,true)] (by kernel_rfl) (by kernel_rfl) rfl (by kernel_rfl) ?_
 simp (maxSteps:=10^6) only[h1,gm,f38,vi,ci,oi,si,vu,Cq,undef,push_cast,↓reduceIte,reduceCtorEq,Nat.reduceEqDiff,Nat.reduceLT,Nat.reduceAdd,Int.reduceLE,Int.reduceLT]
 (repeat (refine And.intro (by first|omega|decide) ?_))
 obtain⟨E,hE⟩:∃E:Int,E=r.ty.t.can (ix m.ids.l 0):=⟨_,rfl⟩
 refine Kr rfl Kw rfl (Lb (l:=r.under.l) (ix m.ids.l 0) (by have:=ok.few.2.1;omega) (Dq fu.2 _ _ (List.length_map ..) fu.1)) (Aa rfl) ?_
 by_cases hin:ix m.ids.l 0∈r.under.l
 case neg=>
  have hb:Em (ix m.ids.l 0) r.under.l=false:=decide_eq_false hin
  have e0:r.s.lost m.mg=(r.s,[],2):=(if_neg (fun h=>h hp)).trans (if_pos (.inr hin))
  simp (maxSteps:=10^6) only[hb,push_cast,↓reduceIte,Nat.reduceEqDiff,Nat.reduceLT,Nat.reduceAdd]
  refine⟨(r,⟨none,0,[]⟩,[]),nil_ 2 e0,A6 [0,1,2,3,4,5,6] ?_⟩
  rw[e0]
  simp (maxSteps:=10^6) only[e9,ee2,vu,↓Ae,↓Aw,↓List.forall_mem_cons,push_cast,↓reduceIte,reduceCtorEq,Nat.reduceEqDiff,Nat.reduceLT,Nat.reduceAdd]
 have hb:Em (ix m.ids.l 0) r.under.l=true:=decide_eq_true hin
 have hn1:¬(r.s.phase≠0):=fun h=>h hp
 have hn2:¬(m.mg.ids.length≠1∨ix m.mg.ids 0∉r.s.under):=fun h=>h.elim (fun h=>h hl1) fun h=>h hin
 simp (maxSteps:=10^6) only[hb,push_cast,↓reduceIte,Nat.reduceEqDiff,Nat.reduceLT,Nat.reduceAdd]
 (repeat (refine And.intro (by first|omega|decide) ?_))
 refine Ha 8 [(0,true),(1,true),(2,true),(3,true),(4,true),(5,true),(6,true),(7,true)] (by kernel_rfl) (by kernel_rfl) ?_
 simp (maxSteps:=10^6) only[gm,f38,vi,ci,oi,si,i1,Cq,undef,push_cast,↓reduceIte,reduceCtorEq,Nat.reduceEqDiff,Nat.reduceLT,Nat.reduceAdd,Int.reduceLE]
 (repeat (refine And.intro (by first|omega|decide) ?_))
 refine Sm (ι:=TalR×List Fct) 1 6 (fun x=>x.1.t=(if r.ty.t.can (ix m.ids.l 0)=0 then r.ty.t.goneS (ix m.ids.l 0) else r.ty.t)∧TalOk (Fs++x.2) x.1) (fun _=>.x (.a (.v (erV (r.ty.t.can (ix m.ids.l 0)))))) (fun x=>.c (tlA x.1)) (fun x=>x.2) rfl rfl rfl Aaz rfl (fun γ' w' hS' γ0 h0 hS0=>Ae7 hS' (k:=1) rfl hw ok.ty (ix m.ids.l 0) h0 hS0) (fun _ _=>rfl) (of_eq_true (Ae r.ty 0)) (fun x=>of_eq_true (Ae x.1 0)) (Aa rfl) (by simp (maxSteps:=10^6) only[↓Ae,↓List.forall_mem_cons,↓Ag,↓A8,push_cast,Nat.reduceLT,Nat.reduceAdd]) ?_
 rintro⟨tl,G⟩ ⟨q1,q2⟩
 dsimp only at q1 q2
 rw[←hE] at q1 ⊢
 obtain⟨r1,hr1⟩:∃r1:HbR,r1={r with ty:=tl}:=⟨_,rfl⟩
 have ok1:HbOk (Fs++G) r1:=by rw[hr1];exact Tp ok q2
 by_cases hE0:E=0
 case neg=>
  have eE:erV E=.iface 91 (.int .i64 E):=En hE0
  have e0:r.s.lost m.mg=(r.s,[],E):=((if_neg hn1).trans (if_neg hn2)).trans ((if_pos (show r.ty.t.can (ix m.ids.l 0)≠0 by rw[←hE];exact hE0)).trans (by show (r.s,[],r.ty.t.can (ix m.ids.l 0))=_;rw[←hE]))
  have es:r1.s=r.s:=by
   rw[hr1]
   show HbS.mk _ _ _ _ _ _ tl.t _ _=_
   rw[q1,if_neg hE0]
   rfl
  rw[e0]
  simp (maxSteps:=10^6) only[eE,push_cast,↓reduceIte,Nat.reduceEqDiff,Nat.reduceLT,Nat.reduceAdd]
  refine⟨(r1,⟨none,0,[]⟩,G),⟨es,rfl,ok1,D4 _,fun _=>rfl⟩,A6 [0,1,2,3,4,5,6] ?_⟩
  rw[hr1]
  simp (maxSteps:=10^6) only[e9,vu,↓Ae,↓Aw,↓List.forall_mem_cons,push_cast,↓reduceIte,reduceCtorEq,Nat.reduceEqDiff,Nat.reduceLT,Nat.reduceAdd]
 have e0:r.s.lost m.mg=((r.s.talG (ix m.ids.l 0)).on.1,(r.s.talG (ix m.ids.l 0)).on.2,0):=((if_neg hn1).trans (if_neg hn2)).trans (if_neg (show ¬r.ty.t.can (ix m.ids.l 0)≠0 from fun h=>h (by rw[←hE];exact hE0)))
 have es:r1.s=r.s.talG (ix m.ids.l 0):=by
  rw[hr1]
  show HbS.mk _ _ _ _ _ _ tl.t _ _=HbS.mk _ _ _ _ _ _ (if r.ty.t.can (ix m.ids.l 0)=0 then _ else _) _ _
  rw[q1,←hE]
  rfl
 rw[e0,hE0,Gc]
 simp (maxSteps:=10^6) only[push_cast,↓reduceIte,reduceCtorEq,Nat.reduceLT,Nat.reduceAdd]
 (repeat (refine And.intro (by first|omega|decide) ?_))
 refine Gp [42] ?_
 simp (maxSteps:=10^6) only[push_cast,↓reduceIte]
 refine C9 (ι:=HbR×SlV SnR×List Fct) (A:=hbB g gs r1) (M:=[.abs (fctRep G),.blk 48 (.c (mgA m))]) (g:=g) (t:=149) (c:=.c (hbA r1)) (l:=G) 0 (HTellQ (Fs++G) r1.s.on.1 r1.s.on.2) (fun x=>.x (.a (.v x.2.1.val))) (fun x=>hbB g gs x.1) (fun x=>x.2.2) (by rw[hr1];rfl) rfl rfl (fun x _=>⟨_,rfl⟩) (fun x _=>rfl) rfl N2 rfl (fun γ' w' hS' hg=>?_) (fun _ _=>rfl) (Aa rfl) (Ar g gs r1) (fun x _=>Ar g gs x.1) (by simp (maxSteps:=10^6) only[↓Ae,↓List.forall_mem_cons,↓Ag,push_cast,Nat.reduceLT,Nat.reduceAdd]) (by
  show ∀x∈_,Sv.av 6 _
  simp (maxSteps:=10^6) only[↓List.forall_mem_cons,push_cast,Nat.reduceLeDiff]) (by
  show ∀x∈_,Res.av 6 _
  simp (maxSteps:=10^6) only[↓List.forall_mem_cons,↓Ck,push_cast]) ?_
 ·have k1:=Ms (D3 (A:=hbB g gs r1) hS' hw) (D2 (A:=hbB g gs r1) hS' (k:=0) rfl)
  have:=Xh (hS'.frontA (Ar g gs r1)) k1 ok1
  show Calls _ _ #[.pointer (some ⟨nmB γ' 0,0,none⟩)] w' _
  rw[hg]
  exact this
 rintro⟨r2,out,G2⟩ ⟨t1,t2,t3,t4,t5⟩
 dsimp only at t1 t2 t3 t4 t5
 rw[es] at t1 t2
 unfold hbB hbA
 simp (maxSteps:=10^6) only[push_cast,↓reduceIte,Nat.reduceEqDiff,Nat.reduceLT,Nat.reduceAdd]
 refine⟨(r2,out,G++G2),⟨t1,t2,by show HbOk (Fs++(G++G2)) r2;rw[←List.append_assoc];exact t3,t4.more fun f hf=>List.mem_append_right _ hf,t5⟩,A6 [0,1,2,3,4,5,6] ?_⟩
 simp (maxSteps:=10^6) only[↓Ae,↓Aw,↓List.forall_mem_cons,push_cast,↓reduceIte,reduceCtorEq,Nat.reduceEqDiff,Nat.reduceLT,Nat.reduceAdd]
theorem Ay4 (m:MgR) (hS:Sat w B γ (hbB g gs r) w) (hw:Known w B Fs) (ok:HbOk Fs r) (hm:MgF m w B):Xi 99 [.agg (mgV m).toArray] Fs (r.s.lost m.mg) g gs w B:=by
 have:=Ay3 m hS hw ok hm
 unfold Xj at this
 rw[Fe hS [.x (.g (mgA m))] (fun x hx γ γ'=>by rw[List.mem_singleton.1 hx,Bi,Bi]) γ,List.map_cons,List.map_nil,Bi] at this
 exact this.mono fun e w' ⟨x,γ1,h⟩=>⟨x,γ1,h⟩
end
end Go.Proofs.YtedaafmfjhjfmaaGreatDoor
