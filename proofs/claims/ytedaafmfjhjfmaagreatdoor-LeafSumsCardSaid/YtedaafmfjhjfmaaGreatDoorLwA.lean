import Derived.Test.YtedaafmfjhjfmaaGreatDoorLw8
/- Layer 28 walked: tellRoster. -/
namespace Go.Proofs.YtedaafmfjhjfmaaGreatDoor
open Go.RowKit
set_option linter.unusedSimpArgs false
set_option linter.unusedVariables false
attribute [local irreducible] Ah Ai Am Bc A7 Ay Ap A6
attribute [local irreducible] A8 okV Bj erV Tal.can Tal.st
theorem Aca {w0:World} {ow:Nat→Prop} {hp:List Res} {k:Nat} {r:TalR} {Fs:List Fct} (hk:Cf hp[k]?=some (170,.c (tlA r))) (ok:TalOk Fs r) (hw:Known w0 ow Fs) (hbr:∀r∈hp,Res.bnd hp.length r):
  Ai Tryz.prog w0 ow 150 [.x (.a (.p k 0))] hp (.x (.a (.o hp.length))) (hp++[.own 3 (.i64 r.inn.l)]):=I7 hbr trivial fun γ w hS=>
 Abv r _ w (Ns hS hk).2 (ok.at_ (L8 (B:=No) hS hw (fun b h=>h.elim))) ok.few2
def Bi (Fs:List Fct) (s:LfS) (out:List SnS) (x:LfR×SlV SnR×List Fct):Prop:=x.1.s=s∧x.2.1.l.map SnR.s=out∧(x.1.phase < 2→x.1.live=true)∧LfOk (Fs++x.2.2) x.1∧OutOk x.2.2 x.2.1
theorem A37 {γ:List Nm} {A:List Res} (b:Nat) (h:∃(k:Nat) (r:Res),A[k]?=some r∧r.has γ k b) (M:List Res):∃(k:Nat) (r:Res),k∈List.range A.length∧(A++M)[k]?=some r∧r.has γ k b:=by
 obtain⟨k,r,h1,h2⟩:=h
 exact⟨k,r,List.mem_range.2 (Bb h1),by rw[List.getElem?_append_left (Bb h1)];exact h1,h2⟩
theorem D1 {w0 w:World} {ow:Nat→Prop} {γ:List Nm} {A M:List Res} {k:Nat} {Gs:List Fct} (hS:Sat w0 ow γ (A++M) w) (hk:M[k]?=some (.abs (Aa Gs))):Known w (fun b=>∃(k:Nat) (r:Res),A[k]?=some r∧r.has γ k b) Gs:=
 A2h (k:=A.length+k) hS (by rw[List.getElem?_append_right (Nat.le_add_right _ _),Nat.add_sub_cancel_left];exact hk) (List.range A.length) (by simp) fun b hb=>A37 b hb M
theorem Dr {w0 w:World} {ow:Nat→Prop} {γ:List Nm} {A M:List Res} {Fs:List Fct} (hS:Sat w0 ow γ (A++M) w) (hw:Known w0 ow Fs):Known w (fun b=>∃(k:Nat) (r:Res),A[k]?=some r∧r.has γ k b) Fs:=L8 hS hw fun b ⟨k,r,h1,h2⟩=>(hS.mine k r b (by rw[List.getElem?_append_left (Bb h1)];exact h1) h2).1
set_option maxRecDepth 100000 in
theorem A38 (r:LfR) {g:Nat} {w:World} {B:Nat→Prop} {γ:List Nm} {Fs:List Fct} (hS:Sat w B γ (lfB g r) w) (hw:Known w B Fs) (ok:LfOk Fs r) (hph:r.phase=0) (hlv:r.live=true) (h1:Br (-1) r.ty.inn.l=true) (h2:1≤r.need∧r.need≤r.ty.inn.l.length) (h3:1≤r.term∧r.term≤1000):
  Calls Tryz.prog 117 (List.map (Sv.val (γ++[.m (.bool true) (fun _=>False)])) [.x (.a (.p 0 0))]).toArray w fun e w'=>∃(x:LfR×SlV SnR×List Fct) (γ1:List Nm),Bi Fs r.s.roster.1 r.s.roster.2 x∧e=.returned ((Sv.x (.a (.v x.2.1.val))).val γ1)∧Sat w B γ1 (lfB g x.1++[.abs (Aa x.2.2)]) w':=by
 have gl:=Aw ok.sum.s
 refine Ci (n:=26) (ι:=LfR×SlV SnR×List Fct) (Bi Fs r.s.roster.1 r.s.roster.2) (fun x=>.x (.a (.v x.2.1.val))) (fun x=>lfB g x.1++[.abs (Aa x.2.2)]) Tryz.func117 rfl Tryz.ntmps117 [.x (.a (.p 0 0))] (hS.fct0 (Ar g r)) (by show 1≤26;omega) ?_
 unfold lfB lfA
 simp (maxSteps:=10^6) only[↓Ag,↓List.forall_mem_cons,↓Ad,↓Af,push_cast,↓reduceIte,Nat.reduceLT,Nat.reduceAdd]
 (repeat (refine And.intro (by first|omega|decide) ?_))
 refine Fw 8 [(0,true),(1,true),(2,true),(3,true),(4,true),(5,false),(6,true),(7,true)] (by kernel_rfl) (by kernel_rfl) ?_
 simp (maxSteps:=10^6) only[gl,undef,push_cast,↓reduceIte,reduceCtorEq,Nat.reduceEqDiff,Nat.reduceLT,Nat.reduceAdd]
 (repeat (refine And.intro (by first|omega|decide) ?_))
 refine Lx rfl U2 rfl (Aca (k:=1) rfl ok.ty hw (by simp (maxSteps:=10^6) only[↓Ag,↓List.forall_mem_cons,↓Ad,↓Af,push_cast,Nat.reduceLT,Nat.reduceAdd])) (Ae rfl) (by simp (maxSteps:=10^6) only[↓Ag,↓List.forall_mem_cons,↓Ad,↓Af,push_cast,Nat.reduceLT,Nat.reduceAdd]) ?_
 simp (maxSteps:=10^6) only[gl,push_cast,↓reduceIte,reduceCtorEq,Nat.reduceEqDiff,Nat.reduceLT,Nat.reduceAdd]
 (repeat (refine And.intro (by first|omega|decide) ?_))
 refine Va 7 5 (vs:=r.ty.inn.l.map (Value.int .i64)) rfl (fun _=>rfl) rfl (by decide) fun A cap b1 b2=>?_
 rw[List.length_map] at b1
 simp (maxSteps:=10^6) only[Ii,Ih,Res.sub,Cont.sub,Sv.sub,Sc.sub,At.sub,Hz,Gg,List.length_map,K0,↓Io,Ip,push_cast,↓reduceIte,Nat.reduceEqDiff]
 refine Zw [1] ?_
 refine Fw 5 [(0,true),(1,true),(2,true),(3,true),(4,true)] (by kernel_rfl) (by kernel_rfl) ?_
 simp (maxSteps:=10^6) only[gl,undef,push_cast,↓reduceIte,reduceCtorEq,Nat.reduceEqDiff,Nat.reduceLT,Nat.reduceAdd]
 (repeat (refine And.intro (by first|omega|decide) ?_))
 obtain⟨r1,hr1⟩:∃r1:LfR,r1={r with joined:=⟨A,cap,r.ty.inn.l⟩}:=⟨_,rfl⟩
 have ok1:LfOk (Fs++[⟨.slice A r.ty.inn.l.length cap,r.ty.inn.l.length,r.ty.inn.l.map (Value.int .i64)⟩]) r1:=by
  have ok':=ok.more (Gs:=Fs++[⟨.slice A r.ty.inn.l.length cap,r.ty.inn.l.length,r.ty.inn.l.map (Value.int .i64)⟩]) fun f hf=>List.mem_append_left _ hf
  rw[hr1]
  exact⟨ok'.above,ok'.group,ok'.waits,.inr (List.mem_append_right _ (List.mem_singleton.2 rfl)),ok'.ty,ok'.boxes,ok'.rows,ok'.sum,ok.few1,ok.few2,ok.few3,ok.ty.few2,ok.few5,ok.few6,ok.dim,ok.need,ok.term⟩
 refine Dq (ι:=LfR×List Fct) (A:=lfB g r1) (M:=[.abs (Aa [⟨.slice A r.ty.inn.l.length cap,r.ty.inn.l.length,r.ty.inn.l.map (Value.int .i64)⟩]),.blk 30 (.c [.p 0 0]),.gone]) (g:=g) (t:=104) (c:=.c (lfA r1)) (l:=[⟨.slice A r.ty.inn.l.length cap,r.ty.inn.l.length,r.ty.inn.l.map (Value.int .i64)⟩]) 0
  (fun x=>x.1.s=r1.s.wait r.ty.inn.l∧x.1.live=r1.live∧LfOk ((Fs++[⟨.slice A r.ty.inn.l.length cap,r.ty.inn.l.length,r.ty.inn.l.map (Value.int .i64)⟩])++x.2) x.1) (fun _=>.t []) (fun x=>lfB g x.1) (fun x=>x.2) (by rw[hr1];rfl) rfl rfl (fun x _=>⟨_,rfl⟩) (fun x _=>rfl) rfl Uw rfl (fun γ' w' hS' hg=>?_) (fun _ _=>rfl) (Ae rfl) (Ar g r1) (fun x _=>Ar g x.1) (by simp (maxSteps:=10^6) only[↓Ag,↓List.forall_mem_cons,↓Ad,↓Af,push_cast,Nat.reduceLT,Nat.reduceAdd]) (by
   show ∀x∈_,Sv.av 5 _
   simp (maxSteps:=10^6) only[push_cast,reduceCtorEq,Nat.reduceLeDiff]) (by
   show ∀x∈_,Res.av 5 _
   simp (maxSteps:=10^6) only[push_cast,Nat.reduceLeDiff]) ?_
 ·have hk1:=D1 (A:=lfB g r1) hS' (k:=0) rfl
  have hkA:=Dr (A:=lfB g r1) hS' hw
  have hk2:=hk1 _ (List.mem_singleton.2 rfl)
  obtain⟨A',c',x1,x2,x3⟩:=hk2
  have x1:Value.slice A r.ty.inn.l.length cap=.slice A' r.ty.inn.l.length c':=x1
  injection x1 with y1 _ y3
  subst y1 y3
  have:=Ab6 r1 r.ty.inn.l A cap (hS'.frontA (Ar g r1)) ok1 x3 b1 ok.ty.few2 h1 (by rw[hr1];exact h2) (by rw[hr1];exact h3)
  show Calls _ _ #[.pointer (some ⟨nmB γ' 0,0,none⟩),.slice A r.ty.inn.l.length cap] w' _
  rw[hg]
  exact this
 rintro⟨r2,G⟩ ⟨q1,ql,q2⟩
 dsimp only at q1 ql q2
 have gl2:=Aw q2.sum.s
 unfold lfB lfA
 simp (maxSteps:=10^6) only[gl2,undef,push_cast,↓reduceIte,reduceCtorEq,Nat.reduceEqDiff,Nat.reduceLT,Nat.reduceAdd]
 have eb:bxR ({r2 with phase:=1}:LfR)=bxR r2:=rfl
 obtain⟨r3,hr3⟩:∃r3:LfR,r3={r2 with phase:=1}:=⟨_,rfl⟩
 have es:r3.s=r.s.roster.1:=by
  rw[hr3]
  show ({r2.s with phase:=1}:LfS)=_
  rw[q1,hr1]
  rfl
 have eo:r.s.roster.2=Cq r3.s.joined (fun _=>{Cp 2 with pl:=0,ge:=r3.s.gen,ps:=r3.s.peers r3.s.joined}):=by
  rw[es]
  rfl
 have ok3:LfOk ((Fs++[⟨.slice A r.ty.inn.l.length cap,r.ty.inn.l.length,r.ty.inn.l.map (Value.int .i64)⟩])++G) r3:=by
  rw[hr3]
  exact⟨q2.above,q2.group,q2.waits,q2.joined,q2.ty,q2.boxes,q2.rows,q2.sum,q2.few1,q2.few2,q2.few3,q2.few4,q2.few5,q2.few6,q2.dim,q2.need,q2.term⟩
 have vj:r2.joined.val=.slice r2.joined.A r2.joined.l.length r2.joined.c:=rfl
 refine Fk (ι:=SlV SnR×List Fct) (fun x=>x.1.l.map SnR.s=r.s.roster.2∧OutOk x.2 x.1) (fun x=>.x (.a (.v x.1.val))) (fun x=>x.2) 5 rfl rfl Qs rfl (fun γ' w' hS'=>?_) (fun _ _=>rfl) (Ae rfl) (by simp (maxSteps:=10^6) only[↓Ag,↓List.forall_mem_cons,↓Ad,↓Af,push_cast,Nat.reduceLT,Nat.reduceAdd]) ?_
 ·have hS2:Sat w B γ' (lfB g r3++[.abs (Aa (⟨.slice A r.ty.inn.l.length cap,r.ty.inn.l.length,r.ty.inn.l.map (Value.int .i64)⟩::G)),.blk 30 (.c [.p 0 0]),.gone]) w':=by
   rw[hr3]
   unfold lfB
   rw[eb]
   exact hS'
  obtain⟨hg,hat⟩:=Js hS2
  have hv:=Fz (k:=6) (t:=30) (c:=.c [.p 0 0]) (vs:=[.pointer (some ⟨g,0,none⟩)]) hS2 rfl (by show [Value.pointer (some ⟨nmB γ' 0,0,none⟩)]=_;rw[hg])
  have hkn:Known w' No ((Fs++[⟨.slice A r.ty.inn.l.length cap,r.ty.inn.l.length,r.ty.inn.l.map (Value.int .i64)⟩])++G):=by
   have k1:=Iq (D1 (A:=lfB g r3) hS2 (k:=0) rfl)
   have k2:=Iq (Dr (A:=lfB g r3) hS2 hw)
   exact (Nr k2 k1).mono fun f hf=>by
    simp only[List.append_assoc,List.cons_append,List.nil_append] at hf
    exact hf
  have hj:=hkn.fw ok3.joined (fun e=>by rw[e];rfl)
  have e3:r3.joined=r2.joined:=by rw[hr3]
  rw[eo]
  have:=R0 r3.joined.l r3.joined.A r3.joined.c (.func (.func 151) #[] #[.pointer (some ⟨nmB γ' 6,0,none⟩)]) (fun _=>{Cp 2 with pl:=0,ge:=r3.s.gen,ps:=r3.s.peers r3.s.joined}) w' ok3.few4 hj.2.rd fun id _=>⟨_,_,rfl,Ax6,fun w1 hk1=>A3r r3 ⟨g,0,none⟩ ⟨nmB γ' 6,0,none⟩ id w1 (hat.later hk1) ok3.sum.s (hv.later hk1) ⟨hj.1,(hj.2.rd.below (Dc hk1)).more (Dc hk1).size⟩ ok3.few4⟩
  refine Calls.mono (R:=fun e w''=>∃(x:SlV SnR×List Fct) (γ1:List Nm),(x.1.l.map SnR.s=Cq r3.joined.l (fun _=>{Cp 2 with pl:=0,ge:=r3.s.gen,ps:=r3.s.peers r3.s.joined})∧OutOk x.2 x.1)∧e=.returned x.1.val∧Sat w' No γ1 [.abs (Aa x.2)] w'') ?_ (fun e w'' ⟨x,γ1,h1,h2,h3⟩=>⟨x,γ1,h1,h2,h3⟩)
  rw[←e3] at vj
  show Calls _ _ #[r2.joined.val,.func _ #[] #[.pointer (some ⟨nmB γ' 6,0,none⟩)]] w' _
  rw[←e3,vj]
  exact this
 rintro⟨out,Hs⟩ ⟨q3,q4⟩
 dsimp only at q3 q4
 simp (maxSteps:=10^6) only[push_cast,↓reduceIte,Nat.reduceLT,Nat.reduceAdd]
 refine⟨(r3,out,⟨.slice A r.ty.inn.l.length cap,r.ty.inn.l.length,r.ty.inn.l.map (Value.int .i64)⟩::(G++Hs)),⟨es,q3,fun _=>by rw[hr3];show r2.live=true;rw[ql,hr1];exact hlv,ok3.more fun f hf=>?_,q4.more fun f hf=>List.mem_cons_of_mem _ (List.mem_append_right _ hf)⟩,A9 [0,1,2,3,4,5] ?_⟩
 ·simp only[List.mem_append,List.mem_cons,List.not_mem_nil,or_false] at hf ⊢
  rcases hf with (hf|hf)|hf
  ·exact .inl hf
  ·exact .inr (.inl hf)
  ·exact .inr (.inr (.inl hf))
 ·simp (maxSteps:=10^6) only[hr3,eb,↓Ag,↓Az,↓List.forall_mem_cons,↓Ad,↓Af,↓Ax,Au,push_cast,↓reduceIte,reduceCtorEq,Nat.reduceEqDiff,Nat.reduceLT,Nat.reduceAdd]
end Go.Proofs.YtedaafmfjhjfmaaGreatDoor
/- Layer 28 walked: tellBoxes. -/
namespace Go.Proofs.YtedaafmfjhjfmaaGreatDoor
open Go.RowKit
set_option linter.unusedSimpArgs false
set_option linter.unusedVariables false
section
variable {P:Program} {w0:World} {ow:Nat→Prop} {n:Nat}
theorem A39 {k:Nat} {q:IntKind} {l:List (Int×Sc)} {t kt et:TypeId} {x:Operand} {ops:List Oper} {o:Oper} {rest:List Oper} {s:S} {K:S→Prop} (ho:o.op=.call {callee:=.builtin .clear,args:=#[x],argTypes:=#[t]}) (hx:Fr.ev s.fr x=some (.x (.a (.o k)))) (hk:s.hp[k]?=some (.mp q l)) (ht:P.underlying t=some (.map kt et)) (hd:o.dst=none)
  (h:Ap P w0 ow n ops rest ⟨s.fr,s.hp.set k .gone⟩ K):Am P w0 ow n ops o rest s K:=by
 rintro a w ⟨γ,hfit⟩ hw
 obtain⟨h0,g,es,h1,h2,hb,h3⟩:=hfit.sat.holds _ _ hk
 have hg:(Res.mp q l).has γ k g:=by show Mr (nmS γ k)=some g;rw[h1];rfl
 have hev:a.eval x=.map (some g):=(hfit.ev hx).trans h1
 have hS':Sat w0 ow γ (s.hp.set k .gone) (Id w g (.map #[] es.size)):=hfit.sat.update hk hg (Yf w g _) trivial (.inr rfl)
 unfold wpList
 rw[if_pos hw]
 refine .inl ?_
 unfold Oper.wp
 have hrun:(execOp a.eval o).run P w=.ok (.value (.tuple #[])) (Id w g (.map #[] es.size)):=by
  unfold execOp
  simp only[ho,resolve,Sem.run_bind,Sem.run_pure,Result.andThen_ok,invoke,builtin]
  unfold Builtin.clear_
  simp [hev,Sem.run_bind,run_underlying ht,Mx h2,T6 _ h2,Result.andThen]
 rw[hrun]
 simp only[Oper.upon]
 have:=hfit.put (d:=none) (v:=.t []) (x:=.tuple #[]) hS' (fun t sv' ht=>rfl) trivial rfl
 rw[hd]
 exact D4 rest _ _ _ h ⟨γ,this⟩
end
attribute [local irreducible] Ah Ai Am Bc A7 Ay Ap A6
attribute [local irreducible] A8 okV Bj erV Tal.can Tal.st
theorem A4a {w0:World} {ow:Nat→Prop} {hp:List Res} {k:Nat} {r:TalR} {Fs:List Fct} (hk:Cf hp[k]?=some (170,.c (tlA r))) (ok:TalOk Fs r) (hw:Known w0 ow Fs):
  ∀γ w,Sat w0 ow γ hp w→Calls Tryz.prog 150 ([Sv.x (.a (.p k 0))].map (Sv.val γ)).toArray w fun en w'=>∃v',en=.returned v'∧Own w' w.heap.size 3 v' (r.inn.l.map (Value.int .i64))∧Below w.heap.size w w':=fun γ w hS=>
 Abv r _ w (Ns hS hk).2 (ok.at_ (L8 (B:=No) hS hw (fun b h=>h.elim))) ok.few2
theorem A4b {Fs:List Fct} {r:LfR} {w:World} {B:Nat→Prop} {l:List Int} (ok:LfOk Fs r) (hk:Known w B Fs) (h:∀f∈l,∃x,Aq r.boxes f=some x∧x.l.length=2*r.joined.l.length):Ab4 r l w:=fun f hf=>by
 obtain⟨x,hx,hl⟩:=h f hf
 have:=hk.fw (ok.boxes _ (V4 hx)) (fun e=>by rw[e];rfl)
 exact⟨x,hx,hl,this.1,this.2.rd⟩
set_option maxRecDepth 100000 in
theorem A4c (r:LfR) {g:Nat} {w:World} {B:Nat→Prop} {γ:List Nm} {Fs:List Fct} (hS:Sat w B γ (lfB g r) w) (hw:Known w B Fs) (ok:LfOk Fs r) (hph:r.phase=1) (hlv:r.live=true) (h1:Br (-1) r.ty.inn.l=true) (h2:1≤r.need∧r.need≤r.ty.inn.l.length) (h3:1≤r.term∧r.term≤1000)
  (hj:r.joined.l.length≤500) (hi:r.ty.inn.l.length≤500) (hsub:∀x∈r.ty.inn.l,x∈r.joined.l) (hbx:∀f∈r.ty.inn.l,∃x,Aq r.boxes f=some x∧x.l.length=2*r.joined.l.length):
  Calls Tryz.prog 118 (List.map (Sv.val (γ++[.m (.bool true) (fun _=>False)])) [.x (.a (.p 0 0))]).toArray w fun e w'=>∃(x:LfR×SlV SnR×List Fct) (γ1:List Nm),Bi Fs r.s.box.1 r.s.box.2 x∧e=.returned ((Sv.x (.a (.v x.2.1.val))).val γ1)∧Sat w B γ1 (lfB g x.1++[.abs (Aa x.2.2)]) w':=by
 have gl:=Aw ok.sum.s
 refine Ci (n:=24) (ι:=LfR×SlV SnR×List Fct) (Bi Fs r.s.box.1 r.s.box.2) (fun x=>.x (.a (.v x.2.1.val))) (fun x=>lfB g x.1++[.abs (Aa x.2.2)]) Tryz.func118 rfl Tryz.ntmps118 [.x (.a (.p 0 0))] (hS.fct0 (Ar g r)) (by show 1≤24;omega) ?_
 unfold lfB lfA
 simp (maxSteps:=10^6) only[gl,undef,↓Ag,↓List.forall_mem_cons,↓Ad,↓Af,push_cast,↓reduceIte,reduceCtorEq,Nat.reduceEqDiff,Nat.reduceLT,Nat.reduceAdd]
 (repeat (refine And.intro (by first|omega|decide) ?_))
 refine Kx 5 (vs:=r.ty.inn.l.map (Value.int .i64)) rfl rfl U2 rfl (A4a (k:=1) rfl ok.ty hw) (Ae rfl) (by simp (maxSteps:=10^6) only[↓Ag,↓List.forall_mem_cons,↓Ad,↓Af,push_cast,Nat.reduceLT,Nat.reduceAdd]) ?_
 intro A cap b1 b2
 rw[List.length_map] at b1
 simp (maxSteps:=10^6) only[List.length_map,undef,↓Ag,↓List.forall_mem_cons,↓Ad,↓Af,push_cast,↓reduceIte,Nat.reduceEqDiff,Nat.reduceLT,Nat.reduceAdd]
 (repeat (refine And.intro (by first|omega|decide) ?_))
 have eo:r.s.box.2=Cq r.ty.inn.l (fun id=>{Cp 4 with pl:=0,ge:=r.gen,ids:=r.ty.inn.l,ns:=r.s.boxOf r.ty.inn.l id}):=rfl
 have vj:r.joined.val=.slice r.joined.A r.joined.l.length r.joined.c:=rfl
 refine Fk (ι:=SlV SnR×List Fct) (fun x=>x.1.l.map SnR.s=r.s.box.2∧OutOk x.2 x.1) (fun x=>.x (.a (.v x.1.val))) (fun x=>x.2) 5 rfl rfl Qs rfl (fun γ' w' hS'=>?_) (fun _ _=>rfl) (Ae rfl) (by simp (maxSteps:=10^6) only[↓Ag,↓List.forall_mem_cons,↓Ad,↓Af,push_cast,Nat.reduceLT,Nat.reduceAdd]) ?_
 ·have hS2:Sat w B γ' (lfB g r++[.abs (Aa [⟨.slice A r.ty.inn.l.length cap,r.ty.inn.l.length,r.ty.inn.l.map (Value.int .i64)⟩]),.blk 30 (.c [.p 0 0]),.blk 43 (.c [.v (.slice A r.ty.inn.l.length cap)])]) w':=hS'
  obtain⟨hg,hat⟩:=Js hS2
  have hv:=Fz (k:=6) (t:=30) (c:=.c [.p 0 0]) (vs:=[.pointer (some ⟨g,0,none⟩)]) hS2 rfl (by show [Value.pointer (some ⟨nmB γ' 0,0,none⟩)]=_;rw[hg])
  have hv2:=Fz (k:=7) (t:=43) (c:=.c [.v (.slice A r.ty.inn.l.length cap)]) (vs:=[.slice A r.ty.inn.l.length cap]) hS2 rfl rfl
  have k1:=Iq (D1 (A:=lfB g r) hS2 (k:=0) rfl)
  have k2:=Iq (Dr (A:=lfB g r) hS2 hw)
  have hj':=k2.fw ok.joined (fun e=>by rw[e];rfl)
  obtain⟨A',c',x1,x2,x3⟩:=k1 _ (List.mem_singleton.2 rfl)
  have x1:Value.slice A r.ty.inn.l.length cap=.slice A' r.ty.inn.l.length c':=x1
  injection x1 with y1 _ y3
  subst y1 y3
  have bx:=A4b ok k2 hbx
  rw[eo]
  have:=R0 r.ty.inn.l A cap (.func (.func 153) #[] #[.pointer (some ⟨nmB γ' 6,0,none⟩),.pointer (some ⟨nmB γ' 7,0,none⟩)]) (fun id=>{Cp 4 with pl:=0,ge:=r.gen,ids:=r.ty.inn.l,ns:=r.s.boxOf r.ty.inn.l id}) w' ok.ty.few2 x3.rd fun id hid=>⟨_,_,rfl,Ax7,fun w1 hk1=>A3x r ⟨g,0,none⟩ ⟨nmB γ' 6,0,none⟩ ⟨nmB γ' 7,0,none⟩ id ⟨A,cap,r.ty.inn.l⟩ w1 (hat.later hk1) hlv ok.sum.s (hv.later hk1) (hv2.later hk1) ⟨hj'.1,(hj'.2.rd.below (Dc hk1)).more (Dc hk1).size⟩ hj (hsub id hid) ⟨b1,(x3.rd.below (Dc hk1)).more (Dc hk1).size⟩ hi
   (fun f hf=>by
    obtain⟨x,z1,z2,z3,z4⟩:=bx f hf
    exact⟨x,z1,z2,z3,(z4.below (Dc hk1)).more (Dc hk1).size⟩)⟩
  refine Calls.mono (R:=fun e w''=>∃(x:SlV SnR×List Fct) (γ1:List Nm),(x.1.l.map SnR.s=Cq r.ty.inn.l (fun id=>{Cp 4 with pl:=0,ge:=r.gen,ids:=r.ty.inn.l,ns:=r.s.boxOf r.ty.inn.l id})∧OutOk x.2 x.1)∧e=.returned x.1.val∧Sat w' No γ1 [.abs (Aa x.2)] w'') ?_ (fun e w'' ⟨x,γ1,h1,h2,h3⟩=>⟨x,γ1,h1,h2,h3⟩)
  exact this
 rintro⟨out,Hs⟩ ⟨q3,q4⟩
 dsimp only at q3 q4
 have eb:bxR r=.mp .i64 (slE r.boxes):=if_pos hlv
 simp (maxSteps:=10^6) only[gl,eb,undef,push_cast,↓reduceIte,reduceCtorEq,Nat.reduceEqDiff,Nat.reduceLT,Nat.reduceAdd]
 refine A39 (k:=3) rfl rfl rfl Tryz.underlying101 rfl ?_
 simp (maxSteps:=10^6) only[undef,push_cast,↓reduceIte,Nat.reduceEqDiff,Nat.reduceLT,Nat.reduceAdd]
 refine Gx [1,4,17,18] ?_
 simp (maxSteps:=10^6) only[push_cast,↓reduceIte,Nat.reduceEqDiff]
 obtain⟨r1,hr1⟩:∃r1:LfR,r1={r with boxes:=[],live:=false}:=⟨_,rfl⟩
 have ok1:LfOk (Fs++(⟨.slice A r.ty.inn.l.length cap,r.ty.inn.l.length,r.ty.inn.l.map (Value.int .i64)⟩::Hs)) r1:=by
  have ok':=ok.more (Gs:=Fs++(⟨.slice A r.ty.inn.l.length cap,r.ty.inn.l.length,r.ty.inn.l.map (Value.int .i64)⟩::Hs)) fun f hf=>List.mem_append_left _ hf
  rw[hr1]
  exact⟨ok'.above,ok'.group,ok'.waits,ok'.joined,ok'.ty,fun p hp=>(by cases hp),ok'.rows,ok'.sum,ok.few1,ok.few2,ok.few3,ok.few4,fun p hp=>(by cases hp),ok.few6,ok.dim,ok.need,ok.term⟩
 refine Dq (ι:=LfR×List Fct) (A:=lfB g r1) (M:=[.abs (Aa (⟨.slice A r.ty.inn.l.length cap,r.ty.inn.l.length,r.ty.inn.l.map (Value.int .i64)⟩::Hs)),.blk 30 (.c [.p 0 0]),.blk 43 (.c [.v (.slice A r.ty.inn.l.length cap)])]) (g:=g) (t:=104) (c:=.c (lfA r1)) (l:=⟨.slice A r.ty.inn.l.length cap,r.ty.inn.l.length,r.ty.inn.l.map (Value.int .i64)⟩::Hs) 0
  (fun x=>x.1.s=r1.s.wait r.ty.inn.l∧x.1.live=r1.live∧LfOk ((Fs++(⟨.slice A r.ty.inn.l.length cap,r.ty.inn.l.length,r.ty.inn.l.map (Value.int .i64)⟩::Hs))++x.2) x.1) (fun _=>.t []) (fun x=>lfB g x.1) (fun x=>x.2) (by rw[hr1];rfl) rfl rfl (fun x _=>⟨_,rfl⟩) (fun x _=>rfl) rfl Uw rfl (fun γ' w' hS' hg=>?_) (fun _ _=>rfl) (Ae rfl) (Ar g r1) (fun x _=>Ar g x.1) (by simp (maxSteps:=10^6) only[↓Ag,↓List.forall_mem_cons,↓Ad,push_cast,Nat.reduceLT,Nat.reduceAdd]) (by
   show ∀x∈_,Sv.av 5 _
   simp (maxSteps:=10^6) only[push_cast,reduceCtorEq,Nat.reduceLeDiff]) (by
   show ∀x∈_,Res.av 5 _
   simp (maxSteps:=10^6) only[push_cast,Nat.reduceLeDiff]) ?_
 ·have hk1:=D1 (A:=lfB g r1) hS' (k:=0) rfl
  obtain⟨A',c',x1,x2,x3⟩:=hk1 _ (List.mem_cons_self ..)
  have x1:Value.slice A r.ty.inn.l.length cap=.slice A' r.ty.inn.l.length c':=x1
  injection x1 with y1 _ y3
  subst y1 y3
  have:=Ab6 r1 r.ty.inn.l A cap (hS'.frontA (Ar g r1)) ok1 x3 b1 ok.ty.few2 h1 (by rw[hr1];exact h2) (by rw[hr1];exact h3)
  show Calls _ _ #[.pointer (some ⟨nmB γ' 0,0,none⟩),.slice A r.ty.inn.l.length cap] w' _
  rw[hg]
  exact this
 rintro⟨r2,G⟩ ⟨q1,ql,q2⟩
 dsimp only at q1 ql q2
 have gl2:=Aw q2.sum.s
 unfold lfB lfA
 simp (maxSteps:=10^6) only[gl2,undef,push_cast,↓reduceIte,reduceCtorEq,Nat.reduceEqDiff,Nat.reduceLT,Nat.reduceAdd]
 have eb2:bxR ({r2 with phase:=2}:LfR)=bxR r2:=rfl
 obtain⟨r3,hr3⟩:∃r3:LfR,r3={r2 with phase:=2}:=⟨_,rfl⟩
 have es:r3.s=r.s.box.1:=by
  rw[hr3]
  show ({r2.s with phase:=2}:LfS)=_
  rw[q1,hr1]
  rfl
 have ok3:LfOk ((Fs++(⟨.slice A r.ty.inn.l.length cap,r.ty.inn.l.length,r.ty.inn.l.map (Value.int .i64)⟩::Hs))++G) r3:=by
  rw[hr3]
  exact⟨q2.above,q2.group,q2.waits,q2.joined,q2.ty,q2.boxes,q2.rows,q2.sum,q2.few1,q2.few2,q2.few3,q2.few4,q2.few5,q2.few6,q2.dim,q2.need,q2.term⟩
 refine⟨(r3,out,(⟨.slice A r.ty.inn.l.length cap,r.ty.inn.l.length,r.ty.inn.l.map (Value.int .i64)⟩::Hs)++G),⟨es,q3,fun h=>?_,ok3.more fun f hf=>by rw[←List.append_assoc];exact hf,q4.more fun f hf=>List.mem_append_left _ (List.mem_cons_of_mem _ hf)⟩,A9 [0,1,2,3,4,5] ?_⟩
 ·rw[hr3] at h
  exact absurd h (by show ¬(2:Int) < 2;omega)
 ·simp (maxSteps:=10^6) only[hr3,eb2,↓Ag,↓Az,↓List.forall_mem_cons,↓Ad,↓Af,↓Ax,Au,push_cast,↓reduceIte,reduceCtorEq,Nat.reduceEqDiff,Nat.reduceLT,Nat.reduceAdd]
end Go.Proofs.YtedaafmfjhjfmaaGreatDoor
