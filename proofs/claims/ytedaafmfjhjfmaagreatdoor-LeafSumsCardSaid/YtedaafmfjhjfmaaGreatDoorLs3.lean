import Derived.Test.YtedaafmfjhjfmaaGreatDoorLs2
/- Law 28: sure. -/
namespace Go.Proofs.YtedaafmfjhjfmaaGreatDoor
open Go.RowKit
set_option linter.unusedSimpArgs false
set_option linter.unusedVariables false
def mJ (cl ge:Int) (nu:UInt64):MgR:={zeroR with k:=1,cl:=cl,ge:=ge,nu:=nu}
theorem Wv (cl ge:Int):((((mgA zeroR).set 0 (.v (.int .u8 1))).set 3 (.v (.int .i64 cl))).set 4 (.v (.int .i64 ge))).set 5 (.v (.int .u64 9))=mgA (mJ cl ge 9):=rfl
theorem A8w (cl ge:Int):((((mgA zeroR).set 0 (.v (.int .u8 1))).set 3 (.v (.int .i64 cl))).set 4 (.v (.int .i64 ge))).set 5 (.v (.int .u64 8))=mgA (mJ cl ge 8):=rfl
def pS0:LfS:=LfS.new Cr (ix Cr.groups (Cb Cr 1).toNat) 1 4 (ix Cr.places (1:Int).toNat).parent (ofP Cr 1 (abF Cr.places (1:Int).toNat))
theorem A8x:LfS.new Cr (ix Cr.groups (Cb Cr 1).toNat) 1 4 (ix Cr.places (1:Int).toNat).parent (ofP Cr 1 (abF Cr.places (1:Int).toNat))=pS0:=rfl
def pS1:LfS:=(pS0.hear (mJ 3 4 9).mg).1
def pS2:LfS:=(pS1.hear (mJ 3 4 9).mg).1
def pS3:LfS:=(pS2.hear (mJ 5 3 9).mg).1
def pS4:LfS:=(pS3.hear (mJ 5 4 8).mg).1
theorem A8y:(pS0.hear (mJ 3 4 9).mg).1=pS1:=rfl
theorem A8z:(pS1.hear (mJ 3 4 9).mg).1=pS2:=rfl
theorem A80:(pS2.hear (mJ 5 3 9).mg).1=pS3:=rfl
theorem Adj:(pS3.hear (mJ 5 4 8).mg).1=pS4:=rfl
theorem Adk:pS0.group=[3,5]∧pS0.gen=4:=by decide+kernel
theorem Adl:(pS0.hear (mJ 3 4 9).mg).2.1.length=0∧(pS0.hear (mJ 3 4 9).mg).2.2=0:=by decide+kernel
theorem A81:(pS1.hear (mJ 3 4 9).mg).2.2=8:=by decide+kernel
theorem A82:(pS2.hear (mJ 5 3 9).mg).2.2=10:=by decide+kernel
theorem Ww:(pS3.hear (mJ 5 4 8).mg).2.1.map (fun o=>o.m.ps.length)=[2,2]∧(pS3.hear (mJ 5 4 8).mg).2.2=0∧pS4.phase=1:=by decide+kernel
theorem S8 (cl ge:Int) (nu:UInt64) (w:World) (B:Nat→Prop):MgF (mJ cl ge nu) w B:=by
 have k:∀{vs:List Value},vs=[]→FW w B none vs:=fun e=>by rw[e];exact⟨RdV.nil_,fun h=>absurd h (by simp)⟩
 exact⟨⟨rfl,Nat.zero_le _,Nat.zero_le _,Nat.zero_le _,Nat.zero_le _⟩,⟨Nat.le_refl _,k rfl⟩,⟨Nat.le_refl _,k rfl⟩,⟨Nat.le_refl _,k rfl⟩,⟨Nat.le_refl _,k rfl⟩⟩
theorem Adm:Cr.places.length≤900∧∀g∈Cr.groups,g.ids.length≤1000:=by decide+kernel
theorem CfFk.more {Fs Gs:List Fct} {a:CfR} (h:CfFk Fs a) (hg:∀f∈Fs,f∈Gs):CfFk Gs a:=⟨hg _ h.ps,hg _ h.gs,fun g hg'=>hg _ (h.ids g hg'),h.few⟩
structure LfAll (Fs:List Fct) (r:LfR):Prop where
 ok:LfOk Fs r
 bx:LfBx r.s
 live:r.phase < 2→r.live=true
 term:1≤r.term∧r.term≤1000
theorem Ow (s:LfS) (m:MgS):(s.hear m).1.term=s.term:=by
 have on_:∀s:LfS,s.on.1.term=s.term:=fun s=>by
  unfold LfS.on LfS.roster LfS.box LfS.tell LfS.wait
  repeat' split
  all_goals rfl
 have came_:(s.cameS m).term=s.term:=by
  unfold LfS.cameS
  repeat' split
  all_goals rfl
 unfold LfS.hear
 repeat' split
 all_goals first|rfl|exact (on_ _).trans came_
theorem A83 (s:LfS):s.tick.1.term=s.term:=by
 unfold LfS.tick LfS.on LfS.roster LfS.box LfS.tell LfS.wait
 repeat' split
 all_goals rfl
attribute [local irreducible] Ah Ai Am Bc A7 Ay Ap A6
attribute [local irreducible] A8 okV Bj erV Tal.can Tal.st Bz Cd cfF tcF isP ofP abF Kv Cs Cb Eo Cr pS0 pS1 pS2 pS3 pS4
set_option maxRecDepth 100000 in
set_option maxHeartbeats 4000000 in
theorem A84 (w:World) (hgd:Handle w):Calls Tryz.prog 8 #[] w fun e w'=>e=.returned (.bool true)∧Below w.heap.size w w':=by
 refine Bm (n:=121) Tryz.func8 rfl Tryz.ntmps8 [] (by simp) (.x (.a (.v (.bool true)))) (fun _=>rfl) ?_
 simp (maxSteps:=10^6) only[push_cast,↓reduceIte,Nat.reduceLT]
 (repeat (refine And.intro (by first|omega|decide) ?_))
 refine Z6 (by simp (maxSteps:=10^6) only[push_cast]) ?_
 refine Fk (ι:=CfR×List Fct) (fun x=>x.1.cf=Cr∧CfFk x.2 x.1) (fun x=>.x (.g (cfA x.1))) (fun x=>x.2) 0 rfl rfl Zk rfl (fun γ' w' hS'=>Adg w') (fun _ _=>rfl) (Ae rfl) (by simp (maxSteps:=10^6) only[push_cast]) ?_
 rintro⟨c1,F1⟩ ⟨e1,k1⟩
 dsimp only at e1 k1
 simp (maxSteps:=10^6) only[push_cast,↓reduceIte]
 refine A18 (ι:=Nat×LfR×List Fct) (Me Cr 1 4) (fun _=>.t [.a (.p 1 0),.a (.v .nilIface)]) (fun x=>[.abs (Aa F1)]++(lfB x.1 x.2.1++[Res.abs (Aa x.2.2)]).map (Res.ren (Ca 1 6))) rfl cb9 rfl (fun γ' w' hS'=>Adc (hp:=[.abs (Aa F1)]) 1 4 (by rw[←e1];exact Adf (k:=0) rfl k1) Ade Adm.1 Adm.2 (fun r hr=>by rw[List.mem_singleton.1 hr];trivial) γ' w' hS') (Ae rfl) (by simp (maxSteps:=10^6) only[cfA,push_cast]) ?_
 rintro⟨g,r,F2⟩ ⟨s1,s2,s3⟩
 dsimp only at s1 s2 s3
 have gl:=Aw s3.sum.s
 unfold lfB lfA
 simp (maxSteps:=10^6) only[Ca,rn,↓Az,↓Ax,Au,push_cast,↓reduceIte,Nat.reduceEqDiff,Nat.reduceLT,Nat.reduceAdd]
 (repeat (refine And.intro (by first|omega|decide) ?_))
 refine Acz (s':=⟨[(1,.x (.a (.p 0 0))),(2,.x (.a (.v .nilIface)))],[.pin g 104 (.c (.v (.int .i64 r.place):: .v (.int .i64 r.gen):: .v (.int .i64 r.dim):: .v (.int .i64 r.term):: .v (.int .i64 r.need):: .v (.int .i64 r.parent):: .v r.above.val:: .v r.group.val:: .v (.int .i64 r.phase):: .v r.waits.val:: .p 1 0:: .v r.joined.val:: .o 2:: .o 3:: .o 4::mgA r.sum)),.blk 170 (.c (tlA r.ty)),.mp .i64 (puE r.pub),bxR r,.mp .i64 (slE r.rows),.abs (Aa F2)]⟩) (Dd [1,2,3,4,5,6] (by simp (maxSteps:=10^6) only[↓Ag,↓Az,↓List.forall_mem_cons,↓Ad,↓Af,↓Ax,Au,push_cast,↓reduceIte,Nat.reduceEqDiff,Nat.reduceLT,Nat.reduceAdd])) ?_
 refine Fk (ι:=CfR×List Fct) (fun x=>x.1.cf=Cr∧CfFk x.2 x.1) (fun x=>.x (.g (cfA x.1))) (fun x=>x.2) 5 rfl rfl Zk rfl (fun γ' w' hS'=>Adg w') (fun _ _=>rfl) (Ae rfl) (by simp (maxSteps:=10^6) only[↓Ag,↓List.forall_mem_cons,↓Ad,↓Af,push_cast,Nat.reduceLT,Nat.reduceAdd]) ?_
 rintro⟨c2,F3⟩ ⟨e2,k2⟩
 dsimp only at e2 k2
 simp (maxSteps:=10^6) only[push_cast,↓reduceIte]
 refine Al rfl cb9 rfl (Add 0 4 (cf:=Cr) (by rw[←e2];exact Adf (k:=5) rfl (k2.more fun f hf=>List.mem_append_right _ hf)) A8s) (Ae rfl) ?_
 simp (maxSteps:=10^6) only[push_cast,↓reduceIte,Nat.reduceEqDiff,Nat.reduceLT,Nat.reduceAdd]
 (repeat (refine And.intro (by first|omega|decide) ?_))
 obtain⟨G0,eG0⟩:∃G,G=F2++F3:=⟨_,rfl⟩
 rw[←eG0]
 have ok0:LfOk G0 r:=by rw[eG0];exact s3.more fun f hf=>List.mem_append_left _ hf
 have q0:r.s=pS0:=s1.trans A8x
 have hni:=Ada Ade (ix Cr.places (1:Int).toNat).parent (ofP Cr 1 (abF Cr.places (1:Int).toNat))
 have i0:LfInv r.s [] none:=by rw[s1];exact hni.1
 have a0:LfAll G0 r:=⟨ok0,by rw[s1];exact hni.2.1,fun _=>s2,by
  have e:r.s.term=Cr.term:=by rw[s1];rfl
  have e:r.term=Cr.term:=e
  rw[e]
  exact hni.2.2⟩
 refine Gx (1::2::4::26::55::56::57::60::61::62::65::66::67::68::69::72::73::74::75::76::77::80::81::84::85::86::89::90::91::94::95::96::99::100::103::104::105::108::109::110::111::112::113::114::117::118::119::[]) ?_
 simp (maxSteps:=10^6) only[push_cast,↓reduceIte,Nat.reduceEqDiff]
 refine Fk (ι:=SlV SnR×List Fct) (fun x=>x.1.l.map SnR.s=Cq r.group.l (fun _=>stepS r)∧OutOk x.2 x.1) (fun x=>.x (.a (.v x.1.val))) (fun x=>x.2) 5 rfl rfl Axb rfl (fun γ' w' hS'=>?_) (fun _ _=>rfl) (Ae rfl) (by simp (maxSteps:=10^6) only[↓Ag,↓List.forall_mem_cons,↓Ad,↓Af,push_cast,Nat.reduceLT,Nat.reduceAdd]) ?_
 ·have hS2:Sat w No γ' (lfB g r++[.abs (Aa G0)]) w':=hS'
  obtain⟨hg,hat⟩:=Js hS2
  have hkn:=Iq (D1 (A:=lfB g r) hS2 (k:=0) rfl)
  have hj:=hkn.fw ok0.group (fun e=>by rw[e];rfl)
  have:=A7i r ⟨g,0,none⟩ w' hat ok0.sum.s ⟨hj.1,hj.2.rd⟩ ok0.few2
  refine Calls.mono (R:=fun e w''=>∃(x:SlV SnR×List Fct) (γ1:List Nm),(x.1.l.map SnR.s=Cq r.group.l (fun _=>stepS r)∧OutOk x.2 x.1)∧e=.returned x.1.val∧Sat w' No γ1 [.abs (Aa x.2)] w'') ?_ (fun e w'' ⟨x,γ1,h1,h2,h3⟩=>⟨x,γ1,h1,h2,h3⟩)
  show Calls _ _ #[.pointer (some ⟨nmB γ' 0,0,none⟩)] w' _
  rw[hg]
  exact this
 rintro⟨bb,Hb⟩ ⟨z3,z4⟩
 dsimp only at z3 z4
 obtain⟨Gb,eGb⟩:∃G,G=G0++Hb:=⟨_,rfl⟩
 rw[←eGb]
 have ab:LfAll Gb r:=⟨by rw[eGb];exact ok0.more fun f hf=>List.mem_append_left _ hf,a0.bx,a0.live,a0.term⟩
 obtain⟨rb,erb⟩:∃rb,rb=r:=⟨_,rfl⟩
 rw[←erb] at ab q0 i0 z3 ⊢
 have qb:rb.s=pS0:=q0
 have ib:LfInv rb.s [] none:=i0
 simp (maxSteps:=10^6) only[Bl,Bp,Bw,Bu,Wv,↓List.forall_mem_cons,push_cast,↓reduceIte,reduceCtorEq,Nat.reduceEqDiff,Nat.reduceLT,Nat.reduceAdd]
 have hc1:∀γ' w',Sat w No γ' (lfB g rb++[.abs (Aa Gb)]) w'→nmB γ' 0=g→Calls Tryz.prog 14 (List.map (Sv.val γ') [.x (.a (.p 0 0)),.x (.g (mgA (mJ 3 4 9)))]).toArray w' fun e w''=>∃(x:LfR×SlV SnR×List Fct) (γ1:List Nm),Bi Gb (rb.s.hear (mJ 3 4 9).mg).1 (rb.s.hear (mJ 3 4 9).mg).2.1 x∧e=.returned ((Sv.t [.a (.v x.2.1.val),.a (.v (erV (rb.s.hear (mJ 3 4 9).mg).2.2))]).val [])∧Sat w' (fun b=>∃(k:Nat) (q:Res),(lfB g rb)[k]?=some q∧q.has γ' k b) γ1 (lfB g x.1++[.abs (Aa x.2.2)]) w'':=fun γ' w' hS' hg=>by
  have:=N4 (hS'.frontA (Ar g rb)) (D1 (A:=lfB g rb) hS' (k:=0) rfl) ab.ok (S8 _ _ _ _ _) ab.live (m:=(mJ 3 4 9)) ib ab.bx ab.term
  show Calls _ _ #[.pointer (some ⟨nmB γ' 0,0,none⟩),(Sv.x (.g (mgA (mJ 3 4 9)))).val γ'] w' _
  rw[hg,C4]
  exact this
 refine Dq (ι:=LfR×SlV SnR×List Fct) (A:=lfB g rb) (M:=[.abs (Aa Gb)]) (g:=g) (t:=104) (c:=.c (lfA rb)) (l:=Gb) 0 (Bi Gb (rb.s.hear (mJ 3 4 9).mg).1 (rb.s.hear (mJ 3 4 9).mg).2.1) (fun x=>.t [.a (.v x.2.1.val),.a (.v (erV (rb.s.hear (mJ 3 4 9).mg).2.2))]) (fun x=>lfB g x.1) (fun x=>x.2.2) rfl rfl rfl (fun x _=>⟨_,rfl⟩) (fun x _=>rfl) rfl M2 rfl hc1 (fun _ _=>rfl) (Ae rfl) (Ar g rb) (fun x _=>Ar g x.1) (by simp (maxSteps:=10^6) only[↓Ag,↓List.forall_mem_cons,↓Ad,↓Af,↓Bg,push_cast,Nat.reduceLT,Nat.reduceAdd]) (by
  show ∀x∈_,Sv.av 5 _
  simp (maxSteps:=10^6) only[↓List.forall_mem_cons,↓Dg,push_cast,Nat.reduceLeDiff]) (by
  show ∀x∈_,Res.av 5 _
  simp (maxSteps:=10^6) only[↓List.forall_mem_cons,push_cast]) ?_
 rintro⟨r1,o1,H1⟩ ⟨t1,u1,v1,x1,y1⟩
 dsimp only at t1 u1 v1 x1 y1
 rw[qb] at t1 u1 ⊢
 obtain⟨G1,eG1⟩:∃G,G=Gb++H1:=⟨_,rfl⟩
 rw[←eG1] at x1 ⊢
 have q1:r1.s=pS1:=t1.trans A8y
 have a1:LfAll G1 r1:=⟨x1,by rw[t1,←qb];exact N3 ib ab.bx _,v1,by
  have:r1.term=rb.term:=by
   have e:r1.s.term=rb.s.term:=by rw[t1,qb];exact Ow _ _
   exact e
  rw[this]
  exact ab.term⟩
 obtain⟨R1,i1⟩:∃R,LfInv r1.s R none:=by
  have:=(Nq ib (mJ 3 4 9).mg).2.1
  rw[qb] at this
  rw[←t1] at this
  exact⟨_,this⟩
 rw[Adl.2,En]
 have gl1:=Aw x1.sum.s
 unfold lfB lfA
 simp (maxSteps:=10^6) only[Bl,Bp,Bw,Bu,Wv,↓List.forall_mem_cons,push_cast,↓reduceIte,reduceCtorEq,Nat.reduceEqDiff,Nat.reduceLT,Nat.reduceAdd]
 refine Gx (1::2::4::5::6::7::35::36::55::56::57::60::61::62::65::66::67::68::69::72::73::74::75::76::77::80::81::84::85::86::89::90::91::94::95::96::99::100::103::104::105::108::109::110::111::112::113::114::117::118::119::[]) ?_
 simp (maxSteps:=10^6) only[push_cast,↓reduceIte,Nat.reduceEqDiff]
 have hc2:∀γ' w',Sat w No γ' (lfB g r1++[.abs (Aa G1)]) w'→nmB γ' 0=g→Calls Tryz.prog 14 (List.map (Sv.val γ') [.x (.a (.p 0 0)),.x (.g (mgA (mJ 3 4 9)))]).toArray w' fun e w''=>∃(x:LfR×SlV SnR×List Fct) (γ1:List Nm),Bi G1 (r1.s.hear (mJ 3 4 9).mg).1 (r1.s.hear (mJ 3 4 9).mg).2.1 x∧e=.returned ((Sv.t [.a (.v x.2.1.val),.a (.v (erV (r1.s.hear (mJ 3 4 9).mg).2.2))]).val [])∧Sat w' (fun b=>∃(k:Nat) (q:Res),(lfB g r1)[k]?=some q∧q.has γ' k b) γ1 (lfB g x.1++[.abs (Aa x.2.2)]) w'':=fun γ' w' hS' hg=>by
  have:=N4 (hS'.frontA (Ar g r1)) (D1 (A:=lfB g r1) hS' (k:=0) rfl) a1.ok (S8 _ _ _ _ _) a1.live (m:=(mJ 3 4 9)) i1 a1.bx a1.term
  show Calls _ _ #[.pointer (some ⟨nmB γ' 0,0,none⟩),(Sv.x (.g (mgA (mJ 3 4 9)))).val γ'] w' _
  rw[hg,C4]
  exact this
 refine Dq (ι:=LfR×SlV SnR×List Fct) (A:=lfB g r1) (M:=[.abs (Aa G1)]) (g:=g) (t:=104) (c:=.c (lfA r1)) (l:=G1) 0 (Bi G1 (r1.s.hear (mJ 3 4 9).mg).1 (r1.s.hear (mJ 3 4 9).mg).2.1) (fun x=>.t [.a (.v x.2.1.val),.a (.v (erV (r1.s.hear (mJ 3 4 9).mg).2.2))]) (fun x=>lfB g x.1) (fun x=>x.2.2) rfl rfl rfl (fun x _=>⟨_,rfl⟩) (fun x _=>rfl) rfl M2 rfl hc2 (fun _ _=>rfl) (Ae rfl) (Ar g r1) (fun x _=>Ar g x.1) (by simp (maxSteps:=10^6) only[↓Ag,↓List.forall_mem_cons,↓Ad,↓Af,↓Bg,push_cast,Nat.reduceLT,Nat.reduceAdd]) (by
  show ∀x∈_,Sv.av 5 _
  simp (maxSteps:=10^6) only[↓List.forall_mem_cons,↓Dg,push_cast,Nat.reduceLeDiff]) (by
  show ∀x∈_,Res.av 5 _
  simp (maxSteps:=10^6) only[↓List.forall_mem_cons,push_cast]) ?_
 rintro⟨r2,o2,H2⟩ ⟨t2,u2,v2,x2,y2⟩
 dsimp only at t2 u2 v2 x2 y2
 rw[q1] at t2 u2 ⊢
 obtain⟨G2,eG2⟩:∃G,G=G1++H2:=⟨_,rfl⟩
 rw[←eG2] at x2 ⊢
 have q2:r2.s=pS2:=t2.trans A8z
 have a2:LfAll G2 r2:=⟨x2,by rw[t2,←q1];exact N3 i1 a1.bx _,v2,by
  have:r2.term=r1.term:=by
   have e:r2.s.term=r1.s.term:=by rw[t2,q1];exact Ow _ _
   exact e
  rw[this]
  exact a1.term⟩
 obtain⟨R2,i2⟩:∃R,LfInv r2.s R none:=by
  have:=(Nq i1 (mJ 3 4 9).mg).2.1
  rw[q1] at this
  rw[←t2] at this
  exact⟨_,this⟩
 rw[A81]
 have gl2:=Aw x2.sum.s
 unfold lfB lfA
 simp (maxSteps:=10^6) only[Bl,Bp,Bw,Bu,Wv,↓List.forall_mem_cons,push_cast,↓reduceIte,reduceCtorEq,Nat.reduceEqDiff,Nat.reduceLT,Nat.reduceAdd]
 refine Gx (1::2::4::5::6::7::9::41::42::55::56::57::60::61::62::65::66::67::68::69::72::73::74::75::76::77::80::81::84::85::86::89::90::91::94::95::96::99::100::103::104::105::108::109::110::111::112::113::114::117::118::119::[]) ?_
 simp (maxSteps:=10^6) only[push_cast,↓reduceIte,Nat.reduceEqDiff]
 have hc3:∀γ' w',Sat w No γ' (lfB g r2++[.abs (Aa G2)]) w'→nmB γ' 0=g→Calls Tryz.prog 14 (List.map (Sv.val γ') [.x (.a (.p 0 0)),.x (.g (mgA (mJ 5 3 9)))]).toArray w' fun e w''=>∃(x:LfR×SlV SnR×List Fct) (γ1:List Nm),Bi G2 (r2.s.hear (mJ 5 3 9).mg).1 (r2.s.hear (mJ 5 3 9).mg).2.1 x∧e=.returned ((Sv.t [.a (.v x.2.1.val),.a (.v (erV (r2.s.hear (mJ 5 3 9).mg).2.2))]).val [])∧Sat w' (fun b=>∃(k:Nat) (q:Res),(lfB g r2)[k]?=some q∧q.has γ' k b) γ1 (lfB g x.1++[.abs (Aa x.2.2)]) w'':=fun γ' w' hS' hg=>by
  have:=N4 (hS'.frontA (Ar g r2)) (D1 (A:=lfB g r2) hS' (k:=0) rfl) a2.ok (S8 _ _ _ _ _) a2.live (m:=(mJ 5 3 9)) i2 a2.bx a2.term
  show Calls _ _ #[.pointer (some ⟨nmB γ' 0,0,none⟩),(Sv.x (.g (mgA (mJ 5 3 9)))).val γ'] w' _
  rw[hg,C4]
  exact this
 refine Dq (ι:=LfR×SlV SnR×List Fct) (A:=lfB g r2) (M:=[.abs (Aa G2)]) (g:=g) (t:=104) (c:=.c (lfA r2)) (l:=G2) 0 (Bi G2 (r2.s.hear (mJ 5 3 9).mg).1 (r2.s.hear (mJ 5 3 9).mg).2.1) (fun x=>.t [.a (.v x.2.1.val),.a (.v (erV (r2.s.hear (mJ 5 3 9).mg).2.2))]) (fun x=>lfB g x.1) (fun x=>x.2.2) rfl rfl rfl (fun x _=>⟨_,rfl⟩) (fun x _=>rfl) rfl M2 rfl hc3 (fun _ _=>rfl) (Ae rfl) (Ar g r2) (fun x _=>Ar g x.1) (by simp (maxSteps:=10^6) only[↓Ag,↓List.forall_mem_cons,↓Ad,↓Af,↓Bg,push_cast,Nat.reduceLT,Nat.reduceAdd]) (by
  show ∀x∈_,Sv.av 5 _
  simp (maxSteps:=10^6) only[↓List.forall_mem_cons,↓Dg,push_cast,Nat.reduceLeDiff]) (by
  show ∀x∈_,Res.av 5 _
  simp (maxSteps:=10^6) only[↓List.forall_mem_cons,push_cast]) ?_
 rintro⟨r3,o3,H3⟩ ⟨t3,u3,v3,x3,y3⟩
 dsimp only at t3 u3 v3 x3 y3
 rw[q2] at t3 u3 ⊢
 obtain⟨G3,eG3⟩:∃G,G=G2++H3:=⟨_,rfl⟩
 rw[←eG3] at x3 ⊢
 have q3:r3.s=pS3:=t3.trans A80
 have a3:LfAll G3 r3:=⟨x3,by rw[t3,←q2];exact N3 i2 a2.bx _,v3,by
  have:r3.term=r2.term:=by
   have e:r3.s.term=r2.s.term:=by rw[t3,q2];exact Ow _ _
   exact e
  rw[this]
  exact a2.term⟩
 obtain⟨R3,i3⟩:∃R,LfInv r3.s R none:=by
  have:=(Nq i2 (mJ 5 3 9).mg).2.1
  rw[q2] at this
  rw[←t3] at this
  exact⟨_,this⟩
 rw[A82]
 have gl3:=Aw x3.sum.s
 unfold lfB lfA
 simp (maxSteps:=10^6) only[Bl,Bp,Bw,Bu,A8w,↓List.forall_mem_cons,push_cast,↓reduceIte,reduceCtorEq,Nat.reduceEqDiff,Nat.reduceLT,Nat.reduceAdd]
 refine Gx (1::2::4::5::6::7::9::11::47::48::55::56::57::60::61::62::65::66::67::68::69::72::73::74::75::76::77::80::81::84::85::86::89::90::91::94::95::96::99::100::103::104::105::108::109::110::111::112::113::114::117::118::119::[]) ?_
 simp (maxSteps:=10^6) only[push_cast,↓reduceIte,Nat.reduceEqDiff]
 have hc4:∀γ' w',Sat w No γ' (lfB g r3++[.abs (Aa G3)]) w'→nmB γ' 0=g→Calls Tryz.prog 14 (List.map (Sv.val γ') [.x (.a (.p 0 0)),.x (.g (mgA (mJ 5 4 8)))]).toArray w' fun e w''=>∃(x:LfR×SlV SnR×List Fct) (γ1:List Nm),Bi G3 (r3.s.hear (mJ 5 4 8).mg).1 (r3.s.hear (mJ 5 4 8).mg).2.1 x∧e=.returned ((Sv.t [.a (.v x.2.1.val),.a (.v (erV (r3.s.hear (mJ 5 4 8).mg).2.2))]).val [])∧Sat w' (fun b=>∃(k:Nat) (q:Res),(lfB g r3)[k]?=some q∧q.has γ' k b) γ1 (lfB g x.1++[.abs (Aa x.2.2)]) w'':=fun γ' w' hS' hg=>by
  have:=N4 (hS'.frontA (Ar g r3)) (D1 (A:=lfB g r3) hS' (k:=0) rfl) a3.ok (S8 _ _ _ _ _) a3.live (m:=(mJ 5 4 8)) i3 a3.bx a3.term
  show Calls _ _ #[.pointer (some ⟨nmB γ' 0,0,none⟩),(Sv.x (.g (mgA (mJ 5 4 8)))).val γ'] w' _
  rw[hg,C4]
  exact this
 refine Dq (ι:=LfR×SlV SnR×List Fct) (A:=lfB g r3) (M:=[.abs (Aa G3)]) (g:=g) (t:=104) (c:=.c (lfA r3)) (l:=G3) 0 (Bi G3 (r3.s.hear (mJ 5 4 8).mg).1 (r3.s.hear (mJ 5 4 8).mg).2.1) (fun x=>.t [.a (.v x.2.1.val),.a (.v (erV (r3.s.hear (mJ 5 4 8).mg).2.2))]) (fun x=>lfB g x.1) (fun x=>x.2.2) rfl rfl rfl (fun x _=>⟨_,rfl⟩) (fun x _=>rfl) rfl M2 rfl hc4 (fun _ _=>rfl) (Ae rfl) (Ar g r3) (fun x _=>Ar g x.1) (by simp (maxSteps:=10^6) only[↓Ag,↓List.forall_mem_cons,↓Ad,↓Af,↓Bg,push_cast,Nat.reduceLT,Nat.reduceAdd]) (by
  show ∀x∈_,Sv.av 5 _
  simp (maxSteps:=10^6) only[↓List.forall_mem_cons,↓Dg,push_cast,Nat.reduceLeDiff]) (by
  show ∀x∈_,Res.av 5 _
  simp (maxSteps:=10^6) only[↓List.forall_mem_cons,push_cast]) ?_
 rintro⟨r4,o4,H4⟩ ⟨t4,u4,v4,x4,y4⟩
 dsimp only at t4 u4 v4 x4 y4
 rw[q3] at t4 u4 ⊢
 obtain⟨G4,eG4⟩:∃G,G=G3++H4:=⟨_,rfl⟩
 rw[←eG4] at x4 ⊢
 have q4:r4.s=pS4:=t4.trans Adj
 have a4:LfAll G4 r4:=⟨x4,by rw[t4,←q3];exact N3 i3 a3.bx _,v4,by
  have:r4.term=r3.term:=by
   have e:r4.s.term=r3.s.term:=by rw[t4,q3];exact Ow _ _
   exact e
  rw[this]
  exact a3.term⟩
 obtain⟨R4,i4⟩:∃R,LfInv r4.s R none:=by
  have:=(Nq i3 (mJ 5 4 8).mg).2.1
  rw[q3] at this
  rw[←t4] at this
  exact⟨_,this⟩
 rw[Ww.2.1,En]
 have gl4:=Aw x4.sum.s
 unfold lfB lfA
 simp (maxSteps:=10^6) only[push_cast,↓reduceIte,Nat.reduceEqDiff,Nat.reduceLT,Nat.reduceAdd]
 simp only[List.append_eq,List.cons_append,List.nil_append]
 simp (maxSteps:=10^6) only[push_cast,↓reduceIte,Nat.reduceEqDiff,Nat.reduceLT,Nat.reduceAdd]
 (repeat (refine And.intro (by first|omega|decide) ?_))
 refine Gx (1::5::6::7::9::11::12::13::54::55::56::57::60::61::62::65::66::67::68::69::72::73::74::75::76::77::80::81::84::85::86::89::90::91::94::95::96::99::100::103::104::105::108::109::110::111::112::113::114::117::118::119::[]) ?_
 have sub4:∀f∈Gb,f∈G4:=fun f hf=>by
  rw[eG4,eG3,eG2,eG1]
  exact List.mem_append_left _ (List.mem_append_left _ (List.mem_append_left _ (List.mem_append_left _ hf)))
 have okb:OutOk G4 bb:=z4.more fun f hf=>sub4 f (by rw[eGb];exact List.mem_append_right _ hf)
 have ok4:OutOk G4 o4:=y4.more fun f hf=>by rw[eG4];exact List.mem_append_right _ hf
 have gb:rb.group.l=[3,5]:=by
  have:rb.s.group=[3,5]:=by rw[qb];exact Adk.1
  exact this
 have ge:rb.gen=4:=by
  have:rb.s.gen=4:=by rw[qb];exact Adk.2
  exact this
 rw[gb] at z3
 have lb:bb.l.length=2:=by
  have:=congrArg List.length z3
  rw[List.length_map] at this
  exact this
 have lo1:o1.l.length=0:=by
  have:=congrArg List.length u1
  rw[List.length_map,Adl.1] at this
  exact this
 have lo4:o4.l.map (fun o=>o.m.ps.l.length)=[2,2]:=by
  have:=congrArg (List.map fun o:SnS=>o.m.ps.length) u4
  rw[Ww.1,List.map_map] at this
  exact this
 have l4:o4.l.length=2:=by
  have:=congrArg List.length lo4
  rw[List.length_map] at this
  exact this
 have b1:SnR.s (ix bb.l 1)=⟨true,5,stepS rb⟩:=by
  rw[←Vs SnR.s bb.l (by rw[lb];decide),z3]
  rfl
 have b2:(ix bb.l 1).to=5:=congrArg SnS.to b1
 have b3:(ix bb.l 1).m.ge=4:=by
  have:(ix bb.l 1).m.mg.ge=(stepS rb).ge:=congrArg (fun s=>s.m.ge) b1
  exact this.trans ge
 have p4:(ix o4.l 0).m.ps.l.length=2:=by
  have h:ix (o4.l.map (fun o=>o.m.ps.l.length)) 0=2:=by rw[lo4];rfl
  rwa [Vs (fun o:SnR=>o.m.ps.l.length) o4.l (by rw[l4];decide)] at h
 have ph4:r4.phase=1:=by
  have:r4.s.phase=1:=by rw[t4,Adj];exact Ww.2.2
  exact this
 have vb:bb.val=.slice bb.A 2 bb.c:=by rw[←lb];rfl
 have v1:o1.val=.slice o1.A 0 o1.c:=by rw[←lo1];rfl
 have v4:o4.val=.slice o4.A 2 o4.c:=by rw[←l4];rfl
 refine A8n (A:=lfB g r4) (M:=[.abs (Aa G4)]) [1,5,6,7,9,11,12,13,54,55] rfl (by show 0 < 5;omega) (Ar g r4) (by simp (maxSteps:=10^6) only[↓Ag,↓List.forall_mem_cons,↓Ad,↓Af,push_cast,↓reduceIte,Nat.reduceEqDiff,Nat.reduceLT,Nat.reduceAdd]) (by
  show ∀x∈_,Sv.bnd 5 _
  simp (maxSteps:=10^6) only[push_cast,↓reduceIte,Nat.reduceEqDiff,Nat.reduceLT]) (fun q hq=>by rw[List.mem_singleton.1 hq];trivial) fun γ' w1 hS1=>?_
 have hS2:Sat w No γ' (lfB g r4++[.abs (Aa G4)]) w1:=hS1
 have hkn:=D1 (A:=lfB g r4) hS2 (k:=0) rfl
 have hh:Handle w1:=Zu hgd hS2
 have hno:=A8v hgd hS2 (B:=fun b=>∃(k:Nat) (q:Res),(lfB g r4)[k]?=some q∧q.has γ' k b) fun b ⟨k,q,h1,h2⟩=>⟨k,q,by rw[List.getElem?_append_left (Bb h1)];exact h1,h2⟩
 have fb:=hkn.fw okb.1 (fun e=>by rw[e];rfl)
 have f4:=hkn.fw ok4.1 (fun e=>by rw[e];rfl)
 have Fb:=FLw.of (fun x hx=>Wt (okb.2.1 x hx).s) (by decide) fb.2
 have F4:=FLw.of (fun x hx=>Wt (ok4.2.1 x hx).s) (by decide) f4.2
 have sb:=Fb.some_ (by omega)
 have s4:=F4.some_ (by omega)
 obtain⟨c1,o1'⟩:=Fb.cell 1 1 (.int .i64 5) (by omega) (by rw[←b2];rfl)
 obtain⟨c2',o2'⟩:=Fb.cell 1 6 (.int .i64 4) (by omega) (by rw[←b3];rfl)
 obtain⟨c3,o3'⟩:=F4.cell 0 42 (ix o4.l 0).m.ps.val (by omega) (by
  unfold snV
  rw[List.getElem?_append_right (by show 2≤42;omega)]
  have hs:=(ok4.2.1 _ (Fh (l:=o4.l) (i:=0) (by omega))).s
  show (mgV (ix o4.l 0).m)[40]?=_
  unfold mgV
  rw[List.getElem?_append_right (by show 6≤40;omega),List.getElem?_append_right (by simp [hs])]
  simp [hs])
 have vp:(ix o4.l 0).m.ps.val=.slice (ix o4.l 0).m.ps.A 2 (ix o4.l 0).m.ps.c:=by rw[←p4];rfl
 rw[vp] at c3
 have c1:Be w1 (Aj bb.A 46)=.int .i64 5:=c1
 have c2':Be w1 (Aj bb.A 51)=.int .i64 4:=c2'
 rw[Nat.zero_mul,Nat.zero_add] at c3
 have o1':=eq_true o1'
 have o2':=eq_true o2'
 have o3':=eq_true o3'
 rw[Nat.zero_mul,Nat.zero_add] at o3'
 have o1':B6 w1 (fun b=>∃(k:Nat) (q:Res),(lfB g r4)[k]?=some q∧q.has γ' k b) (Aj bb.A 46)=True:=o1'
 have o2':B6 w1 (fun b=>∃(k:Nat) (q:Res),(lfB g r4)[k]?=some q∧q.has γ' k b) (Aj bb.A 51)=True:=o2'
 obtain⟨ow1,how1⟩:∃ow1:Nat→Prop,ow1=fun b=>∃(k:Nat) (q:Res),(lfB g r4)[k]?=some q∧q.has γ' k b:=⟨_,rfl⟩
 have hno:¬ow1 0:=by rw[how1];exact hno
 rw[←how1] at o1' o2' o3' ⊢
 clear how1
 unfold lfB lfA
 simp (maxSteps:=10^6) only[push_cast,↓reduceIte,Nat.reduceEqDiff,Nat.reduceAdd]
 (repeat (refine And.intro (by first|omega|decide) ?_))
 refine Al rfl Uu rfl (Wu 1 hh hno) (Ae rfl) ?_
 simp (maxSteps:=10^6) only[vb,v1,v4,sb,c1,c2',o1',o2',Cy,By,push_cast,↓Int.cast_ofNat_Int,Int.cast_ofNat_Int,↓reduceIte,reduceCtorEq,Nat.reduceEqDiff,Nat.reduceLT,Nat.reduceAdd,Nat.reduceMul,Int.reduceLE,Int.reduceLT,Int.reduceToNat]
 (repeat (refine And.intro (by first|omega|decide) ?_))
 refine Al rfl Uu rfl (Wu 8 hh hno) (Ae rfl) ?_
 simp (maxSteps:=10^6) only[push_cast,↓reduceIte,Nat.reduceEqDiff,Nat.reduceLT,Nat.reduceAdd]
 (repeat (refine And.intro (by first|omega|decide) ?_))
 refine Al rfl Uu rfl (Wu 10 hh hno) (Ae rfl) ?_
 simp (maxSteps:=10^6) only[s4,c3,o3',Cy,Bx,By,push_cast,↓Int.cast_ofNat_Int,Int.cast_ofNat_Int,↓reduceIte,reduceCtorEq,Nat.reduceEqDiff,Nat.reduceLT,Nat.reduceAdd,Nat.reduceMul,Int.reduceLE,Int.reduceLT]
 (repeat (refine And.intro (by first|omega|decide) ?_))
 refine Al rfl Ut rfl (Ws (g:=g) (r:=r4) (M:=[]) (by unfold lfB lfA;rfl) a4.ok.sum.s) (Ae rfl) ?_
 have ph:=eq_true ph4
 simp (maxSteps:=10^6) only[ph,push_cast,↓reduceIte,Nat.reduceEqDiff,Nat.reduceLT,Nat.reduceAdd]
 refine⟨lfB g r4,[],[0],?_,rfl,Ar g r4,?_,?_⟩
 ·unfold lfB lfA
  rfl
 ·show ∀x∈_,Sv.bnd 5 _
  simp (maxSteps:=10^6) only[push_cast,↓reduceIte]
 ·simp (maxSteps:=10^6) only[push_cast,↓reduceIte]
theorem S9 {w0:World} {hp:List Res} (hg:Handle w0):Ai Tryz.prog w0 No 8 [] hp (.x (.a (.v (.bool true)))) hp:=Bq fun _ w hS=>A84 w (Zu hg hS)
end Go.Proofs.YtedaafmfjhjfmaaGreatDoor
