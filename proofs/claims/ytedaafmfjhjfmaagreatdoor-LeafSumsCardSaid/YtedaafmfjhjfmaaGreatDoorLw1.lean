import Derived.Test.YtedaafmfjhjfmaaGreatDoorLq1
/- Layer 23 walked: quorum.Came, Tick (a tally that is handed over, and turned), New. -/
namespace Go.Proofs.YtedaafmfjhjfmaaGreatDoor
open Go.RowKit
set_option linter.unusedSimpArgs false
set_option linter.unusedVariables false
attribute [local irreducible] Ah Ai Am Bc A7 Ay Ap A6
attribute [local irreducible] A8 okV Bj erV Tal.can Tal.st
theorem A2p (r:TalR) (γ:List Nm):Cont.vals γ (.c (tlA r))=tlV r:=rfl
theorem Ns {w0 w:World} {ow:Nat→Prop} {γ:List Nm} {hp:List Res} {k:Nat} {r:TalR} (hS:Sat w0 ow γ hp w) (hk:Cf hp[k]?=some (170,.c (tlA r))):(Sv.x (.a (.p k 0))).val γ=.pointer (some ⟨nmB γ k,0,none⟩)∧Vr w (some ⟨nmB γ k,0,none⟩) (tlV r):=
 ⟨rfl,Fz hS hk (A2p r γ)⟩
theorem A2q {w0:World} {ow:Nat→Prop} {hp:List Res} {k:Nat} {r:TalR} {Fs:List Fct} (id:Int) (hk:Cf hp[k]?=some (170,.c (tlA r))) (ok:TalOk Fs r) (hw:∀γ w,Sat w0 ow γ hp w→Known w No Fs):
  Ai Tryz.prog w0 ow 136 [.x (.a (.p k 0)),.x (.a (.v (.int .i64 id)))] hp (.x (.a (.v (erV (r.t.can id))))) hp:=Bq fun γ w hS=>
 A2o r _ id w (Ns hS hk).2 (ok.at_ (hw γ w hS)) ok.few1 ok.few2 ok.few3
theorem Ru {w0:World} {ow:Nat→Prop} {hp:List Res} {k:Nat} {r:TalR} {Fs:List Fct} (hk:Cf hp[k]?=some (170,.c (tlA r))) (ok:TalOk Fs r):Ai Tryz.prog w0 ow 116 [.x (.a (.p k 0))] hp (.x (.a (.v (.int .i64 r.t.st)))) hp:=
 Abu (fun γ w hS=>⟨_,(Ns hS hk).1,(Ns hS hk).2⟩) ok.few1 ok.few2 ok.few3
theorem Iq {w:World} {B:Nat→Prop} {Fs:List Fct} (h:Known w B Fs):Known w No Fs:=fun f hf=>by
 obtain⟨A,c,h1,h2,h3⟩:=h f hf
 exact⟨A,c,h1,h2,FW.no h3.rd⟩
theorem A2r (a b:List Int):(Bj a b).length≤64:=by
 unfold Bj
 exact Aag _
set_option maxRecDepth 100000 in
theorem A2s (r:TalR) (id:Int) {Fs:List Fct} {g:Nat} {w:World} {B:Nat→Prop} {γ:List Nm} (hS:Sat w B γ [.pin g 170 (.c (tlA r))] w) (hw:Known w B Fs) (ok:TalOk Fs r):
  Calls Tryz.prog 115 (List.map (Sv.val (γ++[.m (.bool true) (fun _=>False)])) [.x (.a (.p 0 0)),.x (.a (.v (.int .i64 id)))]).toArray w fun e w'=>∃(x:TalR×List Fct) (γ1:List Nm),(x.1.t=(if r.t.can id=0 then r.t.came id else r.t)∧TalOk (Fs++x.2) x.1)∧e=.returned ((Sv.x (.a (.v (erV (r.t.can id))))).val γ1)∧Sat w B γ1 [.pin g 170 (.c (tlA x.1)),.abs (Aa x.2)] w':=by
 have hkn:=Iq hw
 have fi:=(hw.fw ok.inn (fun e=>by rw[e];rfl))
 have vi:r.inn.val=.slice r.inn.A r.inn.l.length r.inn.c:=rfl
 have kw:∀{hp:List Res} γ' w',Sat w B γ' hp w'→Known w' No Fs:=fun γ' w' hS'=>L8 hS' hw (fun b h=>h.elim)
 refine Ci (n:=22) (ι:=TalR×List Fct) (fun x=>x.1.t=(if r.t.can id=0 then r.t.came id else r.t)∧TalOk (Fs++x.2) x.1) (fun _=>.x (.a (.v (erV (r.t.can id))))) (fun x=>[.pin g 170 (.c (tlA x.1)),.abs (Aa x.2)]) Tryz.func115 rfl Tryz.ntmps115 _ (hS.fct0 (by unfold tlA;simp only[push_cast])) (by simp) ?_
 simp (maxSteps:=10^6) only[push_cast,↓reduceIte,reduceCtorEq,Nat.reduceEqDiff,Nat.reduceLT,Nat.reduceAdd]
 (repeat (refine And.intro (by first|omega|decide) ?_))
 refine Al rfl Axy rfl (A2q (r:=r) (Fs:=Fs) (k:=0) id rfl ok kw) (Ae rfl) ?_
 by_cases g1:r.t.can id=0
 ·rw[g1,En]
  simp (maxSteps:=10^6) only[tlA,undef,push_cast,↓reduceIte,reduceCtorEq,Nat.reduceEqDiff,Nat.reduceLT,Nat.reduceLeDiff,Nat.reduceAdd]
  (repeat (refine And.intro (by first|omega|decide) ?_))
  refine Kx 1 (vs:=(Bj r.inn.l [id]).map (Value.int .i64)) rfl rfl Zj rfl (Vi (svs:=[]) (Q:=fun w en w'=>∃v',en=.returned v'∧Own w' w.heap.size 3 v' ((Bj r.inn.l [id]).map (Value.int .i64))∧Below w.heap.size w w') (va:=r.inn.l.map (Value.int .i64)) (vb:=[id].map (Value.int .i64)) (Di (show FW w B r.inn.A (r.inn.l.map (Value.int .i64)) from fi.2) _ _ (List.length_map ..) fi.1) (Ayi (k:=2) (vs:=[id].map (Value.int .i64)) rfl (fun _=>rfl) 1 1 rfl (Nat.le_refl _)) fun A c A2 c2 w hc hc2 r1 r2=>?_) (Ae rfl) (by simp (maxSteps:=10^6) only[push_cast,Nat.reduceLT,Nat.reduceAdd]) ?_
  ·rw[List.length_map] at hc hc2 ⊢
   rw[List.length_map]
   exact Aau r.inn.l [id] A A2 c c2 w (by have:=ok.few2;omega) (by simp) hc hc2 r1 r2
  intro A cap h1 h2
  simp (maxSteps:=10^6) only[undef,push_cast,↓reduceIte,reduceCtorEq,Nat.reduceEqDiff,Nat.reduceLT,Nat.reduceAdd]
  (repeat (refine And.intro (by first|omega|decide) ?_))
  refine⟨({r with inn:=⟨A,cap,Bj r.inn.l [id]⟩},[⟨.slice A (Bj r.inn.l [id]).length cap,(Bj r.inn.l [id]).length,(Bj r.inn.l [id]).map (Value.int .i64)⟩]),⟨rfl,?_⟩,A9 [0,1] ?_⟩
  ·have h3:=A2r r.inn.l [id]
   exact⟨ok.who.left,SlF.new rfl (by simp [Hy]),ok.gone.left,ok.few1,by show (Bj _ _).length≤1000;omega,ok.few3,ok.need,ok.went⟩
  ·simp (maxSteps:=10^6) only[SlV.val,push_cast,↓reduceIte,reduceCtorEq,Nat.reduceAdd]
 ·rw[B5 g1]
  simp (maxSteps:=10^6) only[push_cast,↓reduceIte,Nat.reduceEqDiff,Nat.reduceLT,Nat.reduceAdd]
  refine⟨(r,[]),⟨by rw[if_neg g1],by rw[List.append_nil];exact ok⟩,A9 [0,1] ?_⟩
  simp (maxSteps:=10^6) only[tlA,push_cast,↓reduceIte,reduceCtorEq,Nat.reduceAdd]
theorem A2t {t:Tal} (h:t.st=0):t.went < t.term:=by
 unfold Tal.st at h
 by_cases h1:t.inn.length=t.who.length
 ·rw[if_pos h1] at h;cases h
 rw[if_neg h1] at h
 by_cases h2:t.need≤(t.inn.length:Int)∧(t.term≤t.went∨(t.who.length:Int) - t.inn.length - t.gone.length=0)
 ·rw[if_pos h2] at h;cases h
 rw[if_neg h2] at h
 by_cases h3:(t.inn.length:Int) < t.need∧(t.term≤t.went∨(t.inn.length:Int)+((t.who.length:Int) - t.inn.length - t.gone.length) < t.need)
 ·rw[if_pos h3] at h;cases h
 ·apply Int.not_le.1
  intro hc
  rcases Int.lt_or_le (t.inn.length:Int) t.need with h4|h4
  ·exact h3 ⟨h4,.inl hc⟩
  ·exact h2 ⟨h4,.inl hc⟩
set_option maxRecDepth 100000 in
theorem A2u (r:TalR) {Fs:List Fct} {g:Nat} {w:World} {B:Nat→Prop} {γ:List Nm} (hS:Sat w B γ [.pin g 170 (.c (tlA r))] w) (ok:TalOk Fs r):
  Calls Tryz.prog 64 (List.map (Sv.val (γ++[.m (.bool true) (fun _=>False)])) [.x (.a (.p 0 0))]).toArray w fun e w'=>∃(x:TalR×List Fct) (γ1:List Nm),(x.1.t=r.t.tick∧TalOk (Fs++x.2) x.1)∧e=.returned ((Sv.t []).val γ1)∧Sat w B γ1 [.pin g 170 (.c (tlA x.1)),.abs (Aa x.2)] w':=by
 have e:r.t.tick=if r.t.st=0 then {r.t with went:=r.t.went+1} else r.t:=rfl
 refine Ci (n:=16) (ι:=TalR×List Fct) (fun x=>x.1.t=r.t.tick∧TalOk (Fs++x.2) x.1) (fun _=>.t []) (fun x=>[.pin g 170 (.c (tlA x.1)),.abs (Aa x.2)]) Tryz.func64 rfl Tryz.ntmps64 _ (hS.fct0 (by unfold tlA;simp only[push_cast])) (by simp) ?_
 simp (maxSteps:=10^6) only[push_cast,↓reduceIte,reduceCtorEq,Nat.reduceEqDiff,Nat.reduceLT,Nat.reduceAdd]
 (repeat (refine And.intro (by first|omega|decide) ?_))
 refine Al rfl M4 rfl (Ru (r:=r) (Fs:=Fs) (k:=0) rfl ok) (Ae rfl) ?_
 by_cases g1:r.t.st=0
 ·have h1:=A2t g1
  have h1:r.went < r.term:=h1
  have h2:=ok.went
  rw[if_pos g1] at e
  have n1:r.went+1≤9223372036854775807:=by omega
  have n2:(-9223372036854775808:Int)≤r.went+1:=by omega
  simp (maxSteps:=10^6) only[g1,n1,n2,tlA,undef,push_cast,↓reduceIte,reduceCtorEq,Nat.reduceEqDiff,Nat.reduceLT,Nat.reduceAdd,Int.reduceNeg]
  (repeat (refine And.intro (by first|omega|decide) ?_))
  refine⟨({r with went:=r.went+1},[]),⟨by rw[e];rfl,?_⟩,A9 [0,1] ?_⟩
  ·rw[List.append_nil]
   exact⟨ok.who,ok.inn,ok.gone,ok.few1,ok.few2,ok.few3,ok.need,by show 0≤r.went+1∧r.went+1≤1000∧0≤r.term∧r.term≤1000;omega⟩
  ·simp (maxSteps:=10^6) only[push_cast,↓reduceIte,reduceCtorEq,Nat.reduceAdd]
 ·rw[if_neg g1] at e
  simp (maxSteps:=10^6) only[g1,push_cast,↓reduceIte,Nat.reduceEqDiff,Nat.reduceLT,Nat.reduceAdd]
  refine⟨(r,[]),⟨by rw[e],by rw[List.append_nil];exact ok⟩,A9 [0,1] ?_⟩
  simp (maxSteps:=10^6) only[tlA,push_cast,↓reduceIte,reduceCtorEq,Nat.reduceAdd]
theorem A2v:ZOk Tryz.prog 170 (.c [.v (.slice none 0 0),.v (.slice none 0 0),.v (.slice none 0 0),.v (.int .i64 0),.v (.int .i64 0),.v (.int .i64 0)])=True:=eq_true ⟨.agg #[.slice none 0 0,.slice none 0 0,.slice none 0 0,.int .i64 0,.int .i64 0,.int .i64 0],by kernel_rfl,fun _=>rfl⟩
set_option maxRecDepth 100000 in
theorem A2w (l:List Int) (A:Option Addr) (c:Nat) (need term:Int) (w:World) (hl:l.length≤1000) (hc:l.length≤c) (hR:RdV w w.heap.size A (l.map (Value.int .i64))) (h1:Br (-1) l=true) (h2:1≤need∧need≤l.length) (h3:1≤term∧term≤1000):
  Calls Tryz.prog 95 #[.slice A l.length c,.int .i64 need,.int .i64 term] w fun e w'=>∃γ1,e=.returned ((Sv.t [.a (.p 0 0),.a (.v .nilIface)]).val γ1)∧Sat w No γ1 [.blk 170 (.c [.o 1,.v (.slice none 0 0),.v (.slice none 0 0),.v (.int .i64 need),.v (.int .i64 term),.v (.int .i64 0)]),.own 3 (.i64 l)] w':=by
 have ok1:=Do 1
 have b1:¬need < 1:=by omega
 have b2:¬(l.length:Int) < need:=by omega
 have b3:¬term < 1:=by omega
 have b4:¬(1000:Int) < term:=by omega
 refine Jf (n:=36) Tryz.func95 rfl Tryz.ntmps95 [.x (.a (.v (.slice A l.length c))),.x (.a (.v (.int .i64 need))),.x (.a (.v (.int .i64 term)))] (Sat.init w No) (by simp) _ _ ?_
 simp (maxSteps:=10^6) only[push_cast,↓reduceIte,reduceCtorEq,Nat.reduceLT,Nat.reduceAdd]
 (repeat (refine And.intro (by first|omega|decide) ?_))
 refine Al rfl U1 rfl (Vj (l:=l) (by omega) (Bt hR _ _ (by simp) hc)) (Ae rfl) ?_
 rw[h1,ok1]
 simp (maxSteps:=10^6) only[b1,b2,b3,b4,push_cast,↓reduceIte,reduceCtorEq,Nat.reduceEqDiff,Nat.reduceLT]
 (repeat (refine And.intro (by first|omega|decide) ?_))
 refine Ig rfl Ew rfl (Gi (l:=l) hl (Bt hR _ _ (by simp) hc) (by simp only[push_cast])) (Ae rfl) (by simp (maxSteps:=10^6) only[push_cast]) ?_
 simp (maxSteps:=10^6) only[A2v,push_cast,↓reduceIte,reduceCtorEq,Nat.reduceEqDiff,Nat.reduceLT,Nat.reduceAdd]
 (repeat (refine And.intro (by first|omega|decide) ?_))
 refine A9 [1,0] ?_
 simp (maxSteps:=10^6) only[push_cast,↓reduceIte,reduceCtorEq,Nat.reduceLT,Nat.reduceAdd]
theorem Abw {w0:World} {ow:Nat→Prop} {hp:List Res} {sv:Sv} {l:List Int} (need term:Int) (hl:l.length≤1000) (h:B3 w0 ow hp sv (l.map (Value.int .i64))) (hbr:∀r∈hp,Res.bnd hp.length r) (h1:Br (-1) l=true) (h2:1≤need∧need≤l.length) (h3:1≤term∧term≤1000):
  Ai Tryz.prog w0 ow 95 [sv,.x (.a (.v (.int .i64 need))),.x (.a (.v (.int .i64 term)))] hp (.t [.a (.p hp.length 0),.a (.v .nilIface)]) (hp++[.blk 170 (.c [.o (hp.length+1),.v (.slice none 0 0),.v (.slice none 0 0),.v (.int .i64 need),.v (.int .i64 term),.v (.int .i64 0)]),.own 3 (.i64 l)]):=by
 have:=Qv (P:=Tryz.prog) (f:=95) (svs:=[sv,.x (.a (.v (.int .i64 need))),.x (.a (.v (.int .i64 term)))]) (w0:=w0) (ow:=ow) (sv1:=.t [.a (.p 0 0),.a (.v .nilIface)]) (hp1:=[.blk 170 (.c [.o 1,.v (.slice none 0 0),.v (.slice none 0 0),.v (.int .i64 need),.v (.int .i64 term),.v (.int .i64 0)]),.own 3 (.i64 l)]) [] hbr (by simp only[push_cast,Nat.reduceLT,Nat.reduceAdd]) (by simp only[push_cast,Nat.reduceLT,Nat.reduceAdd])
  fun γ w hS=>⟨No,fun b h=>h.elim,by
   obtain⟨A,c,e1,b1,r1⟩:=h γ w hS
   rw[List.length_map] at e1 b1
   show Calls _ _ #[sv.val γ,_,_] w _
   rw[e1]
   exact A2w l A c need term w hl b1 r1 h1 h2 h3⟩
 simp only[De,Ca,push_cast,↓reduceIte,Nat.reduceLT,Nat.reduceAdd] at this
 exact this
end Go.Proofs.YtedaafmfjhjfmaaGreatDoor
/- A leaf as whom it is handed to finds it; its maps. No program in sight, but its types. -/
namespace Go.Proofs.YtedaafmfjhjfmaaGreatDoor
open Go.RowKit
set_option linter.unusedSimpArgs false
set_option linter.unusedVariables false
theorem A2x {γ:List Nm} {q:IntKind} (l:List (Int×Sc)) (i:Int):Ez (mpE γ q l) i=(Cw l i).map (Sc.val γ):=by
 induction l with
 |nil=>rfl
 |cons p l ih=>
  show Ez ((Value.int q p.1,p.2.val γ)::mpE γ q l) i=_
  by_cases h:p.1=i
  ·simp [Ez,Cw,h]
  ·simp only[Ez,Cw,if_neg h,ih]
structure RawV (w:World) (x:Value) (f:Int→Option Value):Prop where
 raw:Tt w No .i64 x
 look:∀i,Hk w x i=f i
theorem RawV.later {w0 w:World} {x:Value} {f:Int→Option Value} (h:RawV w0 x f) (hk:Keeps No w0 w):RawV w x f:=by
 obtain⟨h1,h2⟩:=h
 rcases h1 with rfl|⟨g,es,c,rfl,h3,h4,h5⟩
 ·exact⟨.inl rfl,h2⟩
 ·have hlt:g < w0.heap.size:=(Array.getElem?_eq_some_iff.1 h3).1
  have h6:w.heap[g]?=some (.map es c):=(hk.block g hlt h4).trans h3
  refine⟨.inr ⟨g,es,c,rfl,h6,h4,h5⟩,fun i=>?_⟩
  rw[←h2 i]
  simp only[Hk,Py,h6,h3]
theorem Rv {w0 w:World} {ow:Nat→Prop} {γ:List Nm} {hp:List Res} {k:Nat} {m:List (Int×Sc)} (hS:Sat w0 ow γ hp w) (hr:hp[k]?=some (.mp .i64 m)):RawV w (nmS γ k) fun i=>(Cw m i).map (Sc.val γ):=by
 obtain⟨_,g,es,h1,h2,_,h3⟩:=hS.holds k _ hr
 rw[h1]
 refine⟨.inr ⟨g,es,es.size,rfl,h2,fun h=>h,fun e he=>?_⟩,fun i=>?_⟩
 ·have:(e.key,e.val)∈mpE γ .i64 m:=by rw[←h3];exact List.mem_map.2 ⟨e,he,rfl⟩
  obtain⟨p,_,hp⟩:=List.mem_map.1 this
  exact⟨p.1,(congrArg Prod.fst hp).symm⟩
 ·unfold Hk Py
  simp only[h2,h3]
  exact A2x m i
theorem Abx (l:List (Int×UInt64)) (i:Int):Cw (puE l) i=(Aq l i).map fun x=>.a (.v (vU64 x)):=by
 induction l with
 |nil=>rfl
 |cons p l ih=>
  show Cw ((p.1,_)::puE l) i=_
  unfold Cw Aq
  by_cases h:p.1=i
  ·rw[if_pos h,if_pos h];rfl
  ·rw[if_neg h,if_neg h];exact ih
theorem A2y (l:List (Int×UInt64)) (i:Int) (x:UInt64):putI (puE l) i (.a (.v (vU64 x)))=puE (Bk l i x):=by
 induction l with
 |nil=>rfl
 |cons p l ih=>
  show putI ((p.1,_)::puE l) i _=_
  unfold putI Bk
  by_cases h:p.1=i
  ·rw[if_pos h,if_pos h,←h];rfl
  ·rw[if_neg h,if_neg h,ih];rfl
theorem Nt {α:Type} (l:List (Int×SlV α)) (i:Int):Cw (slE l) i=(Aq l i).map fun x=>.a (.v x.val):=by
 induction l with
 |nil=>rfl
 |cons p l ih=>
  show Cw ((p.1,_)::slE l) i=_
  unfold Cw Aq
  by_cases h:p.1=i
  ·rw[if_pos h,if_pos h];rfl
  ·rw[if_neg h,if_neg h];exact ih
theorem V2 {α:Type} (l:List (Int×SlV α)) (i:Int) (x:SlV α):putI (slE l) i (.a (.v x.val))=slE (Bk l i x):=by
 induction l with
 |nil=>rfl
 |cons p l ih=>
  show putI ((p.1,_)::slE l) i _=_
  unfold putI Bk
  by_cases h:p.1=i
  ·rw[if_pos h,if_pos h,←h];rfl
  ·rw[if_neg h,if_neg h,ih];rfl
theorem H0 {α β:Type} (f:α→β) (l:List (Int×α)) (i:Int):Aq (Bn f l) i=(Aq l i).map f:=by
 induction l with
 |nil=>rfl
 |cons p l ih=>
  show Aq ((p.1,f p.2)::Bn f l) i=_
  unfold Aq
  by_cases h:p.1=i
  ·rw[if_pos h,if_pos h];rfl
  ·rw[if_neg h,if_neg h];exact ih
theorem V3 {α β:Type} (f:α→β) (l:List (Int×α)) (i:Int) (x:α):Bn f (Bk l i x)=Bk (Bn f l) i (f x):=by
 induction l with
 |nil=>rfl
 |cons p l ih=>
  show Bn f (Bk (p::l) i x)=Bk ((p.1,f p.2)::Bn f l) i (f x)
  unfold Bk
  by_cases h:p.1=i
  ·rw[if_pos h,if_pos h];rfl
  ·rw[if_neg h,if_neg h,←ih];rfl
theorem V4 {α:Type} {l:List (Int×α)} {i:Int} {x:α} (h:Aq l i=some x):(i,x)∈l:=by
 induction l with
 |nil=>cases h
 |cons p l ih=>
  unfold Aq at h
  by_cases hp:p.1=i
  ·rw[if_pos hp] at h
   cases h
   subst hp
   exact List.mem_cons_self ..
  ·rw[if_neg hp] at h
   exact List.mem_cons_of_mem _ (ih h)
theorem Nu {α:Type} {l:List (Int×α)} {i:Int} {x:α} {p:Int×α} (h:p∈Bk l i x):p.2=x∨p∈l:=by
 induction l with
 |nil=>rw[List.mem_singleton.1 h];exact .inl rfl
 |cons q l ih=>
  unfold Bk at h
  by_cases hp:q.1=i
  ·rw[if_pos hp] at h
   rcases List.mem_cons.1 h with rfl|h
   ·exact .inl rfl
   ·exact .inr (List.mem_cons_of_mem _ h)
  ·rw[if_neg hp] at h
   rcases List.mem_cons.1 h with rfl|h
   ·exact .inr (List.mem_cons_self ..)
   ·exact (ih h).imp id (List.mem_cons_of_mem _)
def lfV (r:LfR) (t xp xb xr:Value):List Value:=[.int .i64 r.place,.int .i64 r.gen,.int .i64 r.dim,.int .i64 r.term,.int .i64 r.need,.int .i64 r.parent,r.above.val,r.group.val,.int .i64 r.phase,r.waits.val,t,r.joined.val,xp,xb,xr]++mgV r.sum
structure LfAt (r:LfR) (w:World) (a:Addr) (t xp xb xr:Value):Prop where
 vr:Vr w (some a) (lfV r t xp xb xr)
 pub:RawV w xp fun i=>(Aq r.pub i).map vU64
 box:r.live=true→RawV w xb fun i=>(Aq r.boxes i).map SlV.val
theorem LfAt.later {r:LfR} {w0 w:World} {a:Addr} {t xp xb xr:Value} (h:LfAt r w0 a t xp xb xr) (hk:Keeps No w0 w):LfAt r w a t xp xb xr:=⟨h.vr.later hk,h.pub.later hk,fun hp=>(h.box hp).later hk⟩
theorem Js {w0 w:World} {ow:Nat→Prop} {γ:List Nm} {g:Nat} {r:LfR} {M:List Res} (hS:Sat w0 ow γ (lfB g r++M) w):nmB γ 0=g∧LfAt r w ⟨g,0,none⟩ (.pointer (some ⟨nmB γ 1,0,none⟩)) (nmS γ 2) (nmS γ 3) (nmS γ 4):=by
 obtain⟨_,h1,_⟩:=hS.holds 0 (.pin g 104 (.c (lfA r))) rfl
 refine⟨h1,?_,?_,fun hp=>?_⟩
 ·have hv:=Fz (k:=0) (t:=104) (c:=.c (lfA r)) (vs:=lfV r (.pointer (some ⟨nmB γ 1,0,none⟩)) (nmS γ 2) (nmS γ 3) (nmS γ 4)) hS rfl (by
   show (lfA r).map (At.val γ)=_
   unfold lfA lfV
   rw[List.map_append,Kt]
   rfl)
  rw[h1] at hv
  exact hv
 ·have h:=Rv (k:=2) (m:=puE r.pub) hS rfl
  refine⟨h.raw,fun i=>(h.look i).trans ?_⟩
  rw[Abx]
  cases Aq r.pub i<;>rfl
 ·have h:=Rv (k:=3) (m:=slE r.boxes) hS (by show some (bxR r)=_;unfold bxR;rw[if_pos hp])
  refine⟨h.raw,fun i=>(h.look i).trans ?_⟩
  rw[Nt]
  cases Aq r.boxes i<;>rfl
structure LfC (r:LfR) (w:World) (a:Addr) (t xp xb xr:Value):Prop where
 c0:Be w (Aj (some a) 0)=.int .i64 r.place
 c1:Be w (Aj (some a) 1)=.int .i64 r.gen
 c2:Be w (Aj (some a) 2)=.int .i64 r.dim
 c5:Be w (Aj (some a) 5)=.int .i64 r.parent
 c8:Be w (Aj (some a) 8)=.int .i64 r.phase
 c11:Be w (Aj (some a) 11)=r.joined.val
 c12:Be w (Aj (some a) 12)=xp
 c13:Be w (Aj (some a) 13)=xb
 c7:Be w (Aj (some a) 7)=r.group.val
 c9:Be w (Aj (some a) 9)=r.waits.val
 ok:∀k,k < 15→B6 w No (Aj (some a) k)
 sum:C1 w (Aj (some a) 15) 43 0=mgA r.sum∧Gc w No (Aj (some a) 15) 43 0
theorem V5 (m:MgR):(mgV m).map At.v=mgA m:=by
 unfold mgV mgA mgL
 rw[List.map_append,List.map_append,List.map_map]
 rfl
theorem LfAt.cells {r:LfR} {w:World} {a:Addr} {t xp xb xr:Value} (h:LfAt r w a t xp xb xr) (hs:r.sum.sm.length=32):LfC r w a t xp xb xr:=by
 have hl:(lfV r t xp xb xr).length=58:=by
  unfold lfV mgV
  simp [hs]
 have hsum:∀k v,(mgV r.sum)[k]?=some v→Be w (Aj (some a) (15+k))=v∧B6 w No (Aj (some a) (15+k)):=fun k v hk=>h.vr.cell (15+k) v (by
  unfold lfV
  rw[List.getElem?_append_right (by simp)]
  simpa using hk)
 have hml:(mgV r.sum).length=43:=by unfold mgV;simp [hs]
 refine⟨(h.vr.cell 0 _ rfl).1,(h.vr.cell 1 _ rfl).1,(h.vr.cell 2 _ rfl).1,(h.vr.cell 5 _ rfl).1,(h.vr.cell 8 _ rfl).1,(h.vr.cell 11 _ rfl).1,(h.vr.cell 12 _ rfl).1,(h.vr.cell 13 _ rfl).1,(h.vr.cell 7 _ rfl).1,(h.vr.cell 9 _ rfl).1,fun k hk=>(h.vr.cell k _ (List.getElem?_eq_getElem (by omega))).2,?_,?_⟩
 ·rw[←V5]
  refine Nh 43 0 _ hml fun k v hv=>?_
  rw[Cy,Nat.zero_add]
  exact (hsum k v hv).1
 ·refine Rb 43 0 fun k hk=>?_
  rw[Cy,Nat.zero_add]
  exact (hsum k _ (List.getElem?_eq_getElem (by omega))).2
end Go.Proofs.YtedaafmfjhjfmaaGreatDoor
/- Layer 28 walked: readers of a leaf: Phase, peers. -/
namespace Go.Proofs.YtedaafmfjhjfmaaGreatDoor
open Go.RowKit
set_option linter.unusedSimpArgs false
set_option linter.unusedVariables false
attribute [local irreducible] Ah Ai Am Bc A7 Ay Ap A6
set_option maxRecDepth 100000 in
theorem A2z (r:LfR) (a:Addr) {t xp xb xr:Value} (w:World) (h:LfAt r w a t xp xb xr) (hsm:r.sum.sm.length=32):Calls Tryz.prog 13 #[.pointer (some a)] w fun e w'=>e=.returned (.int .i64 r.phase)∧Below w.heap.size w w':=by
 obtain⟨c0,c1,c2,c5,c8,c11,c12,c13,c7,c9,ok,_⟩:=h.cells hsm
 have k8:=eq_true (ok 8 (by omega))
 have hs:(some a).isSome=true:=rfl
 have hn:(some a).isNone=false:=rfl
 refine Bm (n:=9) Tryz.func13 rfl Tryz.ntmps13 [.x (.a (.v (.pointer (some a))))] (by simp) (.x (.a (.v (.int .i64 r.phase)))) (fun _=>rfl) ?_
 simp (maxSteps:=10^6) only[c8,k8,hs,hn,push_cast,↓reduceIte,reduceCtorEq,Nat.reduceLT]
set_option maxRecDepth 100000 in
theorem A20 (r:LfR) (a:Addr) {t xp xb xr:Value} (l:List Int) (A:Option Addr) (c:Nat) (w:World) (h:LfAt r w a t xp xb xr) (hsm:r.sum.sm.length=32) (hl:l.length≤1000) (hR:RdV w w.heap.size A (l.map (Value.int .i64))):
  Calls Tryz.prog 152 #[.pointer (some a),.slice A l.length c] w fun e w'=>∃γ1,e=.returned ((Sv.x (.a (.o 0))).val γ1)∧Sat w No γ1 [.onn 115 2 (.c (pcs (r.s.peers l)))] w':=by
 obtain⟨c0,c1,c2,c5,c8,c11,c12,c13,c7,c9,ok,_⟩:=h.cells hsm
 have k12:=eq_true (ok 12 (by omega))
 have hs:(some a).isSome=true:=rfl
 have hn:(some a).isNone=false:=rfl
 have raw:=eq_true h.pub.raw
 have F:=FM.of hR
 have hpl:∀i,(r.s.peers (l.take i)).length=(l.take i).length:=fun i=>by unfold LfS.peers;rw[List.length_map]
 refine Jf (n:=27) Tryz.func152 rfl Tryz.ntmps152 [.x (.a (.v (.pointer (some a)))),.x (.a (.v (.slice A l.length c)))] (Sat.init w No) (by simp) _ _ ?_
 simp (maxSteps:=10^6) only[push_cast,↓reduceIte,reduceCtorEq,Nat.reduceEqDiff,Nat.reduceLT]
 refine U6 5 115 2 (.c []) (by omega) rfl rfl (by simp (maxSteps:=10^6) only[push_cast]) ?_
 refine B9 (ι:=Nat) (fun i=>⟨[(0,.x (.a (.v (.pointer (some a))))),(5,.x (.a (.o 0))),(8,.x (.a (.v (.slice A l.length c)))),(9,.x (.a (.v (.int .i64 l.length)))),(10,.x (.a (.v (.int .i64 i))))],[.onn 115 2 (.c (pcs (r.s.peers (l.take i))))]⟩) (fun i=>i≤l.length) (fun i=>l.length - i) 0 [0] (by omega) ?_ ?_
 ·have e:r.s.peers []=[]:=rfl
  simp (maxSteps:=10^6) only[e,Q7,push_cast,↓Int.cast_ofNat_Int,Int.cast_ofNat_Int,↓reduceIte,reduceCtorEq,Nat.reduceEqDiff,Nat.reduceLT]
 ·intro i hi
  by_cases hlt:(i:Int) < l.length
  ·have i0:(0:Int)≤i:=by omega
   have hil:i < l.length:=by omega
   have d0:=F.cell i hil
   have o0:=F.ok i hil
   have hA:=F.some_ (by omega)
   have hlen:(l.take i).length=i:=by rw[List.length_take];omega
   have ht:l.take (i+1)=l.take i++[ix l i]:=by
    rw[List.take_add_one,List.getElem?_eq_getElem hil]
    simp [ix,List.getD_eq_getElem?_getD,List.getElem?_eq_getElem hil]
   have hp:pcs (r.s.peers (l.take (i+1)))=pcs (r.s.peers (l.take i))++[.v (.int .i64 (ix l i)),.v (vU64 ((Aq r.pub (ix l i)).getD 0))]:=by
    rw[ht]
    unfold LfS.peers
    rw[List.map_append,Aap,List.map_cons,List.map_nil,Nb,Q7]
    rfl
   have hpl:=hpl i
   have lk:=h.pub.look (ix l i)
   have nx:(i:Int)+1≤9223372036854775807:=by omega
   have vz:(Value.int .u64 0)=vU64 0:=rfl
   cases hm:Aq r.pub (ix l i) with
   |none=>
    rw[hm] at lk hp
    have lk:Hk w xp (ix l i)=none:=lk
    have hp:pcs (r.s.peers (l.take (i+1)))=pcs (r.s.peers (l.take i))++[.v (.int .i64 (ix l i)),.v (.int .u64 0)]:=hp
    simp (maxSteps:=10^6) only[hlt,i0,d0,o0,hA,hlen,hpl,lk,c12,k12,raw,hs,nx,push_cast,↓Int.toNat_natCast,↓reduceIte,reduceCtorEq,Nat.reduceEqDiff,Nat.reduceLT,Nat.reduceLeDiff,Nat.reduceAdd,Nat.reduceMul,Int.reduceNeg]
    (repeat (refine And.intro (by first|omega|decide) ?_))
    refine Bv (i+1) [2] (by omega) (by omega) ?_
    simp (maxSteps:=10^6) only[hp,push_cast,↓reduceIte,reduceCtorEq,Nat.reduceEqDiff,Nat.reduceLT]
   |some x=>
    rw[hm] at lk hp
    have lk:Hk w xp (ix l i)=some (vU64 x):=lk
    have hp:pcs (r.s.peers (l.take (i+1)))=pcs (r.s.peers (l.take i))++[.v (.int .i64 (ix l i)),.v (vU64 x)]:=hp
    simp (maxSteps:=10^6) only[hlt,i0,d0,o0,hA,hlen,hpl,lk,c12,k12,raw,hs,nx,push_cast,↓Int.toNat_natCast,↓reduceIte,reduceCtorEq,Nat.reduceEqDiff,Nat.reduceLT,Nat.reduceLeDiff,Nat.reduceAdd,Nat.reduceMul,Int.reduceNeg]
    (repeat (refine And.intro (by first|omega|decide) ?_))
    refine Bv (i+1) [2] (by omega) (by omega) ?_
    simp (maxSteps:=10^6) only[hp,push_cast,↓reduceIte,reduceCtorEq,Nat.reduceEqDiff,Nat.reduceLT]
  ·have e:i=l.length:=by omega
   subst e
   simp (maxSteps:=10^6) only[hlt,List.take_length,push_cast,↓reduceIte,reduceCtorEq,Nat.reduceEqDiff,Nat.reduceLT]
   refine A9 [0] ?_
   simp (maxSteps:=10^6) only[push_cast,↓reduceIte,Nat.reduceLT]
end Go.Proofs.YtedaafmfjhjfmaaGreatDoor
