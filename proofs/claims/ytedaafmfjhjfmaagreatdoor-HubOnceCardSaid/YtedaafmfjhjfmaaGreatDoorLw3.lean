import Derived.Test.YtedaafmfjhjfmaaGreatDoorLq1
import Derived.Test.YtedaafmfjhjfmaaGreatDoorCf1
/- Layer 23 walked: quorum.Came, Tick (a tally that is handed over, and turned), New. -/
namespace Go.Proofs.YtedaafmfjhjfmaaGreatDoor
open _root_.Go.Proofs.Tryz
open Go.RowKit
set_option linter.unusedSimpArgs false
set_option linter.unusedVariables false
section
attribute [local irreducible] Ac Ad Ah Au Ao Aj Ai Al
attribute [local irreducible] A9 okV Ak erV Tal.can Tal.st
theorem Atu (r:TalR) (γ:List Nm):Cont.vals γ (.c (tlA r))=tlV r:=rfl
theorem Wn {w0 w:World} {ow:Nat→Prop} {γ:List Nm} {hp:List Res} {k:Nat} {r:TalR} (hS:Sat w0 ow γ hp w) (hk:Ch hp[k]?=some (170,.c (tlA r))):(Sv.x (.a (.p k 0))).val γ=.pointer (some ⟨nmB γ k,0,none⟩)∧Vr w (some ⟨nmB γ k,0,none⟩) (tlV r):=
 ⟨rfl,K8 hS hk (Atu r γ)⟩
theorem Ada {w0:World} {ow:Nat→Prop} {hp:List Res} {k:Nat} {r:TalR} {Fs:List Fct} (id:Int) (hk:Ch hp[k]?=some (170,.c (tlA r))) (ok:TalOk Fs r) (hw:∀γ w,Sat w0 ow γ hp w→Known w No Fs):
  Ad prog w0 ow 136 [.x (.a (.p k 0)),.x (.a (.v (.int .i64 id)))] hp (.x (.a (.v (erV (r.t.can id))))) hp:=Bc fun γ w hS=>
 Att r _ id w (Wn hS hk).2 (ok.at_ (hw γ w hS)) ok.few1 ok.few2 ok.few3
theorem Ox {w0:World} {ow:Nat→Prop} {hp:List Res} {k:Nat} {r:TalR} {Fs:List Fct} (hk:Ch hp[k]?=some (170,.c (tlA r))) (ok:TalOk Fs r):Ad prog w0 ow 116 [.x (.a (.p k 0))] hp (.x (.a (.v (.int .i64 r.t.st)))) hp:=
 Ac9 (fun γ w hS=>⟨_,(Wn hS hk).1,(Wn hS hk).2⟩) ok.few1 ok.few2 ok.few3
theorem Adb (a b:List Int):(Ak a b).length≤64:=by
 unfold Ak
 exact Vx _
set_option maxRecDepth 100000 in
theorem Atv (r:TalR) (id:Int) {Fs:List Fct} {g:Nat} {w:World} {B:Nat→Prop} {γ:List Nm} (hS:Sat w B γ [.pin g 170 (.c (tlA r))] w) (hw:Known w B Fs) (ok:TalOk Fs r):
  Calls prog 115 (List.map (Sv.val (γ++[.m (.bool true) (fun _=>False)])) [.x (.a (.p 0 0)),.x (.a (.v (.int .i64 id)))]).toArray w fun e w'=>∃(x:TalR×List Fct) (γ1:List Nm),(x.1.t=(if r.t.can id=0 then r.t.came id else r.t)∧TalOk (Fs++x.2) x.1)∧e=.returned ((Sv.x (.a (.v (erV (r.t.can id))))).val γ1)∧Sat w B γ1 [.pin g 170 (.c (tlA x.1)),.abs (fctRep x.2)] w':=by
 have hkn:=Wm hw
 have fi:=(hw.fw ok.inn (fun e=>by rw[e];rfl))
 have vi:r.inn.val=.slice r.inn.A r.inn.l.length r.inn.c:=rfl
 have kw:∀{hp:List Res} γ' w',Sat w B γ' hp w'→Known w' No Fs:=fun γ' w' hS'=>Ow hS' hw (fun b h=>h.elim)
 refine Cy (n:=22) (ι:=TalR×List Fct) (fun x=>x.1.t=(if r.t.can id=0 then r.t.came id else r.t)∧TalOk (Fs++x.2) x.1) (fun _=>.x (.a (.v (erV (r.t.can id))))) (fun x=>[.pin g 170 (.c (tlA x.1)),.abs (fctRep x.2)]) func115 rfl ntmps115 _ (hS.fct0 (by unfold tlA;simp only[push_cast])) (by simp) ?_
 simp (maxSteps:=10^6) only[push_cast,↓reduceIte,reduceCtorEq,Nat.reduceEqDiff,Nat.reduceLT,Nat.reduceAdd]
 (repeat (refine And.intro (by first|omega|decide) ?_))
 refine Am rfl Aa5 rfl (Ada (r:=r) (Fs:=Fs) (k:=0) id rfl ok kw) (Aa rfl) ?_
 by_cases g1:r.t.can id=0
 ·rw[g1,Gc]
  simp (maxSteps:=10^6) only[tlA,undef,push_cast,↓reduceIte,reduceCtorEq,Nat.reduceEqDiff,Nat.reduceLT,Nat.reduceLeDiff,Nat.reduceAdd]
  (repeat (refine And.intro (by first|omega|decide) ?_))
  refine Ic 1 (vs:=(Ak r.inn.l [id]).map (Value.int .i64)) rfl rfl Nz rfl (Mk (svs:=[]) (Q:=fun w en w'=>∃v',en=.returned v'∧Own w' w.heap.size 3 v' ((Ak r.inn.l [id]).map (Value.int .i64))∧Below w.heap.size w w') (va:=r.inn.l.map (Value.int .i64)) (vb:=[id].map (Value.int .i64)) (Dq (show FW w B r.inn.A (r.inn.l.map (Value.int .i64)) from fi.2) _ _ (List.length_map ..) fi.1) (Vn (k:=2) (vs:=[id].map (Value.int .i64)) rfl (fun _=>rfl) 1 1 rfl (Nat.le_refl _)) fun A c A2 c2 w hc hc2 r1 r2=>?_) (Aa rfl) (by simp (maxSteps:=10^6) only[push_cast,Nat.reduceLT,Nat.reduceAdd]) ?_
  ·rw[List.length_map] at hc hc2 ⊢
   rw[List.length_map]
   exact R5 r.inn.l [id] A A2 c c2 w (by have:=ok.few2;omega) (by simp) hc hc2 r1 r2
  intro A cap h1 h2
  simp (maxSteps:=10^6) only[undef,push_cast,↓reduceIte,reduceCtorEq,Nat.reduceEqDiff,Nat.reduceLT,Nat.reduceAdd]
  (repeat (refine And.intro (by first|omega|decide) ?_))
  refine⟨({r with inn:=⟨A,cap,Ak r.inn.l [id]⟩},[⟨.slice A (Ak r.inn.l [id]).length cap,(Ak r.inn.l [id]).length,(Ak r.inn.l [id]).map (Value.int .i64)⟩]),⟨rfl,?_⟩,A6 [0,1] ?_⟩
  ·have h3:=Adb r.inn.l [id]
   exact⟨ok.who.left,SlF.new rfl (by simp [Da]),ok.gone.left,ok.few1,by show (Ak _ _).length≤1000;omega,ok.few3,ok.need,ok.went⟩
  ·simp (maxSteps:=10^6) only[SlV.val,push_cast,↓reduceIte,reduceCtorEq,Nat.reduceAdd]
 ·rw[En g1]
  simp (maxSteps:=10^6) only[push_cast,↓reduceIte,Nat.reduceEqDiff,Nat.reduceLT,Nat.reduceAdd]
  refine⟨(r,[]),⟨by rw[if_neg g1],by rw[List.append_nil];exact ok⟩,A6 [0,1] ?_⟩
  simp (maxSteps:=10^6) only[tlA,push_cast,↓reduceIte,reduceCtorEq,Nat.reduceAdd]
theorem Atw {t:Tal} (h:t.st=0):t.went < t.term:=by
 unfold Tal.st at h
 by_cases h1:t.inn.length=t.who.length
 ·rw[if_pos h1] at h;cases h
 rw[if_neg h1] at h
 by_cases h2:t.need≤(t.inn.length:Int)∧(t.term≤t.went∨(t.who.length:Int) - t.inn.length - t.gone.length=0)
 ·rw[if_pos h2] at h;cases h
 rw[if_neg h2] at h
 by_cases h3:(t.inn.length:Int) < t.need∧(t.term≤t.went∨(t.inn.length:Int)+((t.who.length:Int) - t.inn.length - t.gone.length) < t.need)
 ·rw[if_pos h3] at h;cases h
 ·apply Int.not_le.1
  intro hc
  rcases Int.lt_or_le (t.inn.length:Int) t.need with h4|h4
  ·exact h3 ⟨h4,.inl hc⟩
  ·exact h2 ⟨h4,.inl hc⟩
set_option maxRecDepth 100000 in
theorem Atx (r:TalR) {Fs:List Fct} {g:Nat} {w:World} {B:Nat→Prop} {γ:List Nm} (hS:Sat w B γ [.pin g 170 (.c (tlA r))] w) (ok:TalOk Fs r):
  Calls prog 64 (List.map (Sv.val (γ++[.m (.bool true) (fun _=>False)])) [.x (.a (.p 0 0))]).toArray w fun e w'=>∃(x:TalR×List Fct) (γ1:List Nm),(x.1.t=r.t.tick∧TalOk (Fs++x.2) x.1)∧e=.returned ((Sv.t []).val γ1)∧Sat w B γ1 [.pin g 170 (.c (tlA x.1)),.abs (fctRep x.2)] w':=by
 have e:r.t.tick=if r.t.st=0 then {r.t with went:=r.t.went+1} else r.t:=rfl
 refine Cy (n:=16) (ι:=TalR×List Fct) (fun x=>x.1.t=r.t.tick∧TalOk (Fs++x.2) x.1) (fun _=>.t []) (fun x=>[.pin g 170 (.c (tlA x.1)),.abs (fctRep x.2)]) func64 rfl ntmps64 _ (hS.fct0 (by unfold tlA;simp only[push_cast])) (by simp) ?_
 simp (maxSteps:=10^6) only[push_cast,↓reduceIte,reduceCtorEq,Nat.reduceEqDiff,Nat.reduceLT,Nat.reduceAdd]
 (repeat (refine And.intro (by first|omega|decide) ?_))
 refine Am rfl Md rfl (Ox (r:=r) (Fs:=Fs) (k:=0) rfl ok) (Aa rfl) ?_
 by_cases g1:r.t.st=0
 ·have h1:=Atw g1
  have h1:r.went < r.term:=h1
  have h2:=ok.went
  rw[if_pos g1] at e
  have n1:r.went+1≤9223372036854775807:=by omega
  have n2:(-9223372036854775808:Int)≤r.went+1:=by omega
  simp (maxSteps:=10^6) only[g1,n1,n2,tlA,undef,push_cast,↓reduceIte,reduceCtorEq,Nat.reduceEqDiff,Nat.reduceLT,Nat.reduceAdd,Int.reduceNeg]
  (repeat (refine And.intro (by first|omega|decide) ?_))
  refine⟨({r with went:=r.went+1},[]),⟨by rw[e];rfl,?_⟩,A6 [0,1] ?_⟩
  ·rw[List.append_nil]
   exact⟨ok.who,ok.inn,ok.gone,ok.few1,ok.few2,ok.few3,ok.need,by show 0≤r.went+1∧r.went+1≤1000∧0≤r.term∧r.term≤1000;omega⟩
  ·simp (maxSteps:=10^6) only[push_cast,↓reduceIte,reduceCtorEq,Nat.reduceAdd]
 ·rw[if_neg g1] at e
  simp (maxSteps:=10^6) only[g1,push_cast,↓reduceIte,Nat.reduceEqDiff,Nat.reduceLT,Nat.reduceAdd]
  refine⟨(r,[]),⟨by rw[e],by rw[List.append_nil];exact ok⟩,A6 [0,1] ?_⟩
  simp (maxSteps:=10^6) only[tlA,push_cast,↓reduceIte,reduceCtorEq,Nat.reduceAdd]
theorem Aty:ZOk prog 170 (.c [.v (.slice none 0 0),.v (.slice none 0 0),.v (.slice none 0 0),.v (.int .i64 0),.v (.int .i64 0),.v (.int .i64 0)])=True:=eq_true ⟨.agg #[.slice none 0 0,.slice none 0 0,.slice none 0 0,.int .i64 0,.int .i64 0,.int .i64 0],by kernel_rfl,fun _=>rfl⟩
set_option maxRecDepth 100000 in
theorem Atz (l:List Int) (A:Option Addr) (c:Nat) (need term:Int) (w:World) (hl:l.length≤1000) (hc:l.length≤c) (hR:RdV w w.heap.size A (l.map (Value.int .i64))) (h1:Bn (-1) l=true) (h2:1≤need∧need≤l.length) (h3:1≤term∧term≤1000):
  Calls prog 95 #[.slice A l.length c,.int .i64 need,.int .i64 term] w fun e w'=>∃γ1,e=.returned ((Sv.t [.a (.p 0 0),.a (.v .nilIface)]).val γ1)∧Sat w No γ1 [.blk 170 (.c [.o 1,.v (.slice none 0 0),.v (.slice none 0 0),.v (.int .i64 need),.v (.int .i64 term),.v (.int .i64 0)]),.own 3 (.i64 l)] w':=by
 have ok1:=Gt 1
 have b1:¬need < 1:=by omega
 have b2:¬(l.length:Int) < need:=by omega
 have b3:¬term < 1:=by omega
 have b4:¬(1000:Int) < term:=by omega
 refine Rm (n:=36) func95 rfl ntmps95 [.x (.a (.v (.slice A l.length c))),.x (.a (.v (.int .i64 need))),.x (.a (.v (.int .i64 term)))] (Sat.init w No) (by simp) _ _ ?_
 simp (maxSteps:=10^6) only[push_cast,↓reduceIte,reduceCtorEq,Nat.reduceLT,Nat.reduceAdd]
 (repeat (refine And.intro (by first|omega|decide) ?_))
 refine Am rfl Vm rfl (V8 (l:=l) (by omega) (B4 hR _ _ (by simp) hc)) (Aa rfl) ?_
 rw[h1,ok1]
 simp (maxSteps:=10^6) only[b1,b2,b3,b4,push_cast,↓reduceIte,reduceCtorEq,Nat.reduceEqDiff,Nat.reduceLT]
 (repeat (refine And.intro (by first|omega|decide) ?_))
 refine Gl rfl Ve rfl (Ato (l:=l) hl (B4 hR _ _ (by simp) hc) (by simp only[push_cast])) (Aa rfl) (by simp (maxSteps:=10^6) only[push_cast]) ?_
 simp (maxSteps:=10^6) only[Aty,push_cast,↓reduceIte,reduceCtorEq,Nat.reduceEqDiff,Nat.reduceLT,Nat.reduceAdd]
 (repeat (refine And.intro (by first|omega|decide) ?_))
 refine A6 [1,0] ?_
 simp (maxSteps:=10^6) only[push_cast,↓reduceIte,reduceCtorEq,Nat.reduceLT,Nat.reduceAdd]
end
section
structure RawV (w:World) (x:Value) (f:Int→Option Value):Prop where
 raw:Yg w No .i64 x
 look:∀i,L3 w x i=f i
theorem RawV.later {w0 w:World} {x:Value} {f:Int→Option Value} (h:RawV w0 x f) (hk:Keeps No w0 w):RawV w x f:=by
 obtain⟨h1,h2⟩:=h
 rcases h1 with rfl|⟨g,es,c,rfl,h3,h4,h5⟩
 ·exact⟨.inl rfl,h2⟩
 ·have hlt:g < w0.heap.size:=(Array.getElem?_eq_some_iff.1 h3).1
  have h6:w.heap[g]?=some (.map es c):=(hk.block g hlt h4).trans h3
  refine⟨.inr ⟨g,es,c,rfl,h6,h4,h5⟩,fun i=>?_⟩
  rw[←h2 i]
  simp only[L3,Ud,h6,h3]
theorem At0 {α:Type} (l:List (Int×SlV α)) (i:Int):Co (slE l) i=(Az l i).map fun x=>.a (.v x.val):=by
 induction l with
 |nil=>rfl
 |cons p l ih=>
  show Co ((p.1,_)::slE l) i=_
  unfold Co Az
  by_cases h:p.1=i
  ·rw[if_pos h,if_pos h];rfl
  ·rw[if_neg h,if_neg h];exact ih
theorem At1 {α:Type} (l:List (Int×SlV α)) (i:Int) (x:SlV α):C3 (slE l) i (.a (.v x.val))=slE (Bv l i x):=by
 induction l with
 |nil=>rfl
 |cons p l ih=>
  show C3 ((p.1,_)::slE l) i _=_
  unfold C3 Bv
  by_cases h:p.1=i
  ·rw[if_pos h,if_pos h,←h];rfl
  ·rw[if_neg h,if_neg h,ih];rfl
theorem Oy {α β:Type} (f:α→β) (l:List (Int×α)) (i:Int):Az (Bw f l) i=(Az l i).map f:=by
 induction l with
 |nil=>rfl
 |cons p l ih=>
  show Az ((p.1,f p.2)::Bw f l) i=_
  unfold Az
  by_cases h:p.1=i
  ·rw[if_pos h,if_pos h];rfl
  ·rw[if_neg h,if_neg h];exact ih
theorem Adc {α β:Type} (f:α→β) (l:List (Int×α)) (i:Int) (x:α):Bw f (Bv l i x)=Bv (Bw f l) i (f x):=by
 induction l with
 |nil=>rfl
 |cons p l ih=>
  show Bw f (Bv (p::l) i x)=Bv ((p.1,f p.2)::Bw f l) i (f x)
  unfold Bv
  by_cases h:p.1=i
  ·rw[if_pos h,if_pos h];rfl
  ·rw[if_neg h,if_neg h,←ih];rfl
theorem Sp {α:Type} {l:List (Int×α)} {i:Int} {x:α} (h:Az l i=some x):(i,x)∈l:=by
 induction l with
 |nil=>cases h
 |cons p l ih=>
  unfold Az at h
  by_cases hp:p.1=i
  ·rw[if_pos hp] at h
   cases h
   subst hp
   exact List.mem_cons_self ..
  ·rw[if_neg hp] at h
   exact List.mem_cons_of_mem _ (ih h)
theorem Add {α:Type} {l:List (Int×α)} {i:Int} {x:α} {p:Int×α} (h:p∈Bv l i x):p.2=x∨p∈l:=by
 induction l with
 |nil=>rw[List.mem_singleton.1 h];exact .inl rfl
 |cons q l ih=>
  unfold Bv at h
  by_cases hp:q.1=i
  ·rw[if_pos hp] at h
   rcases List.mem_cons.1 h with rfl|h
   ·exact .inl rfl
   ·exact .inr (List.mem_cons_of_mem _ h)
  ·rw[if_neg hp] at h
   rcases List.mem_cons.1 h with rfl|h
   ·exact .inr (List.mem_cons_self ..)
   ·exact (ih h).imp id (List.mem_cons_of_mem _)
def lfV (r:LfR) (t xp xb xr:Value):List Value:=[.int .i64 r.place,.int .i64 r.gen,.int .i64 r.dim,.int .i64 r.term,.int .i64 r.need,.int .i64 r.parent,r.above.val,r.group.val,.int .i64 r.phase,r.waits.val,t,r.joined.val,xp,xb,xr]++mgV r.sum
structure LfAt (r:LfR) (w:World) (a:Addr) (t xp xb xr:Value):Prop where
 vr:Vr w (some a) (lfV r t xp xb xr)
 pub:RawV w xp fun i=>(Az r.pub i).map vU64
 box:r.live=true→RawV w xb fun i=>(Az r.boxes i).map SlV.val
theorem LfAt.later {r:LfR} {w0 w:World} {a:Addr} {t xp xb xr:Value} (h:LfAt r w0 a t xp xb xr) (hk:Keeps No w0 w):LfAt r w a t xp xb xr:=⟨h.vr.later hk,h.pub.later hk,fun hp=>(h.box hp).later hk⟩
structure LfC (r:LfR) (w:World) (a:Addr) (t xp xb xr:Value):Prop where
 c0:A7 w (Af (some a) 0)=.int .i64 r.place
 c1:A7 w (Af (some a) 1)=.int .i64 r.gen
 c2:A7 w (Af (some a) 2)=.int .i64 r.dim
 c5:A7 w (Af (some a) 5)=.int .i64 r.parent
 c8:A7 w (Af (some a) 8)=.int .i64 r.phase
 c11:A7 w (Af (some a) 11)=r.joined.val
 c12:A7 w (Af (some a) 12)=xp
 c13:A7 w (Af (some a) 13)=xb
 c7:A7 w (Af (some a) 7)=r.group.val
 c9:A7 w (Af (some a) 9)=r.waits.val
 ok:∀k,k < 15→Cu w No (Af (some a) k)
 sum:Cl w (Af (some a) 15) 43 0=mgA r.sum∧F4 w No (Af (some a) 15) 43 0
theorem Oz (m:MgR):(mgV m).map At.v=mgA m:=by
 unfold mgV mgA mgL
 rw[List.map_append,List.map_append,List.map_map]
 rfl
theorem LfAt.cells {r:LfR} {w:World} {a:Addr} {t xp xb xr:Value} (h:LfAt r w a t xp xb xr) (hs:r.sum.sm.length=32):LfC r w a t xp xb xr:=by
 have hl:(lfV r t xp xb xr).length=58:=by
  unfold lfV mgV
  simp [hs]
 have hsum:∀k v,(mgV r.sum)[k]?=some v→A7 w (Af (some a) (15+k))=v∧Cu w No (Af (some a) (15+k)):=fun k v hk=>h.vr.cell (15+k) v (by
  unfold lfV
  rw[List.getElem?_append_right (by simp)]
  simpa using hk)
 have hml:(mgV r.sum).length=43:=by unfold mgV;simp [hs]
 refine⟨(h.vr.cell 0 _ rfl).1,(h.vr.cell 1 _ rfl).1,(h.vr.cell 2 _ rfl).1,(h.vr.cell 5 _ rfl).1,(h.vr.cell 8 _ rfl).1,(h.vr.cell 11 _ rfl).1,(h.vr.cell 12 _ rfl).1,(h.vr.cell 13 _ rfl).1,(h.vr.cell 7 _ rfl).1,(h.vr.cell 9 _ rfl).1,fun k hk=>(h.vr.cell k _ (List.getElem?_eq_getElem (by omega))).2,?_,?_⟩
 ·rw[←Oz]
  refine Ol 43 0 _ hml fun k v hv=>?_
  rw[Ce,Nat.zero_add]
  exact (hsum k v hv).1
 ·refine R6 43 0 fun k hk=>?_
  rw[Ce,Nat.zero_add]
  exact (hsum k _ (List.getElem?_eq_getElem (by omega))).2
end
section
attribute [local irreducible] Ac Ad Ah Au Ao Aj Ai Al
end
section
attribute [local irreducible] Ac Ad Ah Au Ao Aj Ai Al
structure SnR where
 c:Bool
 to:Int
 m:MgR
def SnR.s (x:SnR):SnS:=⟨x.c,x.to,x.m.mg⟩
def snV (x:SnR):List Value:=[.bool x.c,.int .i64 x.to]++mgV x.m
def snA (x:SnR):List At:=[.v (.bool x.c),.v (.int .i64 x.to)]++mgA x.m
def snL (l:List SnR):List At:=l.flatMap snA
theorem At2 (γ:List Nm) (x:SnR):(snA x).map (At.val γ)=snV x:=by
 unfold snA snV
 rw[List.map_append,V9]
 rfl
theorem I6 (γ:List Nm) (l:List SnR):(snL l).map (At.val γ)=l.flatMap snV:=by
 unfold snL
 rw[List.map_flatMap]
 exact congrArg (fun f=>l.flatMap f) (funext fun x=>At2 γ x)
theorem At3 {x:SnR} (h:x.m.sm.length=32):(snA x).length=45:=by
 unfold snA
 rw[List.length_append,Bd h]
 rfl
theorem Mt {l:List SnR} (h:∀x∈l,x.m.sm.length=32):(snL l).length=l.length*45:=by
 unfold snL
 induction l with
 |nil=>rfl
 |cons x l ih=>
  rw[List.flatMap_cons,List.length_append,At3 (h x (List.mem_cons_self ..)),ih fun y hy=>h y (List.mem_cons_of_mem _ hy),List.length_cons]
  omega
theorem At4 {q:At→Prop} (h:∀v:Value,v.oneCell'=true→scalar v→q (.v v)) (x:SnR):∀y∈snA x,q y:=fun y hy=>by
 unfold snA at hy
 rcases List.mem_append.1 hy with hy|hy
 ·simp only[List.mem_cons,List.not_mem_nil,or_false] at hy
  rcases hy with rfl|rfl
  ·exact h _ rfl trivial
  ·exact h _ rfl trivial
 ·exact (Mm x.m h).mpr trivial y hy
theorem Wo {q:At→Prop} (h:∀v:Value,v.oneCell'=true→scalar v→q (.v v)) (l:List SnR):(∀y∈snL l,q y)=True:=eq_true fun y hy=>by
 unfold snL at hy
 obtain⟨x,_,hx⟩:=List.mem_flatMap.1 hy
 exact At4 h x y hx
theorem Sq (l:List SnR) (n:Nat):(∀x∈snL l,x.bnd n)=True:=Wo (fun _ _ _=>trivial) l
theorem At5 (l:List SnR) (a:Nat):(∀x∈snL l,x.av a)=True:=Wo (fun _ _ _=>trivial) l
theorem Db (l:List SnR) (n:Nat):Cont.bnd n (.c (snL l))=True:=Sq l n
theorem At6 (ρ:List Nat) (x:SnR):(snA x).map (At.ren ρ)=snA x:=by
 unfold snA
 rw[List.map_append,R8]
 rfl
theorem At7 (ρ:List Nat) (l:List SnR):(snL l).map (At.ren ρ)=snL l:=by
 unfold snL
 rw[List.map_flatMap]
 exact congrArg (fun f=>l.flatMap f) (funext fun x=>At6 ρ x)
theorem Gv (ρ:List Nat) (l:List SnR):Cont.ren ρ (.c (snL l))=.c (snL l):=by
 show Cont.c _=_
 rw[At7]
theorem Wp (l:List SnR) (x:SnR):snL (l++[x])=snL l++(.v (.bool x.c):: .v (.int .i64 x.to)::mgA x.m):=by
 unfold snL
 rw[List.flatMap_append,List.flatMap_cons,List.flatMap_nil,List.append_nil]
 rfl
def OutOk (Fs:List Fct) (s:SlV SnR):Prop:=SlF Fs s (s.l.flatMap snV)∧(∀x∈s.l,MOk Fs x.m)∧s.l.length≤1000
theorem OutOk.more {Fs Gs:List Fct} {s:SlV SnR} (h:OutOk Fs s) (hg:∀f∈Fs,f∈Gs):OutOk Gs s:=⟨h.1.more hg,fun x hx=>(h.2.1 x hx).more hg,h.2.2⟩
theorem D4 (Fs:List Fct):OutOk Fs ⟨none,0,[]⟩:=⟨.inl rfl,(fun x hx=>by cases hx),Nat.zero_le _⟩
def A2n (w0:World) (fv:Value) (l:List Int) (F:Int→MgS):Prop:=∀id∈l,Atf (ι:=MgR×List Fct) prog w0 fv (.int .i64 id) (fun x=>x.1.mg=F id∧MOk x.2 x.1) (fun x=>.agg (mgV x.1).toArray) (fun x=>x.2)
theorem I7:ZOk prog 60 (.c (.v (.bool false):: .v (.int .i64 0)::mgA zeroR))=True:=
 eq_true ⟨.agg ([Value.bool false,.int .i64 0]++mgV zeroR).toArray,by kernel_rfl,fun γ=>by
  show _=(_::_::(mgA zeroR).map (At.val γ))
  rw[V9]
  rfl⟩
theorem OutOk.of {Fs:List Fct} {A:Option Addr} {cap:Nat} {L:List SnR} (h:∀y∈L,MOk Fs y.m) (hl:L.length≤1000):OutOk (Fs++[⟨.slice A L.length cap,L.length,L.flatMap snV⟩]) ⟨A,cap,L⟩:=
 ⟨.inr (List.mem_append_right _ (List.mem_singleton.2 rfl)),fun y hy=>(h y hy).more fun f hf=>List.mem_append_left _ hf,hl⟩
theorem Id {L:List SnR} (h:∀y∈L,y.m.sm.length=32):(L.flatMap snV).length=L.length*45:=by
 rw[←I6 [],List.length_map,Mt h]
end
section
def mgO (m:MgS) (a b c d:Nat):List At:=mgL (.v (vU8 m.k)) (.v (.int .i64 m.pl)) (.v (.int .i64 m.ot)) (.v (.int .i64 m.cl)) (.v (.int .i64 m.ge)) (.v (vU64 m.nu)) m.sm (.o a) (.o b) (.o c) (.o d) (.v (.int .i64 m.re))
section
variable {m:MgS} {a b c d:Nat}
theorem At8 (h:m.sm.length=32):(mgO m a b c d).length=43:=K9 h
theorem Sr {k pl ot cl ge nu:At} {sm:List UInt8} {i n p x r:At}:i∈mgL k pl ot cl ge nu sm i n p x r∧n∈mgL k pl ot cl ge nu sm i n p x r∧p∈mgL k pl ot cl ge nu sm i n p x r∧x∈mgL k pl ot cl ge nu sm i n p x r:=by
 unfold mgL
 simp
theorem Ade {q:At→Prop} (h:∀v:Value,v.oneCell'=true→scalar v→q (.v v)) (m:MgS) (a b c d:Nat):(∀x∈mgO m a b c d,q x)=(q (.o a)∧q (.o b)∧q (.o c)∧q (.o d)):=propext ⟨fun e=>⟨e _ Sr.1,e _ Sr.2.1,e _ Sr.2.2.1,e _ Sr.2.2.2⟩,fun⟨e1,e2,e3,e4⟩=>On (fun _=>h _ rfl trivial) (h _ rfl trivial) (h _ rfl trivial) (h _ rfl trivial) (h _ rfl trivial) (h _ rfl trivial) (h _ rfl trivial) e1 e2 e3 e4 (h _ rfl trivial)⟩
theorem At9 (m:MgS) (a b c d:Nat) (hp:List Res):(∀x∈mgO m a b c d,x.one hp)=((At.o a).one hp∧(At.o b).one hp∧(At.o c).one hp∧(At.o d).one hp):=Ade (fun v h _=>h) m a b c d
theorem Aua (m:MgS) (a b c d n:Nat):(∀x∈mgO m a b c d,x.bnd n)=(a < n∧b < n∧c < n∧d < n):=Ade (fun v _ _=>trivial) m a b c d
theorem Aub (m:MgS) (a b c d:Nat) (ρ:List Nat):(mgO m a b c d).map (At.ren ρ)=mgO m (rn ρ a) (rn ρ b) (rn ρ c) (rn ρ d):=Oo ..
theorem Adf (m:MgS) (a b c d:Nat) (ρ:List Nat):Sv.ren ρ (.x (.g (mgO m a b c d)))=.x (.g (mgO m (rn ρ a) (rn ρ b) (rn ρ c) (rn ρ d))):=by
 show Sv.x (Sc.g _)=_
 rw[Aub]
theorem Lc (k pl ot cl ge nu:At) (sm:List UInt8) (i n p x r y:At) (h:sm.length=32):
  (mgL k pl ot cl ge nu sm i n p x r).set 0 y=mgL y pl ot cl ge nu sm i n p x r∧(mgL k pl ot cl ge nu sm i n p x r).set 1 y=mgL k y ot cl ge nu sm i n p x r∧(mgL k pl ot cl ge nu sm i n p x r).set 2 y=mgL k pl y cl ge nu sm i n p x r∧(mgL k pl ot cl ge nu sm i n p x r).set 3 y=mgL k pl ot y ge nu sm i n p x r∧(mgL k pl ot cl ge nu sm i n p x r).set 4 y=mgL k pl ot cl y nu sm i n p x r∧(mgL k pl ot cl ge nu sm i n p x r).set 5 y=mgL k pl ot cl ge y sm i n p x r∧
  (mgL k pl ot cl ge nu sm i n p x r).set 38 y=mgL k pl ot cl ge nu sm y n p x r∧(mgL k pl ot cl ge nu sm i n p x r).set 39 y=mgL k pl ot cl ge nu sm i y p x r∧(mgL k pl ot cl ge nu sm i n p x r).set 40 y=mgL k pl ot cl ge nu sm i n y x r∧(mgL k pl ot cl ge nu sm i n p x r).set 41 y=mgL k pl ot cl ge nu sm i n p y r∧(mgL k pl ot cl ge nu sm i n p x r).set 42 y=mgL k pl ot cl ge nu sm i n p x y:=by
 have e:(sm.map f8).length=32:=by rw[List.length_map,h]
 have g:∀j z,j < 5→(mgL k pl ot cl ge nu sm i n p x r).set (38+j) z=[k,pl,ot,cl,ge,nu]++(sm.map f8++[i,n,p,x,r].set j z):=fun j z hj=>by
  unfold mgL
  rw[List.set_append_right _ _ (by show 6≤38+j;omega),List.set_append_right _ _ (by rw[e];show 32≤38+j - 6;omega),e,show 38+j - [k,pl,ot,cl,ge,nu].length - 32=j from by show 38+j - 6 - 32=j;omega]
 exact⟨rfl,rfl,rfl,rfl,rfl,rfl,g 0 y (by omega),g 1 y (by omega),g 2 y (by omega),g 3 y (by omega),g 4 y (by omega)⟩
end
section
variable {w0:World} {hp:List Res}
end
end
section
theorem Sat.facts1 {w0 w:World} {ow:Nat→Prop} {γ:List Nm} {r:Res} {fs:List Fct} (hS:Sat w0 ow γ [r] w) {X:Nat→Prop} (hX:∀b,X b→r.has γ 0 b) (hf:∀f∈fs,f.ok X w):Sat w0 ow [.m (.bool true) X] [.abs (fctRep fs)] w:=by
 refine⟨hS.keeps,rfl,fun k q hq=>?_,fun k q b hq hb=>?_,fun j k q q' b hq hq' hne=>?_⟩
 ·cases k with
  |zero=>
   cases hq
   exact⟨rfl,fun b hb=>(hS.mine 0 r b rfl (hX b hb)).2,rfl,hf⟩
  |succ k=>cases hq
 ·cases k with
  |zero=>
   cases hq
   exact hS.mine 0 r b rfl (hX b hb)
  |succ k=>cases hq
 ·cases j with
  |zero=>cases k with
   |zero=>exact absurd rfl hne
   |succ k=>cases hq'
  |succ j=>cases hq
section
variable {P:Program} {w0:World} {ow:Nat→Prop} {n:Nat}
theorem Auc {e:TypeId} {m n':Nat} {c:Cont} {vs:List Value} (k:Nat) {l:List Fct} {ops:List Oper} {o:Oper} {rest:List Oper} {f:FuncId} {xs:List Operand} {tys:Array TypeId} {s:S} {svs:List Sv} {K:S→Prop} (hk:s.hp[k]?=some (.abs (fctRep l)))
  (ho:o.op=.call {callee:=.value (.func f),args:=xs.toArray,argTypes:=tys}) (hcb:Ac P f) (hev:evs s.fr xs=some svs)
  (hc:∀γ w,Sat w0 ow γ s.hp w→Calls P f (svs.map (Sv.val γ)).toArray w fun en w'=>∃γ1,en=.returned ((Sv.x (.a (.o 0))).val γ1)∧Sat w No γ1 [.onn e m c] w') (hv:∀γ,c.vals γ=vs) (hn:vs.length=n'*m) (hd:dOk n o.dst) (hb:s.bnd)
  (h:∀A cap,n'≤cap→Ai P w0 ow n ops rest (S.put ⟨s.fr,s.hp.set k (.abs (fctRep (l++[⟨.slice A n' cap,n',vs⟩])))⟩ o.dst (.x (.a (.v (.slice A n' cap))))) K):Ah P w0 ow n ops o rest s K:=by
 refine Jz (ι:=Option Addr×Nat) (fun x=>n'≤x.2) (fun x=>.x (.a (.v (.slice x.1 n' x.2)))) (fun x=>[⟨.slice x.1 n' x.2,n',vs⟩]) k hk ho hcb hev (fun γ w hS=>(hc γ w hS).mono ?_) (fun _ _=>rfl) hd hb (fun x hx=>h x.1 x.2 hx)
 rintro en w' ⟨γ1,rfl,hS1⟩
 obtain⟨A,cap,h1,h2,h3⟩:=Mr hS1 (j:=0) rfl (hv γ1) hn
 have h5:=Sat.facts1 (fs:=[⟨.slice A n' cap,n',vs⟩]) hS1 (X:=fun b=>(nmS γ1 0).ownBlock=some b) (fun b hb=>hb) fun f hf=>by rw[List.mem_singleton.1 hf];exact h3
 exact⟨(A,cap),_,h2,by show Ending.returned (nmS γ1 0)=_;rw[h1];rfl,h5⟩
end
section
variable {w0:World} {ow:Nat→Prop} {hp:List Res} {sv:Sv}
theorem Adg {l:List Int} (hl:l.length≤1000) (h:Bg w0 ow hp sv (l.map (Value.int .i64))):∀γ w,Sat w0 ow γ hp w→Calls prog 52 ([sv].map (Sv.val γ)).toArray w fun en w'=>∃v',en=.returned v'∧Own w' w.heap.size 3 v' (l.map (Value.int .i64))∧Below w.heap.size w w':=fun γ w hS=>by
 obtain⟨A,c,e1,b1,r1⟩:=h γ w hS
 rw[List.length_map] at e1
 show Calls _ _ #[sv.val γ] w _
 rw[e1]
 exact Ac7 l A c w hl r1
theorem Aud {l:List UInt64} (hl:l.length≤1000) (h:Bg w0 ow hp sv (l.map vU64)):∀γ w,Sat w0 ow γ hp w→Calls prog 59 ([sv].map (Sv.val γ)).toArray w fun en w'=>∃v',en=.returned v'∧Own w' w.heap.size 41 v' (l.map vU64)∧Below w.heap.size w w':=fun γ w hS=>by
 obtain⟨A,c,e1,b1,r1⟩:=h γ w hS
 rw[List.length_map] at e1
 show Calls _ _ #[sv.val γ] w _
 rw[e1]
 exact Atn l A c w hl r1
theorem Aue {l:List UInt32} (hl:l.length≤1000) (h:Bg w0 ow hp sv (l.map Ap)):∀γ w,Sat w0 ow γ hp w→Calls prog 74 ([sv].map (Sv.val γ)).toArray w fun en w'=>∃v',en=.returned v'∧Own w' w.heap.size 111 v' (l.map Ap)∧Below w.heap.size w w':=fun γ w hS=>by
 obtain⟨A,c,e1,b1,r1⟩:=h γ w hS
 rw[List.length_map] at e1
 show Calls _ _ #[sv.val γ] w _
 rw[e1]
 exact Atm l A c w hl r1
theorem Auf {l:List Pr} (hl:l.length≤1000) (h:Hx w0 ow hp sv l.length (pvs l)):∀γ w,Sat w0 ow γ hp w→Calls prog 73 ([sv].map (Sv.val γ)).toArray w fun en w'=>∃γ1,en=.returned ((Sv.x (.a (.o 0))).val γ1)∧Sat w No γ1 [.onn 115 2 (.c (pcs l))] w':=fun γ w hS=>by
 obtain⟨A,c,e1,b1,r1⟩:=h γ w hS
 have:=Atr (w0:=w) (ow:=No) (hp:=[]) (sv:=.x (.a (.v (.slice A l.length c)))) hl (fun γ' w' hS'=>⟨A,c,rfl,b1,C5 r1 hS'⟩) (fun r hr=>by cases hr)
 unfold Ad at this
 have:=this [] w (Sat.init w No)
 show Calls _ _ #[sv.val γ] w _
 rw[e1]
 refine this.mono fun e w' ⟨δ,he,h⟩=>⟨δ,he,h⟩
end
theorem Ss {m:MgR} (h:m.sm.length=32):(∀y:SlV Int,(mgA m).set 38 (.v y.val)=mgA {m with ids:=y})∧(∀y:SlV UInt64,(mgA m).set 39 (.v y.val)=mgA {m with ns:=y})∧(∀y:SlV Pr,(mgA m).set 40 (.v y.val)=mgA {m with ps:=y})∧(∀y:SlV UInt32,(mgA m).set 41 (.v y.val)=mgA {m with xs:=y}):=by
 have:=fun y=>Lc (.v (vU8 m.k)) (.v (.int .i64 m.pl)) (.v (.int .i64 m.ot)) (.v (.int .i64 m.cl)) (.v (.int .i64 m.ge)) (.v (vU64 m.nu)) m.sm (.v m.ids.val) (.v m.ns.val) (.v m.ps.val) (.v m.xs.val) (.v (.int .i64 m.re)) y h
 exact⟨fun y=>(this _).2.2.2.2.2.2.1,fun y=>(this _).2.2.2.2.2.2.2.1,fun y=>(this _).2.2.2.2.2.2.2.2.1,fun y=>(this _).2.2.2.2.2.2.2.2.2.1⟩
attribute [local irreducible] Ac Ad Ah Au Ao Aj Ai Al
end
end Go.Proofs.YtedaafmfjhjfmaaGreatDoor
