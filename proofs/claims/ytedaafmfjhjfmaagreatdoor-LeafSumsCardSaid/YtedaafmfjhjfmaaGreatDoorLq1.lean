import Derived.Test.YtedaafmfjhjfmaaGreatDoorPc
import Derived.Test.YtedaafmfjhjfmaaGreatDoorGn
import Derived.Test.YtedaafmfjhjfmaaGreatDoorLr0
import Derived.Test.YtedaafmfjhjfmaaGreatDoorPreA
/- slices.Clone of numbers and of peers. -/
namespace Go.Proofs
open Go.RowKit
set_option linter.unusedSimpArgs false
set_option maxRecDepth 100000 in
theorem Tryz.infoPe:∃i0,Tryz.prog.info? 115=some i0∧i0.zero=some (.agg #[.int .i64 0,.int .u64 0])∧i0.size=2∧i0.bytes=16:=⟨_,rfl,rfl,rfl,rfl⟩
set_option maxRecDepth 100000 in
set_option maxHeartbeats 1000000 in
theorem Tryz.clonePe_at (ad:Addr) (n c:Nat) (news:List Value) (w:World) (hl:news.length=n*2) (hn:n≤1000) (hc:∀j u,news[j]?=some u→w.cell? (ad.add j)=some u) (h1:∀u∈news,u.oneCell'=true):
  Calls Tryz.prog 73 #[.slice (some ad) n c] w fun e w'=>∃v',e=.returned v'∧w'.ownsRow w.heap.size 115 2 v' n news∧Below w.heap.size w w':=by
 obtain⟨i0,hi,hz0,hz1,hz2⟩:=Tryz.infoPe
 have t22:Tryz.prog.underlying 45=some (.slice 115):=Tryz.underlying45
 have q22:∀(w:World) (a:Option Addr) (n c n' c':Nat),(binOp .eql 45 (.slice a n c) (.slice none n' c')).run Tryz.prog w=.ok (.bool a.isNone) w:=fun w a n c n' c'=>Lib.run_eql_slice_nil w _ _ a n c n' c' t22
 have u22:∀w,Sem.run Tryz.prog (underlying 45) w=.ok (TypeDesc.slice 115) w:=run_underlying t22
 have z23:∀w,(Go.sizeOf 115).run Tryz.prog w=.ok 2 w:=Tryz.sizeOf115
 have A:Aside (∀j u,news[j]?=some u→w.cell? (ad.add j)=some u):=hc
 clear hc
 go_enter Tryz.func73,Tryz.ntmps73
 go_wp2_with (at_builtin;refine wpList_append_own _ rfl _ _ 45 rfl w.heap.size 115 i0 _ 2 16 t22 hi hz0 hz1 hz2 rfl (by decide) _ _ _ rfl (World.ownsRow_made w #[] 0 (Nat.le_refl _) (Nat.zero_le _) (by simp)) ad n c news rfl ?qc1 ?qc2 ?qc3 ?qc4 ?qc5 ?qc6 ?_)
 case qc1=>exact hl
 case qc2=>
  intro j u hj
  exact Lib.cell?_alloc_some _ (A.out j u hj)
 case qc3=>exact h1
 case qc4=>rw[Nat.zero_add];unfold maxLen;omega
 case qc5=>rw[Nat.zero_add];omega
 case qc6=>simp
 intro v' w1 hown hgrow hnil
 go_wp2
 go_ret
 refine⟨v',rfl,by simpa using hown,?_⟩
 exact ((Below.refl _ w).alloc (Nat.le_refl _) _).grown hgrow (by simp) (by intro k hk;simp [Value.ownBlock] at hk;omega)
end Go.Proofs
namespace Go.Proofs.YtedaafmfjhjfmaaGreatDoor
open Go.RowKit
set_option linter.unusedSimpArgs false
set_option linter.unusedVariables false
attribute [local irreducible] Ah Ai Am Bc A7 Ay Ap A6
set_option maxRecDepth 100000 in
theorem Abq (l:List Int) (A:Option Addr) (c:Nat) (w:World) (hl:l.length≤1000) (hR:RdV w w.heap.size A (l.map (Value.int .i64))):Calls Tryz.prog 52 #[.slice A l.length c] w fun e w'=>∃v,e=.returned v∧Own w' w.heap.size 3 v (l.map (Value.int .i64))∧Below w.heap.size w w':=by
 obtain⟨e1,k1⟩:=Ur (FV.no hR)
 have h0:=fun h=>Jb (P:=Tryz.prog) (w:=w) (n:=8) Tryz.func52 rfl Tryz.ntmps52 [.x (.a (.v (.slice A l.length c)))] (by simp) 3 (.i64 l) (vs:=l.map (Value.int .i64)) (fun _=>rfl) h
 refine h0 ?_
 clear h0
 have b1:l.length*8≤140737488355328:=by omega
 have b2:l.length≤2 ^ 63 - 1:=by omega
 cases A with
 |none=>
  have hn:l=[]:=by
   cases l with
   |nil=>rfl
   |cons x r=>obtain⟨b,off,h,_⟩:=hR (by simp);cases h
  subst hn
  simp only[Dh,push_cast,↓reduceIte,reduceCtorEq,Nat.reduceLT]
 |some a=>
  simp only[e1,k1,b1,b2,Dh,push_cast,↓reduceIte,reduceCtorEq,Nat.reduceEqDiff,Nat.reduceLT,Nat.reduceLeDiff,Nat.reduceAdd]
set_option maxRecDepth 100000 in
theorem Abr (l:List UInt32) (A:Option Addr) (c:Nat) (w:World) (hl:l.length≤1000) (hR:RdV w w.heap.size A (l.map Ak)):Calls Tryz.prog 74 #[.slice A l.length c] w fun e w'=>∃v,e=.returned v∧Own w' w.heap.size 111 v (l.map Ak)∧Below w.heap.size w w':=by
 obtain⟨e1,k1⟩:=Ze (FV.no hR)
 have h0:=fun h=>Jb (P:=Tryz.prog) (w:=w) (n:=8) Tryz.func74 rfl Tryz.ntmps74 [.x (.a (.v (.slice A l.length c)))] (by simp) 111 (.u32 l) (vs:=l.map Ak) (fun _=>rfl) h
 refine h0 ?_
 clear h0
 have b1:l.length*4≤140737488355328:=by omega
 have b2:l.length≤2 ^ 63 - 1:=by omega
 cases A with
 |none=>
  have hn:l=[]:=by
   cases l with
   |nil=>rfl
   |cons x r=>obtain⟨b,off,h,_⟩:=hR (by simp);cases h
  subst hn
  simp only[Dh,push_cast,↓reduceIte,reduceCtorEq,Nat.reduceLT]
 |some a=>
  simp only[e1,k1,b1,b2,Dh,push_cast,↓reduceIte,reduceCtorEq,Nat.reduceEqDiff,Nat.reduceLT,Nat.reduceLeDiff,Nat.reduceAdd]
set_option maxRecDepth 100000 in
theorem Abt (l:List UInt64) (A:Option Addr) (c:Nat) (w:World) (hl:l.length≤1000) (hR:RdV w w.heap.size A (l.map vU64)):Calls Tryz.prog 59 #[.slice A l.length c] w fun e w'=>∃v,e=.returned v∧Own w' w.heap.size 41 v (l.map vU64)∧Below w.heap.size w w':=by
 obtain⟨e1,k1⟩:=Uq (FV.no hR)
 have h0:=fun h=>Jb (P:=Tryz.prog) (w:=w) (n:=8) Tryz.func59 rfl Tryz.ntmps59 [.x (.a (.v (.slice A l.length c)))] (by simp) 41 (.u64 l) (vs:=l.map vU64) (fun _=>rfl) h
 refine h0 ?_
 clear h0
 have b1:l.length*8≤140737488355328:=by omega
 have b2:l.length≤2 ^ 63 - 1:=by omega
 cases A with
 |none=>
  have hn:l=[]:=by
   cases l with
   |nil=>rfl
   |cons x r=>obtain⟨b,off,h,_⟩:=hR (by simp);cases h
  subst hn
  simp only[Dh,push_cast,↓reduceIte,reduceCtorEq,Nat.reduceLT]
 |some a=>
  simp only[e1,k1,b1,b2,Dh,push_cast,↓reduceIte,reduceCtorEq,Nat.reduceEqDiff,Nat.reduceLT,Nat.reduceLeDiff,Nat.reduceAdd]
section
variable {w0:World} {ow:Nat→Prop} {hp:List Res} {sv:Sv}
theorem Gi {l:List Int} (hl:l.length≤1000) (h:B3 w0 ow hp sv (l.map (Value.int .i64))) (hbr:∀r∈hp,Res.bnd hp.length r):Ai Tryz.prog w0 ow 52 [sv] hp (.x (.a (.o hp.length))) (hp++[.own 3 (.i64 l)]):=I7 hbr trivial fun γ w hS=>by
 obtain⟨A,c,e1,b1,r1⟩:=h γ w hS
 rw[List.length_map] at e1
 show Calls _ _ #[sv.val γ] w _
 rw[e1]
 exact Abq l A c w hl r1
theorem A2j {l:List UInt32} (hl:l.length≤1000) (h:B3 w0 ow hp sv (l.map Ak)) (hbr:∀r∈hp,Res.bnd hp.length r):Ai Tryz.prog w0 ow 74 [sv] hp (.x (.a (.o hp.length))) (hp++[.own 111 (.u32 l)]):=I7 hbr trivial fun γ w hS=>by
 obtain⟨A,c,e1,b1,r1⟩:=h γ w hS
 rw[List.length_map] at e1
 show Calls _ _ #[sv.val γ] w _
 rw[e1]
 exact Abr l A c w hl r1
theorem V0 {l:List UInt64} (hl:l.length≤1000) (h:B3 w0 ow hp sv (l.map vU64)) (hbr:∀r∈hp,Res.bnd hp.length r):Ai Tryz.prog w0 ow 59 [sv] hp (.x (.a (.o hp.length))) (hp++[.own 41 (.u64 l)]):=I7 hbr trivial fun γ w hS=>by
 obtain⟨A,c,e1,b1,r1⟩:=h γ w hS
 rw[List.length_map] at e1
 show Calls _ _ #[sv.val γ] w _
 rw[e1]
 exact Abt l A c w hl r1
theorem A2k (p:Pr):∀u∈pv p,u.oneCell'=true:=fun u hu=>by
 unfold pv at hu
 simp only[List.mem_cons,List.not_mem_nil,or_false] at hu
 rcases hu with rfl|rfl<;>rfl
theorem A2l (l:List Pr) (A:Option Addr) (c:Nat) (w:World) (hl:l.length≤1000) (hR:RdV w w.heap.size A (pvs l)):Calls Tryz.prog 73 #[.slice A l.length c] w fun e w'=>∃v,e=.returned v∧w'.ownsRow w.heap.size 115 2 v l.length (pvs l)∧Below w.heap.size w w':=by
 cases A with
 |none=>
  have hn:l=[]:=by
   cases l with
   |nil=>rfl
   |cons x r=>obtain⟨b,off,h,_⟩:=hR (by rw[Jj];simp);cases h
  subst hn
  refine (Bm (n:=8) Tryz.func73 rfl Tryz.ntmps73 [.x (.a (.v (.slice none 0 c)))] (by simp) (.x (.a (.v (.slice none 0 0)))) (fun _=>rfl) (by simp only[push_cast,↓reduceIte,reduceCtorEq,Nat.reduceLT])).mono ?_
  rintro e w' ⟨rfl,hb⟩
  exact⟨_,rfl,World.ownsRow_nil _ _ _ _,hb⟩
 |some a=>
  refine Tryz.clonePe_at a l.length c (pvs l) w (Jj l) hl (fun j u hj=>?_) ?_
  ·obtain⟨b,off,h1,h2,h3⟩:=hR (by have:=(List.getElem?_eq_some_iff.1 hj).1;omega)
   cases h1
   rw[B0]
   exact h3 j u hj
  ·intro u hu
   obtain⟨p,hp,hu⟩:=List.mem_flatMap.1 hu
   exact A2k p u hu
theorem A2m {l:List Pr} (hl:l.length≤1000) (h:Kl w0 ow hp sv l.length (pvs l)) (hbr:∀r∈hp,Res.bnd hp.length r):Ai Tryz.prog w0 ow 73 [sv] hp (.x (.a (.o hp.length))) (hp++[.onn 115 2 (.c (pcs l))]):=by
 unfold Ai
 intro γ w hS
 obtain⟨A,c,e1,b1,r1⟩:=h γ w hS
 show Calls _ _ #[sv.val γ] w _
 rw[e1]
 refine (A2l l A c w hl r1).mono ?_
 rintro en w' ⟨v,rfl,ho,hb⟩
 have hlen:=hS.len
 refine⟨[.s v],by simp [Sv.val,Sc.val,At.val,Bd hlen],?_⟩
 refine hS.push (X:=fun _=>False) (Keeps.of_below (own:=fun _=>False) hb) (fun b h=>h.elim) hbr ⟨by rw[Ek hlen,Bd hlen],by decide,l.length,?_⟩ ?_
 ·rw[Bd hlen]
  have e2:(pcs l).map (At.val (γ++[.s v]))=pvs l:=L3 _ l
  show World.ownsRow _ 0 _ 2 v l.length ((pcs l).map (At.val (γ++[.s v])))
  rw[e2]
  exact⟨ho.1,ho.2.imp id fun⟨g,cap,cur,h1,_,h3⟩=>⟨g,cap,cur,h1,Nat.zero_le _,h3⟩⟩
 ·intro n hn
  simp only[Res.has,Bd hlen] at hn
  have:=World.ownsRow.lt ho n hn
  exact⟨.inr this.1,this.2⟩
end
end Go.Proofs.YtedaafmfjhjfmaaGreatDoor
/- Layer 23 walked: quorum.State, can, In (readers of a tally that lies somewhere). -/
namespace Go.Proofs.YtedaafmfjhjfmaaGreatDoor
open Go.RowKit
set_option linter.unusedSimpArgs false
set_option linter.unusedVariables false
attribute [local irreducible] Ah Ai Am Bc A7 Ay Ap A6
attribute [local irreducible] A8 okV
theorem V1 {r:TalR} {A:Option Addr} {w:World} (hv:Vr w A (tlV r)):(Be w (Aj A 0)=r.who.val∧Be w (Aj A 1)=r.inn.val∧Be w (Aj A 2)=r.gone.val∧Be w (Aj A 3)=.int .i64 r.need∧Be w (Aj A 4)=.int .i64 r.term∧Be w (Aj A 5)=.int .i64 r.went)∧
  (B6 w No (Aj A 0)=True∧B6 w No (Aj A 1)=True∧B6 w No (Aj A 2)=True∧B6 w No (Aj A 3)=True∧B6 w No (Aj A 4)=True∧B6 w No (Aj A 5)=True):=
 ⟨⟨(hv.cell 0 _ rfl).1,(hv.cell 1 _ rfl).1,(hv.cell 2 _ rfl).1,(hv.cell 3 _ rfl).1,(hv.cell 4 _ rfl).1,(hv.cell 5 _ rfl).1⟩,eq_true (hv.cell 0 _ rfl).2,eq_true (hv.cell 1 _ rfl).2,eq_true (hv.cell 2 _ rfl).2,eq_true (hv.cell 3 _ rfl).2,eq_true (hv.cell 4 _ rfl).2,eq_true (hv.cell 5 _ rfl).2⟩
set_option maxRecDepth 100000 in
theorem A2n (r:TalR) (a:Addr) (w:World) (hv:Vr w (some a) (tlV r)) (f1:r.who.l.length≤1000) (f2:r.inn.l.length≤1000) (f3:r.gone.l.length≤1000):
  Calls Tryz.prog 116 #[.pointer (some a)] w fun e w'=>e=.returned (.int .i64 r.t.st)∧Below w.heap.size w w':=by
 obtain⟨⟨c0,c1,c2,c3,c4,c5⟩,o0,o1,o2,o3,o4,o5⟩:=V1 hv
 have vw:r.who.val=.slice r.who.A r.who.l.length r.who.c:=rfl
 have vi:r.inn.val=.slice r.inn.A r.inn.l.length r.inn.c:=rfl
 have vg:r.gone.val=.slice r.gone.A r.gone.l.length r.gone.c:=rfl
 have hs:(some a).isSome=true:=rfl
 have hn:(some a).isNone=false:=rfl
 have tln:(Aj (some a) 0).isSome=true:=rfl
 refine Bm (n:=81) Tryz.func116 rfl Tryz.ntmps116 [.x (.a (.v (.pointer (some a))))] (by simp) (.x (.a (.v (.int .i64 r.t.st)))) (fun _=>rfl) ?_
 simp (maxSteps:=10^6) only[hn,push_cast,↓reduceIte,reduceCtorEq,Nat.reduceLT]
 (repeat (refine And.intro (by first|omega|decide) ?_))
 refine Cc [(0,true),(1,true),(2,true),(3,true),(4,true),(5,true),(6,true),(7,true),(8,true),(9,true),(10,true),(11,true),(12,true),(13,true),(14,true),(15,true),(16,true),(17,true),(18,true),(19,true),(20,true),(21,true),(22,true),(23,true)] (by kernel_rfl) (by kernel_rfl) rfl (by kernel_rfl) ?_
 simp (maxSteps:=10^6) only[c0,c1,c2,o0,o1,o2,hs,vw,vi,vg,push_cast,↓reduceIte,reduceCtorEq,Nat.reduceEqDiff,Nat.reduceLT,Int.reduceNeg]
 (repeat (refine And.intro (by first|omega|decide) ?_))
 refine Cc [(0,true),(1,true),(2,true),(3,true),(4,true),(5,true),(6,true),(7,true),(8,true),(9,true)] (by kernel_rfl) (by kernel_rfl) rfl (by kernel_rfl) ?_
 have e:r.t.st=if r.inn.l.length=r.who.l.length then 1
  else if r.need≤(r.inn.l.length:Int)∧(r.term≤r.went∨(r.who.l.length:Int) - r.inn.l.length - r.gone.l.length=0) then 1
  else if (r.inn.l.length:Int) < r.need∧(r.term≤r.went∨(r.inn.l.length:Int)+((r.who.l.length:Int) - r.inn.l.length - r.gone.l.length) < r.need) then 2 else 0:=rfl
 generalize r.t.st=st at*
 by_cases g1:(r.inn.l.length:Int)=r.who.l.length<;>by_cases g2:r.need≤(r.inn.l.length:Int)<;>by_cases g3:r.term≤r.went<;>by_cases g4:(r.who.l.length:Int) - r.inn.l.length - r.gone.l.length=0<;>by_cases g5:(r.inn.l.length:Int)+((r.who.l.length:Int) - r.inn.l.length - r.gone.l.length) < r.need
 all_goals
  have g6:((r.inn.l.length:Int) < r.need)=¬(r.need≤(r.inn.l.length:Int)):=by apply propext;omega
  have g7:(r.inn.l.length=r.who.l.length)=((r.inn.l.length:Int)=r.who.l.length):=by apply propext;omega
  simp only[g7,g1,g6,g2,g3,g4,g5,Int.add_zero,if_true,if_false,not_true,not_false_eq_true,true_or,false_or,or_self,and_self,and_true,and_false,or_true,or_false] at e
  subst e
  simp (maxSteps:=10^6) only[c0,c3,c4,c5,o0,o3,o4,o5,hs,vw,g6,g1,g2,g3,g4,g5,Int.add_zero,undef,push_cast,↓reduceIte,reduceCtorEq,Nat.reduceEqDiff,Nat.reduceLT,Int.reduceNeg]
  repeat (refine And.intro (by first|omega|decide) ?_)
  try omega
theorem Abu {w0:World} {ow:Nat→Prop} {hp:List Res} {sv:Sv} {r:TalR} (h:∀γ w,Sat w0 ow γ hp w→∃a,sv.val γ=.pointer (some a)∧Vr w (some a) (tlV r)) (f1:r.who.l.length≤1000) (f2:r.inn.l.length≤1000) (f3:r.gone.l.length≤1000):
  Ai Tryz.prog w0 ow 116 [sv] hp (.x (.a (.v (.int .i64 r.t.st)))) hp:=Bq fun γ w hS=>by
 obtain⟨a,e,hv⟩:=h γ w hS
 show Calls _ _ #[sv.val γ] w _
 rw[e]
 exact A2n r a w hv f1 f2 f3
structure TlAt (r:TalR) (w:World):Prop where
 who:r.who.l.length≤r.who.c∧RdV w w.heap.size r.who.A (r.who.l.map (Value.int .i64))
 inn:r.inn.l.length≤r.inn.c∧RdV w w.heap.size r.inn.A (r.inn.l.map (Value.int .i64))
 gone:r.gone.l.length≤r.gone.c∧RdV w w.heap.size r.gone.A (r.gone.l.map (Value.int .i64))
theorem TalOk.at_ {Fs:List Fct} {r:TalR} {w:World} {B:Nat→Prop} (h:TalOk Fs r) (hk:Known w B Fs):TlAt r w:=by
 have h1:=hk.fw h.who (fun e=>by rw[e];rfl)
 have h2:=hk.fw h.inn (fun e=>by rw[e];rfl)
 have h3:=hk.fw h.gone (fun e=>by rw[e];rfl)
 exact⟨⟨h1.1,h1.2.rd⟩,⟨h2.1,h2.2.rd⟩,h3.1,h3.2.rd⟩
theorem En:erV 0=.nilIface:=rfl
theorem B5 {n:Int} (h:¬n=0):erV n=.iface 91 (.int .i64 n):=if_neg h
set_option maxRecDepth 100000 in
theorem A2o (r:TalR) (a:Addr) (id:Int) (w:World) (hv:Vr w (some a) (tlV r)) (ht:TlAt r w) (f1:r.who.l.length≤1000) (f2:r.inn.l.length≤1000) (f3:r.gone.l.length≤1000):
  Calls Tryz.prog 136 #[.pointer (some a),.int .i64 id] w fun e w'=>e=.returned (erV (r.t.can id))∧Below w.heap.size w w':=by
 obtain⟨⟨c0,c1,c2,c3,c4,c5⟩,o0,o1,o2,o3,o4,o5⟩:=V1 hv
 obtain⟨⟨l1,r1⟩,⟨l2,r2⟩,l3,r3⟩:=ht
 have vw:r.who.val=.slice r.who.A r.who.l.length r.who.c:=rfl
 have vi:r.inn.val=.slice r.inn.A r.inn.l.length r.inn.c:=rfl
 have vg:r.gone.val=.slice r.gone.A r.gone.l.length r.gone.c:=rfl
 have hs:(some a).isSome=true:=rfl
 have hn:(some a).isNone=false:=rfl
 have tln:(Aj (some a) 0).isSome=true:=rfl
 refine Bm (n:=39) Tryz.func136 rfl Tryz.ntmps136 [.x (.a (.v (.pointer (some a)))),.x (.a (.v (.int .i64 id)))] (by simp) (.x (.a (.v (erV (r.t.can id))))) (fun _=>rfl) ?_
 simp (maxSteps:=10^6) only[hn,push_cast,↓reduceIte,reduceCtorEq,Nat.reduceLT]
 (repeat (refine And.intro (by first|omega|decide) ?_))
 refine Al rfl M4 rfl (Abu (r:=r) (fun γ w' hS=>⟨a,rfl,hv.later hS.keeps⟩) f1 f2 f3) (Ae rfl) ?_
 have e:r.t.can id=if r.t.st≠0 then 9 else if A8 r.who.l id=false then 6 else if A8 r.inn.l id=true∨A8 r.gone.l id=true then 8 else 0:=rfl
 by_cases g1:r.t.st=0
 ·rw[if_neg (by intro h;exact h g1)] at e
  simp (maxSteps:=10^6) only[g1,c0,o0,hs,vw,push_cast,↓reduceIte,reduceCtorEq,Nat.reduceEqDiff,Nat.reduceLT]
  (repeat (refine And.intro (by first|omega|decide) ?_))
  refine Al rfl Je rfl (Jm (l:=r.who.l) id (by omega) (Bt r1 _ _ (by simp) l1)) (Ae rfl) ?_
  by_cases g2:A8 r.who.l id=true
  ·rw[g2,if_neg (by decide)] at e
   simp (maxSteps:=10^6) only[g2,c1,o1,hs,vi,push_cast,↓reduceIte,reduceCtorEq,Nat.reduceEqDiff,Nat.reduceLT]
   (repeat (refine And.intro (by first|omega|decide) ?_))
   refine Al rfl Je rfl (Jm (l:=r.inn.l) id (by omega) (Bt r2 _ _ (by simp) l2)) (Ae rfl) ?_
   by_cases g3:A8 r.inn.l id=true
   ·rw[if_pos (.inl g3)] at e
    rw[e,B5 (by decide)]
    simp (maxSteps:=10^6) only[g3,undef,push_cast,↓reduceIte,Nat.reduceEqDiff,Nat.reduceLT]
    done
   ·have g3':A8 r.inn.l id=false:=by simpa using g3
    simp (maxSteps:=10^6) only[g3',c2,o2,hs,vg,push_cast,↓reduceIte,reduceCtorEq,Nat.reduceEqDiff,Nat.reduceLT]
    (repeat (refine And.intro (by first|omega|decide) ?_))
    refine Al rfl Je rfl (Jm (l:=r.gone.l) id (by omega) (Bt r3 _ _ (by simp) l3)) (Ae rfl) ?_
    by_cases g4:A8 r.gone.l id=true
    ·rw[if_pos (.inr g4)] at e
     rw[e,B5 (by decide)]
     simp (maxSteps:=10^6) only[g4,push_cast,↓reduceIte,Nat.reduceEqDiff,Nat.reduceLT]
     done
    ·have g4':A8 r.gone.l id=false:=by simpa using g4
     rw[if_neg (by rw[g3',g4'];decide)] at e
     rw[e,En]
     simp (maxSteps:=10^6) only[g4',push_cast,↓reduceIte,Nat.reduceEqDiff,Nat.reduceLT]
     done
  ·have g2':A8 r.who.l id=false:=by simpa using g2
   rw[if_pos g2'] at e
   rw[e,B5 (by decide)]
   simp (maxSteps:=10^6) only[g2',push_cast,↓reduceIte,Nat.reduceLT]
   done
 ·rw[if_pos g1] at e
  rw[e,B5 (by decide)]
  simp (maxSteps:=10^6) only[g1,push_cast,↓reduceIte,Nat.reduceLT]
  done
set_option maxRecDepth 100000 in
theorem Abv (r:TalR) (a:Addr) (w:World) (hv:Vr w (some a) (tlV r)) (ht:TlAt r w) (f2:r.inn.l.length≤1000):
  Calls Tryz.prog 150 #[.pointer (some a)] w fun e w'=>∃v',e=.returned v'∧Own w' w.heap.size 3 v' (r.inn.l.map (Value.int .i64))∧Below w.heap.size w w':=by
 obtain⟨⟨c0,c1,c2,c3,c4,c5⟩,o0,o1,o2,o3,o4,o5⟩:=V1 hv
 obtain⟨_,⟨l2,r2⟩,_⟩:=ht
 have vw:r.who.val=.slice r.who.A r.who.l.length r.who.c:=rfl
 have vi:r.inn.val=.slice r.inn.A r.inn.l.length r.inn.c:=rfl
 have vg:r.gone.val=.slice r.gone.A r.gone.l.length r.gone.c:=rfl
 have hs:(some a).isSome=true:=rfl
 have hn:(some a).isNone=false:=rfl
 have tln:(Aj (some a) 0).isSome=true:=rfl
 refine Jb (n:=10) Tryz.func150 rfl Tryz.ntmps150 [.x (.a (.v (.pointer (some a))))] (by simp) 3 (.i64 r.inn.l) (fun _=>rfl) ?_
 simp (maxSteps:=10^6) only[c1,o1,hs,hn,vi,push_cast,↓reduceIte,reduceCtorEq,Nat.reduceLT]
 (repeat (refine And.intro (by first|omega|decide) ?_))
 refine Ig rfl Ew rfl (Gi (l:=r.inn.l) f2 (Bt r2 _ _ (by simp) l2) (by simp only[push_cast])) (Ae rfl) (by simp (maxSteps:=10^6) only[push_cast]) ?_
 simp (maxSteps:=10^6) only[Dh,push_cast,↓reduceIte,Nat.reduceLT]
end Go.Proofs.YtedaafmfjhjfmaaGreatDoor
