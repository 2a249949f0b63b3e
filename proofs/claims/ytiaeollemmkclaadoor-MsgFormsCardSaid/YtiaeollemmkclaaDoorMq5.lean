import Derived.Test.YtiaeollemmkclaaDoorMq4
import Derived.Test.YtiaeollemmkclaaDoorMg7
/- Layer 16's document: Encode. -/
namespace Go.Proofs.YtiaeollemmkclaaDoor
open Go.RowKit
set_option linter.unusedSimpArgs false
set_option linter.unusedVariables false
section
variable {P:Program} {w0:World} {f:FuncId} {svs:List Sv} {hp:List Res}
theorem Bbh {ι:Type} {Q:ι→Prop} {hp1:ι→List Res} {N:Nat} {sv1:Sv} (hN:∀i,(hp1 i).length=N) (hbr:∀r∈hp,Res.bnd hp.length r) (hb1:∀i,∀r∈hp1 i,Res.bnd (hp1 i).length r) (hsb:sv1.bnd N)
  (h:∀γ w,Sat w0 No γ hp w→Calls P f (svs.map (Sv.val γ)).toArray w fun e w'=>∃i γ1,Q i∧e=.returned (sv1.val γ1)∧Sat w No γ1 (hp1 i) w'):
  ∀γ w,Sat w0 No γ hp w→Calls P f (svs.map (Sv.val γ)).toArray w fun e w'=>∃i δ,Q i∧e=.returned ((sv1.ren (A7 hp.length N)).val (γ++δ))∧Sat w0 No (γ++δ) (goneAll [] hp++(hp1 i).map (Res.ren (A7 hp.length N))) w':=fun γ w hS=>by
 refine (h γ w hS).mono fun e w' ⟨i,γ1,hq,he,h1⟩=>⟨i,γ1,hq,?_,?_⟩
 ·have hl:=hS.len
  have hl1:=h1.len
  rw[hN i] at hl1
  have hre:reγ (A7 hp.length N) (γ++γ1)=γ1:=by rw[←hl,←hl1];exact Sd γ γ1
  have:=Sv.re (ρ:=A7 hp.length N) (γ:=γ++γ1) (fun k hk=>by rw[Io] at hk;rw[Ht hk,List.length_append];omega) (x:=sv1) (by rw[Io];exact hsb)
  rw[he,←this,hre]
 ·have:=hS.back [] (X:=No) (fun b h=>h.elim) h1 hbr (hb1 i)
  rw[hN i] at this
  exact this
end
theorem FW.nil_ {w:World} {X:Nat→Prop} {A:Option Addr}:FW w X A []:=⟨RdV.nil_,fun h=>absurd h (by simp)⟩
theorem FOk.okX {m:MgR} {Fs:List Fct} {f:FdR} {w0 w:World} {γ:List Nm} {hp:List Res} {j:Nat} (h:FOk m Fs f) (hm:m.Ok w0) (hS:Sat w0 No γ hp w) (hj:hp[j]?=some (.abs (fctRep Fs))) (ks:List Nat) (hn:j∉ks)
  {X:Nat→Prop} (hX:∀b,X b→∃(k:Nat) (r:Res),k∈ks∧hp[k]?=some r∧r.has γ k b):f.OkX X w:=by
 have hX':∀b,X b→∃(k:Nat) (r:Res),hp[k]?=some r∧r.has γ k b:=fun b hb=>by
  obtain⟨k,r,_,h⟩:=hX b hb
  exact⟨k,r,h⟩
 have l:f.l.Ok vU64 w∧FW w X f.l.A (f.l.l.map vU64):=by
  rcases h.l with e|e|e
  ·rw[e];exact⟨⟨Nat.le_refl _,RdV.nil_⟩,FW.nil_⟩
  ·rw[e]
   have:=hm.ns.later hS
   exact⟨⟨this.len,this.rd⟩,Ng hm.ns.rd hS hX'⟩
  ·obtain⟨A,c,h1,h2,_,h4⟩:=Aa4 hS hj e
   have h1:Value.slice f.l.A f.l.l.length f.l.c=.slice A f.l.l.length c:=h1
   injection h1 with e1 _ e3
   rw[←e3] at h2
   rw[←e1] at h4
   exact⟨⟨h2,h4⟩,Sz hS hj e (Sub.refl _ _) ks hn hX⟩
 have x:f.x.Ok Ap w∧FW w X f.x.A (f.x.l.map Ap):=by
  rcases h.x with e|e
  ·rw[e];exact⟨⟨Nat.le_refl _,RdV.nil_⟩,FW.nil_⟩
  ·rw[e]
   have:=hm.xs.later hS
   exact⟨⟨this.len,this.rd⟩,Ng hm.xs.rd hS hX'⟩
 have b:f.b.Ok vU8 w∧FW w X f.b.A (f.b.l.map vU8):=by
  rw[h.b];exact⟨⟨Nat.le_refl _,RdV.nil_⟩,FW.nil_⟩
 exact⟨⟨l.1,b.1,h.s,x.1,by rw[h.many];decide⟩,l.2,b.2,x.2⟩
theorem Bbi {w0:World} {hp:List Res} {b:Sv} {k:Option Nat} {l0:List UInt8} {m:MgR} {Fs:List Fct} {f:FdR} {j:Nat} (hbase:Kt hp 5 b=some (k,some (.u8 l0))) (hl0:l0.length≤300000) (hbr:∀r∈hp,Res.bnd hp.length r) (hm:m.Ok w0) (h:FOk m Fs f)
  (hj:hp[j]?=some (.abs (fctRep Fs))) (hk:k≠some j) (hsm:f.l.l.length≤1000∧f.b.l.length≤1000∧f.x.l.length≤1000):
  Ad Tryd.prog w0 No 21 [b,.x (.g (fdA f))] hp (.x (.a (.o hp.length))) (Cd hp k++[.own 5 (.u8 (l0++Lp f.fd))]):=
 Ai6 hbr trivial hbase (by unfold maxLen;simp only[D1,Cont.len];omega) fun γ w hS ho=>by
  obtain⟨_,h2,_⟩:=Rm hS hbase (by unfold maxLen;simp only[D1,Cont.len];omega)
  have e:(List.map (Sv.val γ) [b,.x (.g (fdA f))]).toArray=#[b.val γ,.agg (fdV f).toArray]:=by
   rw[List.map_cons,List.map_cons,L1];rfl
  rw[e]
  exact Bar (b.val γ) l0 f w hl0 ho (h.okX hm hS hj k.toList (by rw[Option.mem_toList];exact hk) fun n hn=>by
   obtain⟨j,r,e,h1,h2⟩:=h2 n hn
   exact⟨j,r,by rw[e];exact List.mem_singleton.2 rfl,h1,h2⟩) hsm
theorem Aek {m:MgR} {Fs:List Fct}:∀{fl:List FdR} {i:Nat},(∀f∈fl,FOk m Fs f)→i < fl.length→((vC (fl.flatMap fdV)).drop (i*39)).take 39=fdA (fl.getD i ⟨0,0,⟨none,0,[]⟩,⟨none,0,[]⟩,[],⟨none,0,[]⟩,0,0⟩)
 |f::fl,0,h,_=>by
  rw[Nat.zero_mul,List.drop_zero,List.flatMap_cons,Pw,List.take_append_of_le_length (by rw[Tn,Tq (h f (List.mem_cons_self ..)).s];exact Nat.le_refl _),List.take_of_length_le (by rw[Tn,Tq (h f (List.mem_cons_self ..)).s];exact Nat.le_refl _),L0]
  rfl
 |f::fl,i+1,h,hi=>by
  have hl:(vC (fdV f)).length=39:=by rw[Tn,Tq (h f (List.mem_cons_self ..)).s]
  rw[List.flatMap_cons,Pw,show (i+1)*39=(vC (fdV f)).length+i*39 by rw[hl];omega,List.drop_append,List.drop_eq_nil_of_le (Nat.le_add_right _ _),Nat.add_sub_cancel_left,List.nil_append,Aek (fun x hx=>h x (List.mem_cons_of_mem _ hx)) (by simp only[List.length_cons] at hi;omega)]
  rfl
theorem Bbj {m:MgR} {w:World} (hm:m.Ok w) {f:FdR} (hf:f.fd∈Dt m.mg):f.l.l.length≤1000∧f.b.l.length≤1000∧f.x.l.length≤1000:=by
 obtain⟨c,_,hc⟩:=List.mem_flatMap.1 hf
 have key:∀{g:Fd},f.fd=g→g.l.length≤1000∧g.b.length≤1000∧g.x.length≤1000→f.l.l.length≤1000∧f.b.l.length≤1000∧f.x.l.length≤1000:=fun e h=>by
  rw[←e] at h;exact h
 have n1:(Ao m.mg.ids).length≤1000:=by rw[Ir];exact hm.ids.few
 have n2:(Ao (m.mg.ps.map (·.1))).length≤1000:=by rw[Ir,List.length_map];exact hm.ps.few
 have n3:(m.mg.ps.map (·.2)).length≤1000:=by rw[List.length_map];exact hm.ps.few
 have z:∀{α:Type},([]:List α).length≤1000:=Nat.zero_le _
 unfold Fo at hc
 by_cases h:c=97
 ·rw[if_pos h] at hc;exact key (List.mem_singleton.1 hc) ⟨z,z,z⟩
 rw[if_neg h] at hc
 by_cases h:c=111
 ·rw[if_pos h] at hc;exact key (List.mem_singleton.1 hc) ⟨z,z,z⟩
 rw[if_neg h] at hc
 by_cases h:c=99
 ·rw[if_pos h] at hc;exact key (List.mem_singleton.1 hc) ⟨z,z,z⟩
 rw[if_neg h] at hc
 by_cases h:c=103
 ·rw[if_pos h] at hc;exact key (List.mem_singleton.1 hc) ⟨z,z,z⟩
 rw[if_neg h] at hc
 by_cases h:c=114
 ·rw[if_pos h] at hc;exact key (List.mem_singleton.1 hc) ⟨z,z,z⟩
 rw[if_neg h] at hc
 by_cases h:c=110
 ·rw[if_pos h] at hc;exact key (List.mem_singleton.1 hc) ⟨z,z,z⟩
 rw[if_neg h] at hc
 by_cases h:c=115
 ·rw[if_pos h] at hc;exact key (List.mem_singleton.1 hc) ⟨z,z,z⟩
 rw[if_neg h] at hc
 by_cases h:c=105
 ·rw[if_pos h] at hc;exact key (List.mem_singleton.1 hc) ⟨n1,z,z⟩
 rw[if_neg h] at hc
 by_cases h:c=118
 ·rw[if_pos h] at hc;exact key (List.mem_singleton.1 hc) ⟨hm.ns.few,z,z⟩
 rw[if_neg h] at hc
 by_cases h:c=112
 ·rw[if_pos h] at hc
  rcases List.mem_cons.1 hc with hc|hc
  ·exact key hc ⟨n2,z,z⟩
  ·exact key (List.mem_singleton.1 hc) ⟨n3,z,z⟩
 rw[if_neg h] at hc
 exact key (List.mem_singleton.1 hc) ⟨z,z,hm.xs.few⟩
theorem Bbk (l:List Fd) (i:Nat):(Dm (l.take i)).length≤(Dm l).length:=by
 have:Dm l=Dm (l.take i)++Dm (l.drop i):=by
  unfold Dm
  rw[←List.flatMap_append,List.take_append_drop]
 rw[this,List.length_append]
 omega
theorem Bbl (m:MgS) (c:UInt8):(Fo m c).length≤2:=by
 unfold Fo
 repeat (first|(split;· simp)|simp)
theorem Bbm (m:MgS):(Dt m).length≤100:=by
 have h:∀f:List UInt8,(f.flatMap (Fo m)).length≤2*f.length:=fun f=>by
  induction f with
  |nil=>exact Nat.le_refl _
  |cons c f ih=>
   rw[List.flatMap_cons,List.length_append,List.length_cons]
   have:=Bbl m c
   omega
 have h1:=h (Aj m.k)
 have h2:=Tj m.k
 rw[Ji] at h2
 unfold Dt
 omega
def Bbn:FdR:=⟨0,0,⟨none,0,[]⟩,⟨none,0,[]⟩,[],⟨none,0,[]⟩,0,0⟩
attribute [local irreducible] Af Ad Av Bh Bf A6 Aw A9
attribute [local irreducible] mgA fdA vC Al Bl Bw Bc Ao Cr Dm Cc
section
set_option maxRecDepth 100000 in
theorem Bbo (m:MgR) (w:World) (hm:m.Ok w) (hc:Cc m.mg=false):Calls Tryd.prog 40 (List.map (Sv.val []) [.x (.g (mgA m))]).toArray w fun e w'=>e=.returned (.tuple #[.slice none 0 0,.int .i64 1])∧Below w.heap.size w w':=by
 have f0:=(Dw hm.s).1
 have fl:=Cj hm.s
 have fs:=Gw hm.s
 have hs:=hm.s
 have fb:=fun n=>Co m n
 simp only[At.bnd] at fb
 refine By (n:=28) Tryd.func40 rfl Tryd.ntmps40 [.x (.g (mgA m))] (by simp) (.t [.a (.v (.slice none 0 0)),.a (.v (.int .i64 1))]) (fun _=>rfl) ?_
 simp (maxSteps:=10^6) only[fb,fl,↓Ba,push_cast,↓reduceIte,Nat.reduceEqDiff,Nat.reduceLT]
 (repeat (refine And.intro (by first|omega|decide) ?_))
 refine A8 rfl Aaq rfl (Ad4 (Dh hm)) (Aa rfl) ?_
 simp (maxSteps:=10^6) only[hc,push_cast,↓reduceIte,Nat.reduceEqDiff,Nat.reduceLT]
 done
set_option maxRecDepth 100000 in
set_option maxHeartbeats 2000000 in
theorem Bbp (m:MgR) (w:World) (hm:m.Ok w) (hc:Cc m.mg=true):Calls Tryd.prog 40 (List.map (Sv.val []) [.x (.g (mgA m))]).toArray w fun en w'=>∃v',en=.returned (.tuple #[v',.int .i64 0])∧Own w' w.heap.size 5 v' ((Cr m.mg).map vU8)∧Below w.heap.size w w':=by
 have f0:=(Dw hm.s).1
 have fl:=Cj hm.s
 have fs:=Gw hm.s
 have hs:=hm.s
 have fb:=fun n=>Co m n
 simp only[At.bnd] at fb
 have he:=Bbd (Xg (Adz hc))
 have hlen:=A6o hm.few
 rw[he,List.length_append] at hlen
 rw[he]
 refine Aak (n:=28) Tryd.func40 rfl Tryd.ntmps40 [.x (.g (mgA m))] (by simp) 5 (.u8 ([m.mg.k]++Dm (Dt m.mg))) (.int .i64 0) (fun _=>rfl) ?_
 simp (maxSteps:=10^6) only[fb,fl,↓Ba,push_cast,↓reduceIte,Nat.reduceEqDiff,Nat.reduceLT]
 (repeat (refine And.intro (by first|omega|decide) ?_))
 refine A8 rfl Aaq rfl (Ad4 (Dh hm)) (Aa rfl) ?_
 simp (maxSteps:=10^6) only[fb,fl,f0,hc,undef,push_cast,↓reduceIte,reduceCtorEq,Nat.reduceEqDiff,Nat.reduceLT,Nat.reduceLeDiff,Nat.reduceAdd]
 (repeat (refine And.intro (by first|omega|decide) ?_))
 refine Gg (ι:=List FdR×List Fct) (fun x=>x.1.map FdR.fd=Dt m.mg∧∀f∈x.1,FOk m x.2 f) (fun _=>.x (.a (.o 2))) (fun x=>[Res.blk 83 (.c (mgA m)),Res.blk 5 (.u8 [m.k]),.onn 32 39 (.c (vC (x.1.flatMap fdV))),.abs (fctRep x.2)]) rfl Azk rfl ?_ (Aa rfl) (by simp (maxSteps:=10^6) only[fb,push_cast,Nat.reduceLT,Nat.reduceAdd]) ?_
 ·have:=Bbh (P:=Tryd.prog) (w0:=w) (f:=92) (svs:=[.x (.g (mgA m))]) (hp:=[Res.blk 83 (.c (mgA m)),Res.blk 5 (.u8 [m.k])]) (Q:=fun x:List FdR×List Fct=>x.1.map FdR.fd=Dt m.mg∧∀f∈x.1,FOk m x.2 f) (hp1:=fun x=>[.onn 32 39 (.c (vC (x.1.flatMap fdV))),.abs (fctRep x.2)]) (N:=2) (sv1:=.x (.a (.o 0))) (fun _=>rfl) (by simp (maxSteps:=10^6) only[fb,push_cast,Nat.reduceAdd]) (fun x=>by simp (maxSteps:=10^6) only[Kj,push_cast,Nat.reduceAdd]) (by simp (maxSteps:=10^6) only[push_cast,Nat.reduceLT]) fun γ w1 hS=>by
   have:=Bbg m w1 (hm.later hS)
   have e:List.map (Sv.val γ) [.x (.g (mgA m))]=List.map (Sv.val []) [.x (.g (mgA m))]:=by
    simp only[List.map_cons,List.map_nil,Es]
   rw[e]
   exact this.mono fun e w' ⟨x,γ1,h1,h2,h3⟩=>⟨x,γ1,h1,h2,h3⟩
  intro γ w1 hS
  refine (this γ w1 hS).mono fun e w' ⟨x,δ,h1,h2,h3⟩=>⟨x,δ,h1,h2,?_⟩
  have e2:goneAll [] [Res.blk 83 (.c (mgA m)),Res.blk 5 (.u8 [m.k])]++List.map (Res.ren (A7 [Res.blk 83 (.c (mgA m)),Res.blk 5 (.u8 [m.k])].length 2)) [.onn 32 39 (.c (vC (x.1.flatMap fdV))),.abs (fctRep x.2)]=[Res.blk 83 (.c (mgA m)),Res.blk 5 (.u8 [m.k]),.onn 32 39 (.c (vC (x.1.flatMap fdV))),.abs (fctRep x.2)]:=by
   show [_,_,Res.onn _ 39 (Cont.c ((vC _).map _)),_]=_
   rw[Ad6]
   rfl
  rw[e2] at h3
  exact h3
 rintro⟨fl2,Fs⟩ ⟨hfd,hF⟩
 dsimp only at hfd hF
 simp (maxSteps:=10^6) only[push_cast,↓reduceIte,Nat.reduceLT,Nat.reduceAdd]
 (repeat (refine And.intro (by first|omega|decide) ?_))
 refine A6x 4 1 1 rfl rfl rfl (by unfold maxLen;omega) (by simp (maxSteps:=10^6) only[fb,Kj,push_cast,Nat.reduceLT,Nat.reduceAdd]) ?_
 simp (maxSteps:=10^6) only[push_cast,Nat.reduceAdd]
 have hvl:=Xs hF
 have e3:fl2.length*39 / 39=fl2.length:=Nat.mul_div_cancel _ (by omega)
 have hfl:fl2.length=(Dt m.mg).length:=by rw[←hfd,List.length_map]
 have hle:(Dt m.mg).length≤100:=Bbm m.mg
 refine Bu (ι:=Nat) (fun i=>⟨[(4,.x (.a (.o 3))),(5,.x (.a (.o 1))),(6,.x (.a (.v (.int .i64 i))))],[Res.blk 83 (.c (mgA m)),.onn 32 39 (.c (vC (fl2.flatMap fdV))),.abs (fctRep Fs),.own 5 (.u8 ([m.k]++Dm ((Dt m.mg).take i)))]⟩)
  (fun i=>i≤fl2.length) (fun i=>fl2.length - i) 0 [0,2,3,4] (Nat.zero_le _) ?_ ?_
 ·have z:Dm []=[]:=by unfold Dm;rfl
  simp (maxSteps:=10^6) only[z,List.take_zero,List.append_nil,fb,↓Ak,push_cast,↓Int.cast_ofNat_Int,Int.cast_ofNat_Int,↓reduceIte,reduceCtorEq,Nat.reduceEqDiff,Nat.reduceLT,Nat.reduceAdd]
  done
 intro i hi
 by_cases hlt:(i:Int) < (fl2.length:Int)
 ·have hil:i < fl2.length:=by omega
  have i0:(0:Int)≤i:=by omega
  have hd:=Aek hF hil
  obtain⟨f,hf⟩:∃f,f=fl2.getD i Bbn:=⟨_,rfl⟩
  have hfm:f∈fl2:=by rw[hf,List.getD_eq_getElem?_getD,List.getElem?_eq_getElem hil];exact List.getElem_mem hil
  have hd:((vC (fl2.flatMap fdV)).drop (i*39)).take 39=fdA f:=by rw[hf];exact hd
  have hfo:=hF f hfm
  have few:=Bbj hm (f:=f) (by rw[←hfd];exact List.mem_map_of_mem hfm)
  have hn:Dm ((Dt m.mg).take (i+1))=Dm ((Dt m.mg).take i)++Lp f.fd:=by
   have hi2:i < (Dt m.mg).length:=by omega
   have e:(Dt m.mg)[i]'hi2=f.fd:=by
    have:(Dt m.mg)[i]?=some f.fd:=by rw[←hfd,List.getElem?_map,hf,List.getD_eq_getElem?_getD,List.getElem?_eq_getElem hil];rfl
    rw[List.getElem?_eq_getElem hi2] at this
    exact Option.some.inj this
   rw[List.take_add_one,List.getElem?_eq_getElem hi2,Option.toList_some,e]
   unfold Dm
   rw[List.flatMap_append,List.flatMap_cons,List.flatMap_nil,List.append_nil]
  have hpl:=Bbk (Dt m.mg) i
  have b0:([m.k]++Dm ((Dt m.mg).take i)).length≤300000:=by rw[List.length_append];rw[List.length_singleton] at hlen ⊢;omega
  have gl:=Cl hfo.s
  have gb:=fun n=>Ix f n
  simp only[At.bnd] at gb
  simp (maxSteps:=10^6) only[hlt,i0,e3,hvl,hd,push_cast,↓Int.toNat_natCast,↓reduceIte,Nat.reduceEqDiff,Nat.reduceLT,Nat.reduceAdd]
  (repeat (refine And.intro (by first|omega|decide) ?_))
  refine Bk rfl Azc rfl (Bbi (m:=m) (Fs:=Fs) (f:=f) (j:=2) rfl b0 (by simp (maxSteps:=10^6) only[fb,Kj,push_cast,Nat.reduceAdd]) hm hfo rfl (by decide) few) (Aa rfl) (fun _=>by simp (maxSteps:=10^6) only[fb,gb,Kj,push_cast,Nat.reduceLT,Nat.reduceAdd]) ?_
  simp (maxSteps:=10^6) only[push_cast,↓reduceIte,Nat.reduceEqDiff,Nat.reduceLT,Nat.reduceAdd,Int.reduceNeg]
  (repeat (refine And.intro (by first|omega|decide) ?_))
  refine Bd (i+1) [0,1,2,4] (by omega) (by omega) ?_
  simp (maxSteps:=10^6) only[fb,↓Ak,hn,push_cast,↓reduceIte,reduceCtorEq,Nat.reduceEqDiff,Nat.reduceLT,Nat.reduceAdd]
  done
 ·obtain rfl:i=fl2.length:=by omega
  have ht:(Dt m.mg).take fl2.length=Dt m.mg:=by rw[hfl,List.take_length]
  simp (maxSteps:=10^6) only[hlt,e3,hvl,ht,push_cast,↓reduceIte,Nat.reduceEqDiff,Nat.reduceLT,Nat.reduceAdd]
  rfl
theorem Ael {w0:World} {hp:List Res} {s:Sv} {m:MgS} (h:Dg w0 hp s m) (hc:Cc m=false):Ad Tryd.prog w0 No 40 [s] hp (.t [.a (.v (.slice none 0 0)),.a (.v (.int .i64 1))]) hp:=Ca fun γ w hS=>by
 obtain⟨a,e,h1,rfl⟩:=h γ w hS
 have e:List.map (Sv.val γ) [s]=List.map (Sv.val []) [.x (.g (mgA a))]:=by
  simp only[List.map_cons,List.map_nil,e,Es]
 rw[e]
 exact Bbo a w h1 hc
theorem Aem {w0:World} {hp:List Res} {s:Sv} {m:MgS} (h:Dg w0 hp s m) (hc:Cc m=true) (hbr:∀r∈hp,Res.bnd hp.length r):Ad Tryd.prog w0 No 40 [s] hp (.t [.a (.o hp.length),.a (.v (.int .i64 0))]) (hp++[.own 5 (.u8 (Cr m))]):=Aac hbr trivial fun γ w hS=>by
 obtain⟨a,e,h1,rfl⟩:=h γ w hS
 have e:List.map (Sv.val γ) [s]=List.map (Sv.val []) [.x (.g (mgA a))]:=by
  simp only[List.map_cons,List.map_nil,e,Es]
 rw[e]
 exact Bbp a w h1 hc
end
end Go.Proofs.YtiaeollemmkclaaDoor
