import Derived.Test.YtiaeollemmkclaaDoorPk6
/- pack.Writer.All: all bytes (layer 13). -/
namespace Go.Proofs.YtiaeollemmkclaaDoor
open Go.RowKit
set_option linter.unusedSimpArgs false
set_option linter.unusedVariables false
theorem ChW.ptr {t:TypeId} {r:List (List UInt8)} {v:Value} {B:Nat→Prop} {w:World} (h:ChW t r v B w):∃A,v=.pointer A:=by
 cases r with
 |nil=>exact⟨none,h⟩
 |cons b r=>obtain⟨g,u,s,h1,_⟩:=h;exact⟨_,h1⟩
structure Two (w:World) (A:Option Addr) (u v:Value):Prop where
 some_:A.isSome=true
 none_:A.isNone=false
 c0:B2 w A=u
 o0:C8 w No A
 c1:B2 w (Ar A 1)=v
 o1:C8 w No (Ar A 1)
theorem Two.of {w:World} {g:Nat} {u v:Value} (h0:w.cell? ⟨g,0,none⟩=some u) (h1:w.cell? ⟨g,1,none⟩=some v):Two w (some ⟨g,0,none⟩) u v:=by
 have hb:g < w.heap.size:=block_lt_of_cell h0
 have e:Ar (some ⟨g,0,none⟩) 1=some ⟨g,1,none⟩:=rfl
 exact⟨rfl,rfl,by simp [B2,h0],⟨_,_,rfl,hb,fun h=>h,h0⟩,by rw[e];simp [B2,h1],⟨_,_,e,hb,fun h=>h,h1⟩⟩
theorem A4u {t:TypeId} {b:List UInt8} {r:List (List UInt8)} {A:Option Addr} {B:Nat→Prop} {w:World} (h:ChW t (b::r) (.pointer A) B w):
  ∃A1 A2 c,Two w A (.pointer A1) (.slice A2 b.length c)∧b.length≤c∧RdV w w.heap.size A2 (b.map vU8)∧ChW t r (.pointer A1) B w:=by
 obtain⟨g,u,s,h1,h2,h3,⟨A2,c,rfl,h5,h6,h7,h8⟩,h9⟩:=h
 injection h1 with h1
 subst h1
 obtain⟨A1,rfl⟩:=h9.ptr
 rw[List.length_map] at h3 h5
 exact⟨A1,A2,c,Two.of (h3.cell 0) (h3.cell 1),h5,h7,h9⟩
attribute [local irreducible] Af Ad Av Bh Bf A6 Aw A9
set_option maxRecDepth 100000 in
set_option maxHeartbeats 1000000 in
theorem A4v {r:List (List UInt8)} {A A0:Option Addr} {B:Nat→Prop} {w:World} (hn:Ck r≤1000000000) (hT:Two w A (.pointer A0) (.int .i64 (Ck r:Int))) (hC:ChW 125 r (.pointer A0) B w):
  Calls Tryd.prog 10 #[.pointer A] w fun e w'=>∃x,e=.returned x∧Own w' w.heap.size 5 x ((C3 r).map vU8)∧Below w.heap.size w w':=by
 refine J4 (n:=43) Tryd.func10 rfl Tryd.ntmps10 [.x (.a (.v (.pointer A)))] (by simp) 5 (.u8 (C3 r)) (fun _=>rfl) ?_
 obtain⟨h1,h2,h3,h4,h5,h6⟩:=hT
 have k1:(Ck r:Int)≤2 ^ 63 - 1:=by omega
 have k2:Ck r≤2 ^ 63 - 1:=by omega
 have k3:Ck r≤140737488355328:=by omega
 simp (maxSteps:=10^6) only[h1,h2,h3,h4,h5,h6,Cg,push_cast,↓Int.toNat_natCast,↓Int.cast_ofNat_Int,Int.cast_ofNat_Int,↓reduceIte,reduceCtorEq,Nat.reduceLT]
 (repeat (refine And.intro (by first|omega|decide) ?_))
 refine Bu (ι:=List (List UInt8)×List (List UInt8)×Option Addr) (fun y=>⟨[(3,.x (.a (.o 0))),(4,.x (.a (.v (.int .i64 (Ck y.2.1:Int))))),(5,.x (.a (.v (.pointer y.2.2))))],[.own 5 (.u8 (List.replicate (Ck y.2.1) 0++C3 y.1))]⟩) (fun y=>r=y.1++y.2.1∧ChW 125 y.2.1 (.pointer y.2.2) B w) (fun y=>y.2.1.length) ([],r,A0) [0] ⟨rfl,hC⟩ ?_ ?_
 ·have e0:C3 []=[]:=rfl
  simp (maxSteps:=10^6) only[e0,push_cast,↓reduceIte,Nat.reduceEqDiff,Nat.reduceLT]
  done
 rintro⟨p,q,A1⟩ ⟨hr,hq⟩
 dsimp only at hr hq
 rcases q with _|⟨b,q⟩
 ·obtain rfl:A1=none:=by injection hq
  obtain rfl:r=p:=by rw[hr,List.append_nil]
  have e0:Ck []=0:=rfl
  simp (maxSteps:=10^6) only[e0,List.replicate_zero,push_cast,↓Int.cast_ofNat_Int,Int.cast_ofNat_Int,↓reduceIte,Nat.reduceEqDiff,Nat.reduceLT]
  done
 ·obtain⟨A2,A3,c,⟨g1,g2,g3,g4,g5,g6⟩,hc,hR,hq'⟩:=A4u hq
  have e1:=Wg b q
  have e2:=Acb
  have F:=F8.of (FV.no hR)
  have hrd:=F.rd
  have hrdo:=F.rdOk
  have ht:Ck r=(C3 p).length+(b.length+Ck q):=by rw[hr,←Wh,Acc,List.length_append,Wh,Wh,Wg];omega
  have j1:((b.length+Ck q:Nat):Int) - b.length=(Ck q:Int):=by omega
  push_cast at j1
  have j2:(Ck q:Int)≤(b.length:Int)+Ck q+(C3 p).length:=by omega
  have j3:(0:Int)≤Ck q:=by omega
  have j4:-9223372036854775808≤(Ck q:Int)∧(Ck q:Int)≤9223372036854775807:=by omega
  obtain⟨j5,j6⟩:=j4
  simp (maxSteps:=10^6) only[e1,g1,g2,g5,g6,j1,j5,j6,push_cast,↓reduceIte,reduceCtorEq,Nat.reduceEqDiff,Nat.reduceLT,Int.reduceNeg]
  (repeat (refine And.intro (by first|omega|decide) ?_))
  refine Aae 7 [(0,true),(1,true),(2,true),(3,true),(4,true),(5,true),(6,true)] (by kernel_rfl) (by kernel_rfl) ?_
  simp (maxSteps:=10^6) only[g1,g5,g6,j2,j3,push_cast,↓Int.toNat_natCast,↓reduceIte,reduceCtorEq,Nat.reduceEqDiff,Nat.reduceLT]
  refine⟨Int.le_refl _,?_⟩
  have m1:((b.length:Int)+(Ck q:Int)+((C3 p).length:Int)).toNat - Ck q=b.length+(C3 p).length:=by omega
  have m2:min b.length (b.length+(C3 p).length)=b.length:=by omega
  have m3:(List.replicate (b.length+Ck q) (0:UInt8)++C3 p).take (Ck q)=List.replicate (Ck q) 0:=by
   rw[List.take_append_of_le_length (by simp),List.take_replicate,Nat.min_eq_left (by omega)]
  have m4:(List.replicate (b.length+Ck q) (0:UInt8)++C3 p).drop (Ck q+b.length)=C3 p:=by
   rw[List.drop_append_of_le_length (by simp;omega),List.drop_of_length_le (by simp;omega),List.nil_append]
  rw[m1]
  refine Wf rfl rfl rfl (by simp only[Lx,Kg,Cont.lay,hrd,m2,m3,m4,Res.with,push_cast,↓reduceIte];exact⟨rfl,rfl,rfl⟩) ?_ (Aa rfl) (by simp only[push_cast,Nat.reduceLT]) ?_
  ·simp (maxSteps:=10^6) only[hrdo,push_cast]
   omega
  simp (maxSteps:=10^6) only[g1,g3,g4,Cg,push_cast,↓reduceIte,reduceCtorEq,Nat.reduceEqDiff,Nat.reduceLT]
  (repeat (refine And.intro (by first|omega|decide) ?_))
  refine Bd (p++[b],q,A2) [0] ⟨by rw[hr];simp,hq'⟩ (by show q.length < q.length+1;omega) ?_
  have e3:C3 (p++[b])=b++C3 p:=by rw[Acc];simp [C3]
  simp (maxSteps:=10^6) only[e3,push_cast,↓reduceIte,Nat.reduceEqDiff,Nat.reduceLT]
  done
section
variable {w0:World} {ow:Nat→Prop} {hp:List Res} {k0 k1:Nat} {r:List (List UInt8)}
theorem A4w (hn:Ck r≤1000000000) (hbr:∀r∈hp,Res.bnd hp.length r) (hk:B3 hp[k0]?=some (47,.c [.o k1,.v (.int .i64 (Ck r:Int))])) (h1:hp[k1]?=some (.abs (ChR 125 r))):
  Ad Tryd.prog w0 ow 10 [.x (.a (.p k0 0))] hp (.x (.a (.o hp.length))) (hp++[.own 5 (.u8 (C3 r))]):=Jz hbr trivial fun γ w hS=>by
 obtain⟨_,_,hc⟩:=hS.holds k1 _ h1
 have hc:ChW 125 r (nmS γ k1) (nmM γ k1) w:=hc
 obtain⟨A0,e0⟩:=hc.ptr
 have d0:=hS.cellv hk (i:=0) (by show 0 < 2;omega)
 have d1:=hS.cellv hk (i:=1) (by show 1 < 2;omega)
 have d0:w.cell? ⟨nmB γ k0,0,none⟩=some (nmS γ k1):=d0
 rw[e0] at d0 hc
 exact A4v hn (Two.of d0 d1) hc
end
end Go.Proofs.YtiaeollemmkclaaDoor
/- pack.Reader: how it stands, a number off it, and how many there are (layer 13). -/
namespace Go.Proofs.YtiaeollemmkclaaDoor
open Go.RowKit
set_option linter.unusedSimpArgs false
set_option linter.unusedVariables false
structure RS where
 A:Option Addr
 c:Nat
 l:List UInt8
 bad:Bool
def RS.cut (n:Nat) (s:RS):RS:=⟨Ch s.A n s.c,s.c - n,s.l.drop n,s.bad⟩
def RS.fail:RS:=⟨none,0,[],true⟩
def RS.rs (s:RS):Rs:=(s.l,s.bad)
structure RS.Ok (s:RS) (X:Nat→Prop) (w:World):Prop where
 len:s.l.length≤s.c
 max:s.l.length≤10000000
 fw:FW w X s.A (s.l.map vU8)
theorem RS.Ok.cut {s:RS} {X:Nat→Prop} {w:World} (h:s.Ok X w) (n:Nat):(s.cut n).Ok X w:=by
 have h1:=h.len
 have h2:=h.max
 refine⟨by simp [RS.cut];omega,by simp [RS.cut];omega,?_⟩
 have:=(Sub.drop s.A (s.l.map vU8) n s.c (by simpa using h1)).fw h.fw
 simpa [RS.cut] using this
theorem RS.Ok.fail {X:Nat→Prop} {w:World}:RS.fail.Ok X w:=⟨Nat.le_refl _,Nat.zero_le _,RdV.nil_,fun h=>absurd h (by simp [RS.fail])⟩
def numS (most:UInt64) (s:RS):UInt64×Bool×RS:=match B9 s.l with
 |some (v,n)=>if v≤most then (v,true,s.cut n) else (0,false,RS.fail)
 |none=>(0,false,RS.fail)
theorem Pi (most:UInt64) (s:RS):((numS most s).1,(numS most s).2.1,(numS most s).2.2.rs)=Ay most s.rs:=by
 unfold numS Ay RS.rs
 cases B9 s.l with
 |none=>rfl
 |some q=>simp only;split<;>rfl
theorem A4x {most:UInt64} {s:RS} (h:B9 s.l=none):numS most s=(0,false,RS.fail):=by unfold numS;rw[h]
theorem A4y {most v:UInt64} {n:Nat} {s:RS} (h:B9 s.l=some (v,n)):numS most s=if v≤most then (v,true,s.cut n) else (0,false,RS.fail):=by unfold numS;rw[h]
theorem Hh {most:UInt64} {s:RS} {X:Nat→Prop} {w:World} (h:s.Ok X w):(numS most s).2.2.Ok X w:=by
 unfold numS
 split
 ·split
  ·exact h.cut _
  ·exact RS.Ok.fail
 ·exact RS.Ok.fail
theorem A4z {l:List UInt8} {v:UInt64} {n:Nat} (h:B9 l=some (v,n)):n≤l.length:=by
 obtain⟨h1,h2⟩:=O3 h
 have:=congrArg List.length h2
 rw[List.length_append] at this
 omega
def RdG (f:FuncId) (args:List Sv) (sv:Sv) (s t:RS) (new:List Res) (X:Nat→Prop) (w:World):Prop:=∀(g:Nat) (γ:List Nm),Sat w X γ [.pin g 132 (.c [.v (.slice s.A s.l.length s.c),.v (.bool s.bad)])] w→
 Calls Tryd.prog f (List.map (Sv.val γ) (.x (.a (.p 0 0))::args)).toArray w fun e w'=>∃γ1,e=.returned (sv.val γ1)∧Sat w X γ1 (.pin g 132 (.c [.v (.slice t.A t.l.length t.c),.v (.bool t.bad)])::new) w'
def rdS (hp:List Res) (k0:Nat) (t:RS) (new:List Res):List Res:=
 Eo (hp.length+0) k0 (bput hp[k0]? 132 (.c [.v (.slice t.A t.l.length t.c),.v (.bool t.bad)])) (goneAll [k0] hp++(.pin 0 132 (.c [.v (.slice t.A t.l.length t.c),.v (.bool t.bad)])::new).map (Res.ren (A7 hp.length (new.length+1))))
def rdV (hp:List Res) (k0:Nat) (new:List Res) (sv:Sv):Sv:=(sv.ren (A7 hp.length (new.length+1))).ren (mvL (hp.length+0) k0 (hp.length+(new.length+1)))
section
variable {w0:World} {ow:Nat→Prop} {hp:List Res} {k0:Nat} {s t:RS} {f:FuncId} {args:List Sv} {sv:Sv} {new:List Res}
theorem S5 (hbr:∀r∈hp,Res.bnd hp.length r) (hk:B3 hp[k0]?=some (132,(.c [.v (.slice s.A s.l.length s.c),.v (.bool s.bad)]))) (hb1:∀r∈new,Res.bnd (new.length+1) r) (hsb:sv.bnd (new.length+1)) (ha:∀γ γ',List.map (Sv.val γ) args=List.map (Sv.val γ') args)
  (h:∀γ w,Sat w0 ow γ hp w→∀(X:Nat→Prop),(∀b,X b→∃(k:Nat) (r:Res),k∈[k0]∧hp[k]?=some r∧r.has γ k b)→RdG f args sv s t new X w):
  Ad Tryd.prog w0 ow f (.x (.a (.p k0 0))::args) hp (rdV hp k0 new sv) (rdS hp k0 t new):=by
 have:=Se (P:=Tryd.prog) (w0:=w0) (ow:=ow) (f:=f) (svs:=.x (.a (.p k0 0))::args) (hp:=hp) (sv1:=sv) [k0] 0 k0 (c:=(.c [.v (.slice s.A s.l.length s.c),.v (.bool s.bad)])) (c1:=(.c [.v (.slice t.A t.l.length t.c),.v (.bool t.bad)]))
  (fun g=>.pin g 132 (.c [.v (.slice t.A t.l.length t.c),.v (.bool t.bad)])::new) (by simp) hk (fun _=>rfl) (fun _=>rfl) hbr (fun _ r hr=>by
   rw[List.length_cons]
   rcases List.mem_cons.1 hr with rfl|hr
   ·simp only[push_cast]
   ·exact hb1 r hr) (by rw[List.length_cons];exact hsb)
  (fun g=>Sy (by rw[J9];rfl)) fun γ w hS=>by
  obtain⟨g1,g2,g3⟩:=hS.hand (k:=k0) (ρ:=[k0]) (hp0:=[.pin (nmB γ k0) 132 (.c [.v (.slice s.A s.l.length s.c),.v (.bool s.bad)])]) hk
   ⟨by rw[List.getElem?_set_self (by
      obtain⟨_,_,r0,hr0,_⟩:=hS.bv hk
      exact B8 hr0)];rfl,trivial⟩ ⟨trivial,trivial⟩ (by simp only[push_cast])
  refine⟨_,g2,?_⟩
  have:=h γ w hS _ g2 (nmB γ k0) _ g1
  rw[List.map_cons,g3 (.x (.a (.p 0 0))) (by show (0:Nat) < 1;omega),ha _ γ] at this
  exact this
 exact this
end
attribute [push_cast] rdS rdV
attribute [local irreducible] Af Ad Av Bh Bf A6 Aw A9
section
variable {X:Nat→Prop} {w:World} {s:RS}
set_option maxRecDepth 100000 in
theorem A40:RdG 69 [] (.t []) s RS.fail [] X w:=fun g γ hS=>by
 refine Cy (n:=8) Tryd.func69 rfl Tryd.ntmps69 _ hS (by simp) (.t []) _ ?_
 simp (maxSteps:=10^6) only[RS.fail,undef,push_cast,↓reduceIte,reduceCtorEq,Nat.reduceLT,Nat.reduceAdd]
 refine Bp [0] ?_
 simp (maxSteps:=10^6) only[push_cast,↓reduceIte]
end
theorem S6 {w0:World} {ow:Nat→Prop} {hp:List Res} {k0:Nat} {s:RS} (hbr:∀r∈hp,Res.bnd hp.length r) (hk:B3 hp[k0]?=some (132,(.c [.v (.slice s.A s.l.length s.c),.v (.bool s.bad)]))):
  Ad Tryd.prog w0 ow 69 [.x (.a (.p k0 0))] hp (rdV hp k0 [] (.t [])) (rdS hp k0 RS.fail []):=
 S5 (args:=[]) hbr hk (by simp only[push_cast]) (by simp only[push_cast]) (fun _ _=>rfl) fun γ w hS X hX=>A40
section
variable {X:Nat→Prop} {w:World} {s:RS}
set_option maxRecDepth 100000 in
theorem A41 (most:UInt64) (hs:s.Ok X w):RdG 65 [.x (.a (.v (vU64 most)))] (.t [.a (.v (vU64 (numS most s).1)),.a (.v (.bool (numS most s).2.1))]) s (numS most s).2.2 [] X w:=fun g γ hS=>by
 have hlen:=hs.len
 have hmax:=hs.max
 have hg:Ad Tryd.prog w X 111 [.x (.a (.v (.slice s.A s.l.length s.c)))] [.pin g 132 (.c [.v (.slice s.A s.l.length s.c),.v (.bool s.bad)])] (.t (Gy s.l)) [.pin g 132 (.c [.v (.slice s.A s.l.length s.c),.v (.bool s.bad)])]:=A4n s.l (Acd hs.fw _ _ (by simp) hlen)
 generalize hq:numS most s=q
 refine Cy (n:=39) Tryd.func65 rfl Tryd.ntmps65 _ hS (by simp) _ _ ?_
 simp (maxSteps:=10^6) only[undef,push_cast,↓reduceIte,reduceCtorEq,Nat.reduceLT,Nat.reduceAdd]
 (repeat (refine And.intro (by first|omega|decide) ?_))
 refine A8 rfl Azs rfl hg (Aa rfl) ?_
 cases hv:B9 s.l with
 |none=>
  rw[A4x hv] at hq
  subst hq
  rw[S1 hv]
  simp (maxSteps:=10^6) only[undef,push_cast,↓reduceIte,reduceCtorEq,Nat.reduceEqDiff,Nat.reduceLT]
  (repeat (refine And.intro (by first|omega|decide) ?_))
  refine Bk rfl R9 rfl (S6 (k0:=0) (s:=s) (by simp only[push_cast]) rfl) (Aa rfl) (fun _=>by simp only[push_cast,Nat.reduceLT]) ?_
  simp (maxSteps:=10^6) only[Acl,push_cast,↓reduceIte,Nat.reduceEqDiff,Nat.reduceLT,Nat.reduceAdd]
  refine Bp [0] ?_
  simp (maxSteps:=10^6) only[push_cast,↓reduceIte]
 |some p=>
  obtain⟨v,k⟩:=p
  have hk:=A4z hv
  have hdl:(s.l.drop k).length=s.l.length - k:=List.length_drop ..
  rw[A4y hv] at hq
  rw[Wk hv]
  by_cases hm:v≤most
  ·rw[if_pos hm] at hq
   subst hq
   have hm2:¬most < v:=UInt64.not_lt.2 hm
   have k1:(k:Int)≤s.l.length:=by omega
   have k2:(s.l.length:Int)≤s.c:=by omega
   have k3:(k:Int)≤s.c:=by omega
   have k4:(0:Int)≤k:=by omega
   simp (maxSteps:=10^6) only[hm2,k1,k2,k4,undef,push_cast,↓Int.toNat_natCast,↓reduceIte,reduceCtorEq,Nat.reduceEqDiff,Nat.reduceLT,Nat.reduceAdd]
   refine Bp [0] ?_
   simp (maxSteps:=10^6) only[RS.cut,hdl,push_cast,↓reduceIte]
  ·rw[if_neg hm] at hq
   subst hq
   have hm2:most < v:=UInt64.not_le.1 hm
   simp (maxSteps:=10^6) only[hm2,push_cast,↓reduceIte,reduceCtorEq,Nat.reduceEqDiff,Nat.reduceLT]
   (repeat (refine And.intro (by first|omega|decide) ?_))
   refine Bk rfl R9 rfl (S6 (k0:=0) (s:=s) (by simp only[push_cast]) rfl) (Aa rfl) (fun _=>by simp only[push_cast,Nat.reduceLT]) ?_
   simp (maxSteps:=10^6) only[Acl,push_cast,↓reduceIte,Nat.reduceEqDiff,Nat.reduceLT,Nat.reduceAdd]
   refine Bp [0] ?_
   simp (maxSteps:=10^6) only[push_cast,↓reduceIte]
end
end Go.Proofs.YtiaeollemmkclaaDoor
/- pack.Reader: count, Num, Nums (layer 13). -/
namespace Go.Proofs.YtiaeollemmkclaaDoor
open Go.RowKit
set_option linter.unusedSimpArgs false
set_option linter.unusedVariables false
def cntS (many:Int) (each:Nat) (s:RS):Nat×Bool×RS:=
 if (numS (Ai many) s).2.1=true then
  (if (numS (Ai many) s).1.toNat≤(numS (Ai many) s).2.2.l.length / each then ((numS (Ai many) s).1.toNat,true,(numS (Ai many) s).2.2) else (0,false,RS.fail))
 else (0,false,RS.fail)
theorem Acn (many:Int) (each:Nat) (s:RS):((cntS many each s).1,(cntS many each s).2.1,(cntS many each s).2.2.rs)=Bv many each s.rs:=by
 have h:=Pi (Ai many) s
 have h1:=congrArg Prod.fst h
 have h2:=congrArg (fun x=>x.2.1) h
 have h3:=congrArg (fun x=>x.2.2) h
 dsimp only at h1 h2 h3
 unfold cntS Bv
 rw[←h1,←h2,←h3]
 split
 ·show (_:Nat×Bool×Rs)=if _≤(numS (Ai many) s).2.2.l.length / each then _ else _
  split<;>rfl
 ·rfl
theorem Aco {most:UInt64} {s:RS} (h:¬(numS most s).2.1=true):numS most s=(0,false,RS.fail):=by
 unfold numS at h ⊢
 split
 ·rename_i v n e
  rw[e] at h
  simp only at h
  split
  ·rename_i hm
   rw[if_pos hm] at h
   exact absurd rfl h
  ·rfl
 ·rfl
theorem Pj {many:Int} {each:Nat} {s:RS} {X:Nat→Prop} {w:World} (h:s.Ok X w):(cntS many each s).2.2.Ok X w:=by
 unfold cntS
 split
 ·split
  ·exact Hh h
  ·exact RS.Ok.fail
 ·exact RS.Ok.fail
theorem Acp {many:Int} {each:Nat} {s:RS} (h:(cntS many each s).2.1=true):(cntS many each s).1≤(cntS many each s).2.2.l.length / each:=by
 unfold cntS at h ⊢
 split
 ·split
  ·rename_i h2;exact h2
  ·rename_i h1 h2
   rw[if_pos h1,if_neg h2] at h
   cases h
 ·rename_i h1
  rw[if_neg h1] at h
  cases h
theorem Acq {many:Int} {each:Nat} {s:RS} (h:¬(cntS many each s).2.1=true):cntS many each s=(0,false,RS.fail):=by
 unfold cntS at h ⊢
 split
 ·split
  ·rename_i h1 h2
   rw[if_pos h1,if_pos h2] at h
   exact absurd rfl h
  ·rfl
 ·rfl
attribute [local irreducible] Af Ad Av Bh Bf A6 Aw A9
section
variable {w0:World} {ow:Nat→Prop} {hp:List Res} {k0:Nat} {s:RS}
def RS.Far (s:RS) (w0:World) (ow:Nat→Prop) (hp:List Res) (k0:Nat):Prop:=∀γ w,Sat w0 ow γ hp w→∀X:Nat→Prop,(∀b,X b→∃(k:Nat) (r:Res),k∈[k0]∧hp[k]?=some r∧r.has γ k b)→s.Ok X w
theorem Wm (most:UInt64) (hbr:∀r∈hp,Res.bnd hp.length r) (hk:B3 hp[k0]?=some (132,(.c [.v (.slice s.A s.l.length s.c),.v (.bool s.bad)]))) (hs:s.Far w0 ow hp k0):
  Ad Tryd.prog w0 ow 65 [.x (.a (.p k0 0)),.x (.a (.v (vU64 most)))] hp (rdV hp k0 [] (.t [.a (.v (vU64 (numS most s).1)),.a (.v (.bool (numS most s).2.1))])) (rdS hp k0 (numS most s).2.2 []):=
 S5 (args:=[.x (.a (.v (vU64 most)))]) hbr hk (by simp only[push_cast]) (by simp only[push_cast]) (fun _ _=>rfl) fun γ w hS X hX=>A41 most (hs γ w hS X hX)
end
theorem Fk {X:Nat→Prop} {γ:List Nm} {w:World} {hp:List Res} {g:Nat} {t:TypeId} {c:Cont} (hS:Sat w X γ hp w) (h0:hp[0]?=some (.pin g t c)):X g:=by
 have h1:=hS.holds 0 _ h0
 obtain⟨h2,h3⟩:=hS.mine 0 _ g h0 (by show some (nmB γ 0)=some g;rw[h1.2.1])
 rcases h2 with h|h
 ·exact h
 ·exact absurd h3 (Nat.not_lt.2 h)
theorem Fl {s:RS} {X:Nat→Prop} {w:World} {hp:List Res} {g:Nat} {c:Cont} {t:TypeId} (hs:s.Ok X w) (h0:hp[0]?=some (.pin g t c)) (hXg:X g):s.Far w X hp 0:=fun γ w' hS Y hY=>by
 refine⟨hs.len,hs.max,?_⟩
 have hb:∀b,Y b→X b:=fun b hb=>by
  obtain⟨k,r,hk,hr,h⟩:=hY b hb
  obtain rfl:k=0:=by simpa using hk
  rw[h0] at hr
  cases hr
  have h:some (nmB γ 0)=some b:=h
  injection h with h
  have e:nmB γ 0=g:=(hS.holds 0 _ h0).2.1
  rw[←h,e]
  exact hXg
 refine⟨fun hp=>?_,fun hp a ha hy=>hs.fw.far hp a ha (hb _ hy)⟩
 obtain⟨b,off,h1,h2,h3⟩:=hs.fw.rd hp
 have hno:=hs.fw.far hp _ h1
 exact⟨b,off,h1,Nat.lt_of_lt_of_le h2 hS.keeps.size,fun j u hu=>(World.cell?_of_block (hS.keeps.block b h2 hno)).trans (h3 j u hu)⟩
section
variable {X:Nat→Prop} {w:World} {s:RS}
set_option maxRecDepth 100000 in
theorem Acr (many:Int) (each:Nat) (h0:0 < each) (he:each≤100) (hm:-9223372036854775808≤many∧many≤9223372036854775807) (hs:s.Ok X w):RdG 66 [.x (.a (.v (.int .i64 many))),.x (.a (.v (.int .i64 each)))] (.t [.a (.v (.int .i64 (cntS many each s).1)),.a (.v (.bool (cntS many each s).2.1))]) s (cntS many each s).2.2 [] X w:=fun g γ hS=>by
 have hXg:=Fk hS rfl
 have hmx:(if many < 0 then 0 else many)=(((max many 0).toNat:Nat):Int):=by split<;>omega
 have hmu:UInt64.ofInt (((max many 0).toNat:Nat):Int)=Ai many:=S3 _
 have hq1:=Hh (most:=Ai many) hs
 have hcs:cntS many each s=cntS many each s:=rfl
 refine Cy (n:=34) Tryd.func66 rfl Tryd.ntmps66 _ hS (by simp) _ _ ?_
 generalize hq:cntS many each s=q
 unfold cntS at hq
 simp (maxSteps:=10^6) only[hmx,hmu,push_cast,↓reduceIte,reduceCtorEq,Nat.reduceEqDiff,Nat.reduceLT,Nat.reduceAdd]
 (repeat (refine And.intro (by first|omega|decide) ?_))
 refine Bk rfl Vl rfl (Wm (k0:=0) (s:=s) (Ai many) (by simp only[push_cast]) rfl (Fl hs rfl hXg)) (Aa rfl) (fun _=>by simp only[push_cast,Nat.reduceLT]) ?_
 have hfl:=@Aco (Ai many) s
 generalize numS (Ai many) s=t at*
 obtain⟨v,ok,t⟩:=t
 dsimp only at hq hq1 hfl
 cases ok with
 |false=>
  have hfl:=hfl (by decide)
  injection hfl with _ h2
  injection h2 with _ h2
  subst h2
  rw[if_neg (by decide)] at hq
  subst hq
  simp (maxSteps:=10^6) only[push_cast,↓Int.cast_ofNat_Int,Int.cast_ofNat_Int,↓reduceIte,Nat.reduceEqDiff,Nat.reduceLT,Nat.reduceAdd]
  refine Bp [0] ?_
  simp (maxSteps:=10^6) only[push_cast,↓reduceIte]
 |true=>
  rw[if_pos rfl] at hq
  have hlen:=hq1.len
  have hmax:=hq1.max
  have d1:((t.l.length:Int)).tdiv each=((t.l.length / each:Nat):Int):=by
   rw[Int.tdiv_eq_ediv_of_nonneg (by omega)]
   exact (Int.natCast_ediv ..).symm
  have d3:t.l.length / each≤t.l.length:=Nat.div_le_self ..
  generalize t.l.length / each=D at hq d1 d3
  have d2:=S3 D
  have d4:(UInt64.ofNat D).toNat=D:=by rw[UInt64.toNat_ofNat'];omega
  have d5:¬(each:Int)=0:=by omega
  have d6:-9223372036854775808≤(D:Int)∧(D:Int)≤9223372036854775807:=by omega
  obtain⟨d7,d8⟩:=d6
  by_cases hv:v.toNat≤D
  ·rw[if_pos hv] at hq
   subst hq
   have g1:¬UInt64.ofNat D < v:=by rw[UInt64.lt_iff_toNat_lt,d4];omega
   have g2:n64 v=(v.toNat:Int):=rfl
   have g3:-9223372036854775808≤n64 v∧n64 v≤9223372036854775807:=by rw[g2];omega
   obtain⟨g4,g5⟩:=g3
   simp (maxSteps:=10^6) only[d1,d2,d5,d7,d8,g1,g4,g5,undef,push_cast,↓reduceIte,reduceCtorEq,Nat.reduceEqDiff,Nat.reduceLT,Nat.reduceAdd,Int.reduceNeg]
   refine Bp [0] ?_
   simp (maxSteps:=10^6) only[g2,push_cast,↓reduceIte]
  ·rw[if_neg hv] at hq
   subst hq
   have g1:UInt64.ofNat D < v:=by rw[UInt64.lt_iff_toNat_lt,d4];omega
   simp (maxSteps:=10^6) only[d1,d2,d5,d7,d8,g1,undef,push_cast,↓Int.cast_ofNat_Int,Int.cast_ofNat_Int,↓reduceIte,reduceCtorEq,Nat.reduceEqDiff,Nat.reduceLT,Nat.reduceAdd,Int.reduceNeg]
   (repeat (refine And.intro (by first|omega|decide) ?_))
   refine Bk rfl R9 rfl (S6 (k0:=0) (s:=t) (by simp only[push_cast,Nat.reduceAdd]) rfl) (Aa rfl) (fun _=>by simp only[push_cast,Nat.reduceLT,Nat.reduceAdd]) ?_
   simp (maxSteps:=10^6) only[push_cast,↓reduceIte,Nat.reduceEqDiff,Nat.reduceLT,Nat.reduceAdd]
   refine Bp [0] ?_
   simp (maxSteps:=10^6) only[push_cast,↓reduceIte]
end
end Go.Proofs.YtiaeollemmkclaaDoor
