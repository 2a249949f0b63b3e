import Derived.Test.YtedaafmfjhjfmaaGreatDoorLs3
/- Law 28: LeafSums. -/
namespace Go.Proofs.YtedaafmfjhjfmaaGreatDoor
open Go.RowKit
set_option linter.unusedSimpArgs false
set_option linter.unusedVariables false
theorem A85 (s:LfS) (m:MgS):(s.hear m).1.dim=s.dim:=by
 have on_:∀s:LfS,s.on.1.dim=s.dim:=fun s=>by
  unfold LfS.on LfS.roster LfS.box LfS.tell LfS.wait
  repeat' split
  all_goals rfl
 have came_:(s.cameS m).dim=s.dim:=by
  unfold LfS.cameS
  repeat' split
  all_goals rfl
 unfold LfS.hear
 repeat' split
 all_goals first|rfl|exact (on_ _).trans came_
theorem A86 (s:LfS):s.tick.1.dim=s.dim:=by
 unfold LfS.tick LfS.on LfS.roster LfS.box LfS.tell LfS.wait
 repeat' split
 all_goals rfl
theorem MOk.mgF {Fs:List Fct} {m:MgR} {w:World} {B:Nat→Prop} (h:MOk Fs m) (hk:Known w B Fs):MgF m w B:=
 ⟨h.few,hk.fw h.ids (fun e=>by rw[e];rfl),hk.fw h.ns (fun e=>by rw[e];rfl),hk.fw h.ps (fun e=>by rw[e];rfl),hk.fw h.xs (fun e=>by rw[e];rfl)⟩
theorem Adn {α:Type} (a:Nat) (R:List (Int×SlV α)):Res.av a (.mp .i64 (slE R))=True:=eq_true fun p hp=>by
 unfold slE Bn at hp
 obtain⟨q,_,rfl⟩:=List.mem_map.1 hp
 trivial
theorem Ado (R:List (Int×List UInt32)) (a:Int):∀(l:List Int) (z:List UInt32),Ky R (l++[a]) z=Im (Ky R l z) ((Aq R a).getD [])
 |[],_=>rfl
 |_::l,z=>Ado R a l _
def Gm (R:List (Int×List UInt32)) (ids:List Int) (d n:Nat):List UInt32:=Ky R (ids.take n) (List.replicate d 0)
theorem Adp (R:List (Int×List UInt32)) (ids:List Int) (d:Nat):Gm R ids d 0=List.replicate d 0:=rfl
theorem Adq {R:List (Int×List UInt32)} {ids:List Int} {d n:Nat} {x:List UInt32} (h:n < ids.length) (hx:Aq R (ix ids n)=some x):Gm R ids d (n+1)=Im (Gm R ids d n) x:=by
 unfold Gm
 have e:ids[n]=ix ids n:=by
  unfold ix
  rw[List.getD_eq_getElem?_getD,List.getElem?_eq_getElem h]
  rfl
 rw[List.take_add_one,List.getElem?_eq_getElem h,Option.toList_some,Ado,e,hx]
 rfl
theorem Wx {R:List (Int×List UInt32)} {ids:List Int} {d:Nat} (h:∀x∈ids,∃r,Aq R x=some r∧r.length=d):∀n,n≤ids.length→(Gm R ids d n).length=d
 |0,_=>by rw[Adp,List.length_replicate]
 |n+1,hn=>by
  obtain⟨r,h1,h2⟩:=h _ (Fh (l:=ids) (i:=n) (by omega))
  rw[Adq (by omega) h1,A2e (by rw[Wx h n (by omega),h2]),Wx h n (by omega)]
def Ix (m:MgR):Option MgS:=if m.k=0 then none else some m.mg
structure OX where
 i:Nat
 r:LfR
 F:List Fct
 R:List (Int×SlV UInt32)
 tr:MgR
structure OInv (n:Nat) (dim:Int) (x:OX):Prop where
 i:x.i≤n
 all:LfAll x.F x.r
 rows:∀p∈x.R,SlF x.F p.2 (p.2.l.map Ak)
 inv:LfInv x.r.s (Bn SlV.l x.R) (Ix x.tr)
 tok:MOk x.F x.tr
 dim:x.r.dim=dim
def A87 (x:OX) (out:SlV SnR):Prop:=OutOk x.F out∧∀o∈out.l.map SnR.s,o.m.k=6→o.c=false∧x.r.s.phase=3∧o.m=x.r.s.sum
def jF (A:Option Addr) (cap:Nat) (l:List MgR) (c:CfR) (g:Nat) (x:OX) (out:SlV SnR):S:=⟨[(2,.x (.a (.v (.slice A l.length cap)))),(3,.x (.a (.p 5 0))),(7,.x (.a (.p 0 0))),(9,.x (.a (.o 6))),(10,.x (.a (.p 7 0))),(11,.x (.a (.v (.int .i64 (x.i:Nat))))),(14,.x (.a (.v out.val))),(16,.x (.a (.v (.int .i64 0))))],[.pin g 104 (.c (.v (.int .i64 x.r.place):: .v (.int .i64 x.r.gen):: .v (.int .i64 x.r.dim):: .v (.int .i64 x.r.term):: .v (.int .i64 x.r.need):: .v (.int .i64 x.r.parent):: .v x.r.above.val:: .v x.r.group.val:: .v (.int .i64 x.r.phase):: .v x.r.waits.val:: .p 1 0:: .v x.r.joined.val:: .o 2:: .o 3:: .o 4::mgA x.r.sum)),.blk 170 (.c (tlA x.r.ty)),.mp .i64 (puE x.r.pub),bxR x.r,.mp .i64 (slE x.r.rows),.blk 25 (.c [.v (.int .i64 c.dim),.v (.slice c.ps.A c.ps.l.length c.ps.c),.v (.slice c.gs.A c.gs.l.length c.gs.c),.v (.int .i64 c.least),.v (.int .i64 c.term)]),.mp .i64 (slE x.R),.blk 48 (.c (mgA x.tr)),.abs (Aa x.F)]⟩
theorem LfAll.hear {Fs Gs:List Fct} {r r1:LfR} {m:MgS} {R:List (Int×List UInt32)} {told:Option MgS} (h:LfAll Fs r) (hi:LfInv r.s R told) (e:r1.s=(r.s.hear m).1) (ok:LfOk Gs r1) (hl:r1.phase < 2→r1.live=true):LfAll Gs r1:=
 ⟨ok,by rw[e];exact N3 hi h.bx m,hl,by
  have:r1.term=r.term:=by
   have e1:r1.s.term=r.s.term:=by rw[e];exact Ow _ _
   exact e1
  rw[this]
  exact h.term⟩
theorem LfAll.tick {Fs Gs:List Fct} {r r1:LfR} {R:List (Int×List UInt32)} {told:Option MgS} (h:LfAll Fs r) (hi:LfInv r.s R told) (e:r1.s=r.s.tick.1) (ok:LfOk Gs r1) (hl:r1.phase < 2→r1.live=true):LfAll Gs r1:=
 ⟨ok,by rw[e];exact A4y h.bx,hl,by
  have:r1.term=r.term:=by
   have e1:r1.s.term=r.s.term:=by rw[e];exact A83 _
   exact e1
  rw[this]
  exact h.term⟩
attribute [local irreducible] Ah Ai Am Bc A7 Ay Ap A6
attribute [local irreducible] A8 okV Bj erV Tal.can Tal.st Bz Cd cfF tcF isP ofP abF Kv Cs Cb Eo Iw Jw
set_option maxRecDepth 100000 in
set_option maxHeartbeats 4000000 in
theorem A88 (c:CfR) (p gen:Int) (A:Option Addr) (cap:Nat) (l:List MgR) (w:World) (hgd:Handle w) (hc:c.Wide w) (hcap:l.length≤cap) (hR:RdV w w.heap.size A (l.flatMap mgV)) (hl:∀m∈l,m.Wide w):
  Calls Tryz.prog 3 #[.agg (cfV c).toArray,.agg #[.int .i64 p,.int .i64 gen],.slice A l.length cap] w fun e w'=>e=.returned (.bool true)∧Below w.heap.size w w':=by
 refine Bm (n:=201) Tryz.func3 rfl Tryz.ntmps3 [.x (.g [.v (.int .i64 c.dim),.v (.slice c.ps.A c.ps.l.length c.ps.c),.v (.slice c.gs.A c.gs.l.length c.gs.c),.v (.int .i64 c.least),.v (.int .i64 c.term)]),.x (.g [.v (.int .i64 p),.v (.int .i64 gen)]),.x (.a (.v (.slice A l.length cap)))] (by simp) (.x (.a (.v (.bool true)))) (fun _=>rfl) ?_
 simp (maxSteps:=10^6) only[push_cast,↓reduceIte,reduceCtorEq,Nat.reduceEqDiff,Nat.reduceLT,Nat.reduceAdd]
 (repeat (refine And.intro (by first|omega|decide) ?_))
 refine Al rfl cb7 rfl (A78 c hc) (Ae rfl) ?_
 by_cases hb:Iw c.cf=true
 ·rw[hb]
  simp (maxSteps:=10^6) only[push_cast,↓reduceIte]
  (repeat (refine And.intro (by first|omega|decide) ?_))
  refine Al rfl cb8 rfl (S9 hgd) (Ae rfl) ?_
  simp (maxSteps:=10^6) only[push_cast,↓reduceIte,Nat.reduceLT,Nat.reduceAdd]
  done
 have hb:Iw c.cf=false:=by simpa using hb
 rw[hb]
 simp (maxSteps:=10^6) only[push_cast,↓reduceIte]
 refine Cc [(0,true),(2,true),(3,true),(4,true),(5,true),(1,false),(6,false),(7,true),(8,true),(9,true),(10,true),(11,true)] (by kernel_rfl) (by kernel_rfl) rfl (by kernel_rfl) ?_
 simp (maxSteps:=10^6) only[undef,push_cast,↓Int.cast_ofNat_Int,Int.cast_ofNat_Int,↓reduceIte,Nat.reduceEqDiff,Nat.reduceLT,Nat.reduceAdd,Int.reduceLE,Int.reduceLT,Int.reduceToNat]
 (repeat (refine And.intro (by first|omega|decide) ?_))
 obtain⟨bp,bg,bi⟩:=A74 hb
 refine Uh rfl Aw4 rfl (A76 c hc (by simp (maxSteps:=10^6) only[push_cast,Nat.reduceAdd])) (Ae rfl) (fun _=>by simp (maxSteps:=10^6) only[push_cast,Nat.reduceLT,Nat.reduceAdd]) (List.take_left' rfl) ?_
 simp (maxSteps:=10^6) only[push_cast,↓reduceIte,Nat.reduceAdd]
 (repeat (refine And.intro (by first|omega|decide) ?_))
 have hcf:∀{hp:List Res},hp[2]?=some (.onn 98 3 (.c (vC (c.ps.l.flatMap plV))))→hp[3]?=some (.abs (Fj (c.gs.l.map GrR.gr)))→Jq w hp (.x (.g [.v (.int .i64 c.dim),.o 2,.o 3,.v (.int .i64 c.least),.v (.int .i64 c.term)])) c.cf:=fun h1 h2=>A73 h1 h2 (by have:c.ps.l.length≤30:=bp;omega) (by have:(c.gs.l.map GrR.gr).length≤30:=bg;omega) (fun g hg=>by have:=bi g hg;omega)
 have ev:=B5 (n:=1) (by decide)
 by_cases hn:Eo c.cf p gen=true
 case neg=>
  have hn:Eo c.cf p gen=false:=by simpa using hn
  refine Kh rfl cb9 rfl (Add p gen (hcf rfl rfl) hn) (Ae rfl) ?_
  simp (maxSteps:=10^6) only[ev,undef,push_cast,↓reduceIte,Nat.reduceEqDiff,Nat.reduceLT,Nat.reduceAdd]
  (repeat (refine And.intro (by first|omega|decide) ?_))
  refine Al rfl cb8 rfl (S9 hgd) (Ae rfl) ?_
  simp (maxSteps:=10^6) only[push_cast,↓reduceIte,Nat.reduceLT,Nat.reduceAdd]
  done
 refine A8m (ι:=Nat×LfR×List Fct) (Me c.cf p gen) (fun _=>.t [.a (.p 4 0),.a (.v .nilIface)]) (fun x=>(lfB x.1 x.2.1++[Res.abs (Aa x.2.2)]).map (Res.ren (Ca 4 6))) rfl cb9 rfl (fun γ' w' hS'=>Adc (hp:=[.blk 25 (.c [.v (.int .i64 c.dim),.v (.slice c.ps.A c.ps.l.length c.ps.c),.v (.slice c.gs.A c.gs.l.length c.gs.c),.v (.int .i64 c.least),.v (.int .i64 c.term)]),.blk 26 (.c [.v (.int .i64 p),.v (.int .i64 gen)]),.onn 98 3 (.c (vC (c.ps.l.flatMap plV))),.abs (Fj (c.gs.l.map GrR.gr))]) p gen (hcf rfl rfl) hn (by omega) (fun g hg=>by have:=bi g hg;omega) (by simp (maxSteps:=10^6) only[push_cast,Nat.reduceAdd]) γ' w' hS') (Ae rfl) (by simp (maxSteps:=10^6) only[push_cast,Nat.reduceLT,Nat.reduceAdd]) ?_
 rintro⟨g,r,F2⟩ ⟨s1,s2,s3⟩
 dsimp only at s1 s2 s3
 have gl:=Aw s3.sum.s
 unfold lfB lfA
 obtain⟨cd0,cd1⟩:=(Rq (Sx hn).1 (g:=ix c.cf.groups (Cb c.cf p).toNat) (Fh (by have:=Sx hn;omega))).1
 have cd0:¬c.dim < 0:=by have:1≤c.dim:=cd0;omega
 have cd1:¬32 < c.dim:=by have:c.dim≤32:=cd1;omega
 simp (maxSteps:=10^6) only[Ca,rn,cd0,cd1,Bl,Bp,Bw,Bu,undef,↓Ag,↓Az,↓List.forall_mem_cons,↓Ad,↓Co,↓Af,↓Ax,Au,↓Bg,push_cast,↓reduceIte,reduceCtorEq,Nat.reduceEqDiff,Nat.reduceLT,Nat.reduceAdd]
 have eD:r.dim=c.dim:=by
  have:r.s.dim=c.cf.dim:=by rw[s1];rfl
  exact this
 have hni:=Ada hn (ix c.cf.places p.toNat).parent (ofP c.cf p (abF c.cf.places p.toNat))
 have hx0:OInv l.length c.dim ⟨0,r,F2,[],zeroR⟩:=⟨Nat.zero_le _,⟨s3,by rw[s1];exact hni.2.1,fun _=>s2,by
  have:r.s.term=c.cf.term:=by rw[s1];rfl
  have:r.term=c.cf.term:=this
  rw[this]
  exact hni.2.2⟩,fun p hp=>(by cases hp),by rw[s1];exact hni.1,⟨rfl,.inl rfl,.inl rfl,.inl rfl,.inl rfl,⟨rfl,Nat.zero_le _,Nat.zero_le _,Nat.zero_le _,Nat.zero_le _⟩⟩,eD⟩
 have F:=FLw.of (ow:=No) (fun x hx=>Ov (hl x hx).s) (by decide) ⟨hR,fun _ _ _ h=>h⟩
 refine B9 (ι:=OX) (fun x=>⟨[(2,.x (.a (.v (.slice A l.length cap)))),(3,.x (.a (.p 5 0))),(7,.x (.a (.p 0 0))),(9,.x (.a (.o 6))),(10,.x (.a (.p 7 0))),(11,.x (.a (.v (.int .i64 (x.i:Nat)))))],[.pin g 104 (.c (.v (.int .i64 x.r.place):: .v (.int .i64 x.r.gen):: .v (.int .i64 x.r.dim):: .v (.int .i64 x.r.term):: .v (.int .i64 x.r.need):: .v (.int .i64 x.r.parent):: .v x.r.above.val:: .v x.r.group.val:: .v (.int .i64 x.r.phase):: .v x.r.waits.val:: .p 1 0:: .v x.r.joined.val:: .o 2:: .o 3:: .o 4::mgA x.r.sum)),.blk 170 (.c (tlA x.r.ty)),.mp .i64 (puE x.r.pub),bxR x.r,.mp .i64 (slE x.r.rows),.blk 25 (.c [.v (.int .i64 c.dim),.v (.slice c.ps.A c.ps.l.length c.ps.c),.v (.slice c.gs.A c.gs.l.length c.gs.c),.v (.int .i64 c.least),.v (.int .i64 c.term)]),.mp .i64 (slE x.R),.blk 48 (.c (mgA x.tr)),.abs (Aa x.F)]⟩) (OInv l.length c.dim) (fun x=>l.length - x.i) ⟨0,r,F2,[],zeroR⟩ [4,5,6,7,8,0,10,11,9] hx0 ?_ ?_
 ·have e:slE ([]:List (Int×SlV UInt32))=[]:=rfl
  simp (maxSteps:=10^6) only[e,↓Ag,↓Az,↓List.forall_mem_cons,↓Ad,↓Af,↓Ax,Au,↓A5,↓Bh,push_cast,↓Int.cast_ofNat_Int,Int.cast_ofNat_Int,↓reduceIte,reduceCtorEq,Nat.reduceEqDiff,Nat.reduceLT,Nat.reduceAdd]
 clear hx0 hni s1 s2 s3 gl eD
 rintro⟨i,r,Fs,R,tr⟩ hx
 have hxi:i≤l.length:=hx.i
 have all:=hx.all
 have hI:=hx.inv
 have tok:=hx.tok
 dsimp only at all hI tok ⊢
 have gl:=Aw all.ok.sum.s
 have gt:=Aw tok.s
 by_cases hlt:(i:Int) < l.length
 case neg=>
  simp (maxSteps:=10^6) only[hlt,undef,push_cast,↓reduceIte,Nat.reduceEqDiff,Nat.reduceLT,Nat.reduceAdd]
  (repeat (refine And.intro (by first|omega|decide) ?_))
  refine Al rfl cb8 rfl (S9 hgd) (Ae rfl) ?_
  simp (maxSteps:=10^6) only[push_cast,↓reduceIte,Nat.reduceLT,Nat.reduceAdd]
  done
 by_cases h60:(i:Int) < 60
 case neg=>
  simp (maxSteps:=10^6) only[hlt,h60,push_cast,↓reduceIte,Nat.reduceEqDiff,Nat.reduceLT,Nat.reduceAdd]
  (repeat (refine And.intro (by first|omega|decide) ?_))
  refine Al rfl cb8 rfl (S9 hgd) (Ae rfl) ?_
  simp (maxSteps:=10^6) only[push_cast,↓reduceIte,Nat.reduceLT,Nat.reduceAdd]
  done
 have hil:i < l.length:=by omega
 have i0:(0:Int)≤i:=by omega
 have nx:(i:Int)+1≤9223372036854775807:=by omega
 have nx0:-9223372036854775808≤(i:Int)+1:=by omega
 have hA:=F.some_ (by omega)
 have hm0:=hl _ (Fh hil)
 obtain⟨w1,w2⟩:=F.whole hil hm0.s
 obtain⟨c0,o0⟩:=F.cell i 0 _ hil rfl
 rw[Nat.add_zero] at c0 o0
 have o0:=eq_true o0
 obtain⟨m0,em0⟩:∃m0,m0=ix l i:=⟨_,rfl⟩
 rw[←em0] at hm0 w1 c0
 clear em0
 simp (maxSteps:=10^6) only[hlt,h60,i0,hA,w1,w2,By,push_cast,↓Int.toNat_natCast,↓reduceIte,reduceCtorEq,Nat.reduceEqDiff,Nat.reduceLT,Nat.reduceAdd]
 (repeat (refine And.intro (by first|omega|decide) ?_))
 refine Al rfl Aw5 rfl (A8c hm0) (Ae rfl) ?_
 cases hbn:Jw m0.mg with
 |true=>
  simp (maxSteps:=10^6) only[nx,nx0,push_cast,↓reduceIte,Nat.reduceEqDiff,Nat.reduceLT,Nat.reduceAdd,Int.reduceNeg]
  refine Bv (OX.mk (i+1) r Fs R tr) [0,1,2,3,4,5,6,7,8] (show OInv l.length c.dim _ from ⟨by show i+1≤l.length;omega,hx.all,hx.rows,hx.inv,hx.tok,hx.dim⟩) (by show l.length - (i+1) < l.length - i;omega) ?_
  simp (maxSteps:=10^6) only[↓Ag,↓Az,↓List.forall_mem_cons,↓Ad,↓Af,↓Ax,Au,↓A5,↓Bh,push_cast,↓reduceIte,reduceCtorEq,Nat.reduceEqDiff,Nat.reduceLT,Nat.reduceAdd]
  done
 |false=>
 have mok:=hm0.ok hbn
 simp (maxSteps:=10^6) only[hlt,i0,hA,w1,w2,By,push_cast,↓Int.toNat_natCast,↓reduceIte,reduceCtorEq,Nat.reduceEqDiff,Nat.reduceLT,Nat.reduceAdd]
 (repeat (refine And.intro (by first|omega|decide) ?_))
 refine Fk (ι:=MgR×List Fct) (fun x=>x.1.mg=m0.mg∧MOk x.2 x.1) (fun x=>.x (.g (mgA x.1))) (fun x=>x.2) 8 rfl rfl Aw6 rfl (fun γ' w' hS'=>?_) (fun x γ=>by rw[C4,C4]) (Ae rfl) (by simp (maxSteps:=10^6) only[↓Ag,↓List.forall_mem_cons,↓Ad,↓Af,↓A5,↓Bg,push_cast,Nat.reduceLT,Nat.reduceAdd]) ?_
 ·show Calls _ _ #[(Sv.x (.g (mgA m0))).val γ'] w' _
  rw[C4]
  exact (A8r w' (mok.later hS')).mono fun e w'' ⟨x,γ1,h1,h2,h3⟩=>⟨x,γ1,h1,by rw[h2,C4],h3⟩
 rintro⟨m,G⟩ ⟨em,km⟩
 dsimp only at em km
 have gm:=Aw km.s
 obtain⟨f0,f1,f2,f3,f4,f5,f38,f39,f40,f41,f42⟩:=mgA_get km.s
 have dz:(mgA zeroR).drop 43=[]:=rfl
 obtain⟨Fs1,eF1⟩:∃G',G'=Fs++G:=⟨_,rfl⟩
 rw[←eF1]
 have in1:∀f∈Fs,f∈Fs1:=fun f hf=>by rw[eF1];exact List.mem_append_left _ hf
 have km:MOk Fs1 m:=km.more fun f hf=>by rw[eF1];exact List.mem_append_right _ hf
 simp (maxSteps:=10^6) only[gm,Bl,Bp,Bw,Bu,undef,↓Ag,↓List.forall_mem_cons,↓Ad,↓Co,↓Af,↓A5,↓Bg,push_cast,↓reduceIte,Nat.reduceEqDiff,Nat.reduceLT,Nat.reduceAdd]
 (repeat (refine And.intro (by first|omega|decide) ?_))
 refine Al rfl Ut rfl (Ws (g:=g) (r:=r) (by unfold lfB lfA;rfl) all.ok.sum.s) (Ae rfl) ?_
 simp (maxSteps:=10^6) only[gm,push_cast,↓reduceIte,Nat.reduceEqDiff,Nat.reduceLT,Nat.reduceAdd]
 (repeat (refine And.intro (by first|omega|decide) ?_))
 refine Dq (ι:=LfR×SlV SnR×List Fct) (A:=lfB g r) (M:=[.blk 25 (.c [.v (.int .i64 c.dim),.v (.slice c.ps.A c.ps.l.length c.ps.c),.v (.slice c.gs.A c.gs.l.length c.gs.c),.v (.int .i64 c.least),.v (.int .i64 c.term)]),.mp .i64 (slE R),.blk 48 (.c (mgA tr)),.abs (Aa Fs1),.blk 48 (.c (mgA m))]) (g:=g) (t:=104) (c:=.c (lfA r)) (l:=Fs1) 3 (Bi Fs1 (r.s.hear m.mg).1 (r.s.hear m.mg).2.1) (fun x=>.t [.a (.v x.2.1.val),.a (.v (erV (r.s.hear m.mg).2.2))]) (fun x=>lfB g x.1) (fun x=>x.2.2) rfl rfl rfl (fun x _=>⟨_,rfl⟩) (fun x _=>rfl) rfl M2 rfl (fun γ' w' hS' hg=>?_) (fun _ _=>rfl) (Ae rfl) (Ar g r) (fun x _=>Ar g x.1) (by simp (maxSteps:=10^6) only[↓Ag,↓List.forall_mem_cons,↓Ad,↓Af,↓A5,↓Bg,push_cast,Nat.reduceLT,Nat.reduceAdd]) (by
  show ∀x∈_,Sv.av 5 _
  simp (maxSteps:=10^6) only[↓List.forall_mem_cons,↓Dg,push_cast,reduceCtorEq,Nat.reduceLeDiff]) (by
  show ∀x∈_,Res.av 5 _
  simp (maxSteps:=10^6) only[↓Adn,↓List.forall_mem_cons,↓Dg,push_cast]) ?_
 ·have hk:=D1 (A:=lfB g r) hS' (k:=3) rfl
  have:=N4 (hS'.frontA (Ar g r)) hk (all.ok.more in1) (km.mgF hk) all.live (m:=m) hI all.bx all.term
  show Calls _ _ #[.pointer (some ⟨nmB γ' 0,0,none⟩),(Sv.x (.g (mgA m))).val γ'] w' _
  rw[hg,C4]
  exact this
 rintro⟨r1,out1,H1⟩ ⟨t1,u1,v1,x1,y1⟩
 dsimp only at t1 u1 v1 x1 y1
 obtain⟨hl1,hl2,hl3⟩:=Nq hI m.mg
 obtain⟨Fs2,eF2⟩:∃G',G'=Fs1++H1:=⟨_,rfl⟩
 rw[←eF2] at x1 ⊢
 have in2:∀f∈Fs1,f∈Fs2:=fun f hf=>by rw[eF2];exact List.mem_append_left _ hf
 have y1:OutOk Fs2 out1:=y1.more fun f hf=>by rw[eF2];exact List.mem_append_right _ hf
 have all1:=all.hear hI t1 x1 v1
 have d1:r1.dim=c.dim:=by
  have:r1.s.dim=r.s.dim:=by rw[t1];exact A85 _ _
  have:r1.dim=r.dim:=this
  exact this.trans hx.dim
 have gl1:=Aw x1.sum.s
 have rows1:∀p∈R,SlF Fs2 p.2 (p.2.l.map Ak):=fun p hp=>((hx.rows p hp).more in1).more in2
 have tok1:MOk Fs2 tr:=(tok.more in1).more in2
 have ek:m.k=m0.k:=congrArg MgS.k em
 rw[←t1,←u1] at hl3
 obtain⟨E,eE⟩:∃E,E=(r.s.hear m.mg).2.2:=⟨_,rfl⟩
 rw[←eE,←t1] at hl2
 rw[←eE] at hl1 ⊢
 unfold lfB lfA
 have vo1:out1.val=.slice out1.A out1.l.length out1.c:=rfl
 apply A8l (fun y:OX×SlV SnR=>OInv l.length c.dim y.1∧A87 y.1 y.2∧y.1.i=i∧y.1.tr=tr) (fun y=>jF A cap l c g y.1 y.2)
 ·intro next
  by_cases hk0:m0.k=0
  ·have hR0:(if E=0∧m.mg.k=5 then Bk (Bn SlV.l R) m.mg.cl m.mg.xs else Bn SlV.l R)=Bn SlV.l R:=if_neg fun h=>by
    have h1:m.k=5:=h.2
    rw[ek,hk0] at h1
    exact absurd h1 (by decide)
   rw[hR0] at hl2
   simp (maxSteps:=10^6) only[hlt,i0,hA,c0,o0,hk0,Bx,By,push_cast,↓Int.toNat_natCast,↓reduceIte,reduceCtorEq,Nat.reduceEqDiff,Nat.reduceLT,Nat.reduceAdd]
   (repeat (refine And.intro (by first|omega|decide) ?_))
   refine Dq (ι:=LfR×SlV SnR×List Fct) (A:=lfB g r1) (M:=[.blk 25 (.c [.v (.int .i64 c.dim),.v (.slice c.ps.A c.ps.l.length c.ps.c),.v (.slice c.gs.A c.gs.l.length c.gs.c),.v (.int .i64 c.least),.v (.int .i64 c.term)]),.mp .i64 (slE R),.blk 48 (.c (mgA tr)),.abs (Aa Fs2),.blk 48 (.c (mgA m))]) (g:=g) (t:=104) (c:=.c (lfA r1)) (l:=Fs2) 3 (Bi Fs2 r1.s.tick.1 r1.s.tick.2) (fun x=>.x (.a (.v x.2.1.val))) (fun x=>lfB g x.1) (fun x=>x.2.2) rfl rfl rfl (fun x _=>⟨_,rfl⟩) (fun x _=>rfl) rfl Aw7 rfl (fun γ' w' hS' hg=>?_) (fun _ _=>rfl) (Ae rfl) (Ar g r1) (fun x _=>Ar g x.1) (by simp (maxSteps:=10^6) only[↓Ag,↓List.forall_mem_cons,↓Ad,↓Af,↓A5,↓Bg,push_cast,Nat.reduceLT,Nat.reduceAdd]) (by
    show ∀x∈_,Sv.av 5 _
    simp (maxSteps:=10^6) only[↓List.forall_mem_cons,↓Dg,push_cast,reduceCtorEq,Nat.reduceLeDiff]) (by
    show ∀x∈_,Res.av 5 _
    simp (maxSteps:=10^6) only[↓Adn,↓List.forall_mem_cons,↓Dg,push_cast]) ?_
   ·have hk:=D1 (A:=lfB g r1) hS' (k:=3) rfl
    have:=A7j (hS'.frontA (Ar g r1)) hk x1 hl2 all1.bx all1.live all1.term
    show Calls _ _ #[.pointer (some ⟨nmB γ' 0,0,none⟩)] w' _
    rw[hg]
    exact this
   rintro⟨r2,out2,H2⟩ ⟨t2,u2,v2,x2,y2⟩
   dsimp only at t2 u2 v2 x2 y2
   have tk:=A2c hl2
   rw[←t2,←u2] at tk
   have all2:=all1.tick hl2 t2 x2 v2
   have d2:r2.dim=c.dim:=by
    have:r2.s.dim=r1.s.dim:=by rw[t2];exact A86 _
    have:r2.dim=r1.dim:=this
    exact this.trans d1
   have vo2:out2.val=.slice out2.A out2.l.length out2.c:=rfl
   unfold lfB lfA
   simp (maxSteps:=10^6) only[push_cast,↓reduceIte,Nat.reduceLT,Nat.reduceAdd]
   (repeat (refine And.intro (by first|omega|decide) ?_))
   refine S6 (s':=jF A cap l c g ⟨i,r2,Fs2++H2,R,tr⟩ out2) (Dd [0,1,2,3,4,5,6,7,8] ?_) (next (⟨i,r2,Fs2++H2,R,tr⟩,out2) ⟨⟨hxi,all2,fun p hp=>(rows1 p hp).more fun f hf=>List.mem_append_left _ hf,tk.1,tok1.more fun f hf=>List.mem_append_left _ hf,d2⟩,⟨y2.more fun f hf=>List.mem_append_right _ hf,tk.2⟩,rfl,rfl⟩)
   unfold jF
   simp (maxSteps:=10^6) only[vo2,↓Ag,↓Az,↓List.forall_mem_cons,↓Ad,↓Af,↓Ax,Au,↓A5,↓Bh,push_cast,↓reduceIte,reduceCtorEq,Nat.reduceEqDiff,Nat.reduceLT,Nat.reduceAdd]
  by_cases hE:E=0
  case neg=>
   rw[if_neg fun h=>hE h.1] at hl2
   rw[B5 hE]
   simp (maxSteps:=10^6) only[hlt,i0,hA,c0,o0,hk0,Bx,By,undef,push_cast,↓Int.toNat_natCast,↓reduceIte,reduceCtorEq,Nat.reduceEqDiff,Nat.reduceLT,Nat.reduceAdd]
   (repeat (refine And.intro (by first|omega|decide) ?_))
   refine S6 (s':=jF A cap l c g ⟨i,r1,Fs2,R,tr⟩ out1) (Dd [0,1,2,3,4,5,6,7,8] ?_) (next (⟨i,r1,Fs2,R,tr⟩,out1) ⟨⟨hxi,all1,rows1,hl2,tok1,d1⟩,⟨y1,hl3⟩,rfl,rfl⟩)
   unfold jF
   simp (maxSteps:=10^6) only[vo1,↓Ag,↓Az,↓List.forall_mem_cons,↓Ad,↓Af,↓Ax,Au,↓A5,↓Bh,push_cast,↓reduceIte,reduceCtorEq,Nat.reduceEqDiff,Nat.reduceLT,Nat.reduceAdd]
  rw[hE,En]
  by_cases hk5:m.k=5
  case neg=>
   rw[if_neg fun h=>hk5 h.2] at hl2
   simp (maxSteps:=10^6) only[f0,hk5,gm,hlt,i0,hA,c0,o0,hk0,Bx,By,undef,push_cast,↓Int.toNat_natCast,↓reduceIte,reduceCtorEq,Nat.reduceEqDiff,Nat.reduceLT,Nat.reduceAdd]
   (repeat (refine And.intro (by first|omega|decide) ?_))
   refine S6 (s':=jF A cap l c g ⟨i,r1,Fs2,R,tr⟩ out1) (Dd [0,1,2,3,4,5,6,7,8] ?_) (next (⟨i,r1,Fs2,R,tr⟩,out1) ⟨⟨hxi,all1,rows1,hl2,tok1,d1⟩,⟨y1,hl3⟩,rfl,rfl⟩)
   unfold jF
   simp (maxSteps:=10^6) only[vo1,↓Ag,↓Az,↓List.forall_mem_cons,↓Ad,↓Af,↓Ax,Au,↓A5,↓Bh,push_cast,↓reduceIte,reduceCtorEq,Nat.reduceEqDiff,Nat.reduceLT,Nat.reduceAdd]
  obtain⟨p1,p2⟩:=hl1 hE hk5
  rw[if_pos ⟨hE,hk5⟩] at hl2
  have p1:r.phase=2:=p1
  have p3:Aq R m.cl=none:=by
   have p2:Aq (Bn SlV.l R) m.cl=none:=p2
   rw[H0] at p2
   cases h:Aq R m.cl with
   |none=>rfl
   |some y=>rw[h] at p2;cases p2
  have lk:Cw (slE R) m.cl=none:=by rw[Nt,p3];rfl
  have e5:Bk (Bn SlV.l R) m.mg.cl m.mg.xs=Bn SlV.l (Bk R m.cl m.xs):=(V3 SlV.l R m.cl m.xs).symm
  rw[e5] at hl2
  have pu:putI (slE R) m.cl (.a (.v m.xs.val))=slE (Bk R m.cl m.xs):=V2 R m.cl m.xs
  have vx:m.xs.val=.slice m.xs.A m.xs.l.length m.xs.c:=rfl
  have hph:=eq_true p1
  simp (maxSteps:=10^6) only[f0,f3,f41,hk5,hph,lk,gm,hlt,i0,hA,c0,o0,hk0,Bx,By,undef,push_cast,↓Int.toNat_natCast,↓reduceIte,reduceCtorEq,Nat.reduceEqDiff,Nat.reduceLT,Nat.reduceAdd]
  rw[pu]
  have rows5:∀p∈Bk R m.cl m.xs,SlF Fs2 p.2 (p.2.l.map Ak):=fun p hp=>by
   rcases Nu hp with e|e
   ·rw[e];exact (km.more in2).xs
   ·exact rows1 p e
  refine S6 (s':=jF A cap l c g ⟨i,r1,Fs2,Bk R m.cl m.xs,tr⟩ out1) (Dd [0,1,2,3,4,5,6,7,8] ?_) (next (⟨i,r1,Fs2,Bk R m.cl m.xs,tr⟩,out1) ⟨⟨hxi,all1,rows5,hl2,tok1,d1⟩,⟨y1,hl3⟩,rfl,rfl⟩)
  unfold jF
  simp (maxSteps:=10^6) only[vo1,↓Ag,↓Az,↓List.forall_mem_cons,↓Ad,↓Af,↓Ax,Au,↓A5,↓Bh,push_cast,↓reduceIte,reduceCtorEq,Nat.reduceEqDiff,Nat.reduceLT,Nat.reduceAdd]
 ·rintro⟨⟨i2,r2,F3,R2,tr2⟩,out⟩ ⟨hy,⟨oko,hso⟩,ei,et⟩
  dsimp only at oko hso ei et
  obtain rfl:=ei
  obtain rfl:=et
  have all2:=hy.all
  have hI2:=hy.inv
  have tok2:=hy.tok
  have d2:=hy.dim
  have rows2:=hy.rows
  dsimp only at all2 hI2 tok2 d2 rows2
  have gl2:=Aw all2.ok.sum.s
  have vo:out.val=.slice out.A out.l.length out.c:=rfl
  unfold jF
  refine A2a (A:=[.pin g 104 (.c (.v (.int .i64 r2.place):: .v (.int .i64 r2.gen):: .v (.int .i64 r2.dim):: .v (.int .i64 r2.term):: .v (.int .i64 r2.need):: .v (.int .i64 r2.parent):: .v r2.above.val:: .v r2.group.val:: .v (.int .i64 r2.phase):: .v r2.waits.val:: .p 1 0:: .v r2.joined.val:: .o 2:: .o 3:: .o 4::mgA r2.sum)),.blk 170 (.c (tlA r2.ty)),.mp .i64 (puE r2.pub),bxR r2,.mp .i64 (slE r2.rows),.blk 25 (.c [.v (.int .i64 c.dim),.v (.slice c.ps.A c.ps.l.length c.ps.c),.v (.slice c.gs.A c.gs.l.length c.gs.c),.v (.int .i64 c.least),.v (.int .i64 c.term)]),.mp .i64 (slE R2),.blk 48 (.c (mgA tr2))]) (M:=[.abs (Aa F3)]) [2,3,7,9,10,11,14,16] rfl (by show 0 < 8;omega) (by simp (maxSteps:=10^6) only[↓Ag,↓List.forall_mem_cons,↓Ad,↓Af,↓A5,push_cast,Nat.reduceLT,Nat.reduceAdd]) (by simp (maxSteps:=10^6) only[↓Ag,↓List.forall_mem_cons,↓Ad,↓Af,↓A5,push_cast,Nat.reduceLT,Nat.reduceAdd]) (by
   show ∀x∈_,Sv.bnd 8 _
   simp (maxSteps:=10^6) only[push_cast,↓reduceIte,Nat.reduceEqDiff,Nat.reduceLT]) (fun q hq=>by rw[List.mem_singleton.1 hq];trivial) fun γ' w1 hS1=>?_
  have hS2:Sat w No γ' ([.pin g 104 (.c (.v (.int .i64 r2.place):: .v (.int .i64 r2.gen):: .v (.int .i64 r2.dim):: .v (.int .i64 r2.term):: .v (.int .i64 r2.need):: .v (.int .i64 r2.parent):: .v r2.above.val:: .v r2.group.val:: .v (.int .i64 r2.phase):: .v r2.waits.val:: .p 1 0:: .v r2.joined.val:: .o 2:: .o 3:: .o 4::mgA r2.sum)),.blk 170 (.c (tlA r2.ty)),.mp .i64 (puE r2.pub),bxR r2,.mp .i64 (slE r2.rows),.blk 25 (.c [.v (.int .i64 c.dim),.v (.slice c.ps.A c.ps.l.length c.ps.c),.v (.slice c.gs.A c.gs.l.length c.gs.c),.v (.int .i64 c.least),.v (.int .i64 c.term)]),.mp .i64 (slE R2),.blk 48 (.c (mgA tr2))]++[.abs (Aa F3)]) w1:=hS1
  have hkn:=D1 hS2 (k:=0) rfl
  obtain⟨ow1,how1⟩:∃ow1:Nat→Prop,ow1=fun b=>∃(k:Nat) (q:Res),([.pin g 104 (.c (.v (.int .i64 r2.place):: .v (.int .i64 r2.gen):: .v (.int .i64 r2.dim):: .v (.int .i64 r2.term):: .v (.int .i64 r2.need):: .v (.int .i64 r2.parent):: .v r2.above.val:: .v r2.group.val:: .v (.int .i64 r2.phase):: .v r2.waits.val:: .p 1 0:: .v r2.joined.val:: .o 2:: .o 3:: .o 4::mgA r2.sum)),.blk 170 (.c (tlA r2.ty)),.mp .i64 (puE r2.pub),bxR r2,.mp .i64 (slE r2.rows),.blk 25 (.c [.v (.int .i64 c.dim),.v (.slice c.ps.A c.ps.l.length c.ps.c),.v (.slice c.gs.A c.gs.l.length c.gs.c),.v (.int .i64 c.least),.v (.int .i64 c.term)]),.mp .i64 (slE R2),.blk 48 (.c (mgA tr2))]:List Res)[k]?=some q∧q.has γ' k b:=⟨_,rfl⟩
  rw[←how1] at hkn ⊢
  clear how1 hS1 hS2
  have fo:=hkn.fw oko.1 (fun e=>by rw[e];rfl)
  have Fo:=FLw.of (fun x hx=>Wt (oko.2.1 x hx).s) (by decide) fo.2
  have vtx:∀t:MgR,True:=fun _=>trivial
  refine B9 (ι:=Nat×MgR) (fun y=>⟨[(2,.x (.a (.v (.slice A l.length cap)))),(3,.x (.a (.p 5 0))),(7,.x (.a (.p 0 0))),(9,.x (.a (.o 6))),(10,.x (.a (.p 7 0))),(11,.x (.a (.v (.int .i64 (i2:Nat))))),(14,.x (.a (.v (.slice out.A out.l.length out.c)))),(16,.x (.a (.v (.int .i64 (y.1:Nat)))))],[.pin g 104 (.c (.v (.int .i64 r2.place):: .v (.int .i64 r2.gen):: .v (.int .i64 r2.dim):: .v (.int .i64 r2.term):: .v (.int .i64 r2.need):: .v (.int .i64 r2.parent):: .v r2.above.val:: .v r2.group.val:: .v (.int .i64 r2.phase):: .v r2.waits.val:: .p 1 0:: .v r2.joined.val:: .o 2:: .o 3:: .o 4::mgA r2.sum)),.blk 170 (.c (tlA r2.ty)),.mp .i64 (puE r2.pub),bxR r2,.mp .i64 (slE r2.rows),.blk 25 (.c [.v (.int .i64 c.dim),.v (.slice c.ps.A c.ps.l.length c.ps.c),.v (.slice c.gs.A c.gs.l.length c.gs.c),.v (.int .i64 c.least),.v (.int .i64 c.term)]),.mp .i64 (slE R2),.blk 48 (.c (mgA y.2))]⟩) (fun y=>y.1≤out.l.length∧LfInv r2.s (Bn SlV.l R2) (Ix y.2)∧MOk F3 y.2) (fun y=>out.l.length - y.1) (0,tr2) [0,1,2,3,4,5,6,7] ⟨Nat.zero_le _,hI2,tok2⟩ ?_ ?_
  ·simp (maxSteps:=10^6) only[vo,↓Ag,↓Az,↓List.forall_mem_cons,↓Ad,↓Af,↓Ax,Au,↓A5,↓Bh,push_cast,↓Int.cast_ofNat_Int,Int.cast_ofNat_Int,↓reduceIte,reduceCtorEq,Nat.reduceEqDiff,Nat.reduceLT,Nat.reduceAdd]
  rintro⟨k,t3⟩ ⟨hk,hI3,tok3⟩
  dsimp only at hk hI3 tok3 ⊢
  have gt3:=Aw tok3.s
  by_cases hkl:(k:Int) < out.l.length
  case neg=>
   simp (maxSteps:=10^6) only[hkl,↓List.forall_mem_cons,↓List.forall_mem_append,push_cast,↓reduceIte,Nat.reduceEqDiff,Nat.reduceLT,Nat.reduceAdd,Int.reduceNeg]
   refine⟨[.pin g 104 (.c (.v (.int .i64 r2.place):: .v (.int .i64 r2.gen):: .v (.int .i64 r2.dim):: .v (.int .i64 r2.term):: .v (.int .i64 r2.need):: .v (.int .i64 r2.parent):: .v r2.above.val:: .v r2.group.val:: .v (.int .i64 r2.phase):: .v r2.waits.val:: .p 1 0:: .v r2.joined.val:: .o 2:: .o 3:: .o 4::mgA r2.sum)),.blk 170 (.c (tlA r2.ty)),.mp .i64 (puE r2.pub),bxR r2,.mp .i64 (slE r2.rows),.blk 25 (.c [.v (.int .i64 c.dim),.v (.slice c.ps.A c.ps.l.length c.ps.c),.v (.slice c.gs.A c.gs.l.length c.gs.c),.v (.int .i64 c.least),.v (.int .i64 c.term)]),.mp .i64 (slE R2),.blk 48 (.c (mgA t3))],[],[2,3,7,9,10,11],rfl,rfl,?_,?_,?_⟩
   ·show ∀x∈_,Res.bnd 8 _
    simp (maxSteps:=10^6) only[↓Ag,↓List.forall_mem_cons,↓Ad,↓Af,↓A5,push_cast,Nat.reduceLT]
   ·show ∀x∈_,Sv.bnd 8 _
    simp (maxSteps:=10^6) only[push_cast,↓reduceIte,Nat.reduceEqDiff,Nat.reduceLT]
   simp (maxSteps:=10^6) only[nx,nx0,push_cast,↓reduceIte,Nat.reduceEqDiff,Nat.reduceAdd,Int.reduceNeg]
   refine Bv (OX.mk (i2+1) r2 F3 R2 t3) [0,1,2,3,4,5,6,7,8] (show OInv l.length c.dim _ from ⟨by show i2+1≤l.length;omega,all2,rows2,hI3,tok3,d2⟩) (by show l.length - (i2+1) < l.length - i2;omega) ?_
   simp (maxSteps:=10^6) only[↓Ag,↓Az,↓List.forall_mem_cons,↓Ad,↓Af,↓Ax,Au,↓A5,↓Bh,push_cast,↓reduceIte,reduceCtorEq,Nat.reduceEqDiff,Nat.reduceLT,Nat.reduceAdd]
  have hko:k < out.l.length:=by omega
  have k0:(0:Int)≤k:=by omega
  have kx:(k:Int)+1≤9223372036854775807:=by have:=oko.2.2;omega
  have kx0:-9223372036854775808≤(k:Int)+1:=by omega
  have ho:=Fo.some_ (by omega)
  have hxm:=Fh hko
  have xok:=oko.2.1 _ hxm
  have xsd:=hso _ (List.mem_map_of_mem hxm)
  obtain⟨m1,m2⟩:=Fo.msg hko xok.s
  obtain⟨cc,oc⟩:=Fo.cell k 0 _ hko rfl
  rw[Nat.add_zero] at cc oc
  have oc:=eq_true oc
  obtain⟨xk,exk⟩:∃xk,xk=ix out.l k:=⟨_,rfl⟩
  rw[←exk] at xok xsd m1 cc
  clear exk hxm
  have gx:=Aw xok.s
  obtain⟨g0,g1,g2,g3,g4,g5,g38,g39,g40,g41,g42⟩:=mgA_get xok.s
  by_cases h6:xk.m.k=6
  case neg=>
   simp (maxSteps:=10^6) only[h6,kx,kx0,gx,g0,hkl,k0,ho,m1,m2,Bl,Bp,Bw,Bu,Cy,By,undef,↓Ag,↓List.forall_mem_cons,↓Ad,↓Co,↓Af,↓A5,↓Bg,push_cast,↓Int.toNat_natCast,↓reduceIte,reduceCtorEq,Nat.reduceEqDiff,Nat.reduceLT,Nat.reduceAdd,Int.reduceNeg]
   refine Bv (k+1,t3) [0,1,2,3,4,5,6,7] ⟨by show k+1≤out.l.length;omega,hI3,tok3⟩ (by show out.l.length - (k+1) < out.l.length - k;omega) ?_
   simp (maxSteps:=10^6) only[↓Ag,↓Az,↓List.forall_mem_cons,↓Ad,↓Af,↓Ax,Au,↓A5,↓Bh,push_cast,↓reduceIte,reduceCtorEq,Nat.reduceEqDiff,Nat.reduceLT,Nat.reduceAdd]
  obtain⟨xc,xp,xm⟩:=xsd h6
  have xc:xk.c=false:=xc
  have xm:xk.m.mg=r2.s.sum:=xm
  obtain⟨q1,q2,q3,q4,q5,q6,q7⟩:=A2g hI3 xp
  obtain⟨d,hd⟩:∃d:Nat,c.dim=d:=⟨c.dim.toNat,by omega⟩
  have hd0:¬(d:Int) < 0:=by omega
  have hd1:(d:Int)≤32:=by omega
  simp (maxSteps:=10^6) only[h6,hd,gx,g0,hkl,k0,ho,m1,m2,Bl,Bp,Bw,Bu,Cy,By,undef,↓Ag,↓List.forall_mem_cons,↓Ad,↓Co,↓Af,↓A5,↓Bg,push_cast,↓Int.toNat_natCast,↓Int.cast_ofNat_Int,Int.cast_ofNat_Int,↓reduceIte,reduceCtorEq,Nat.reduceEqDiff,Nat.reduceLT,Nat.reduceAdd]
  refine⟨⟨by omega,by omega,by omega,by omega⟩,?_⟩
  have eids:xk.m.ids.l=r2.s.sum.ids:=congrArg MgS.ids xm
  have exs:xk.m.xs.l=r2.s.sum.xs:=congrArg MgS.xs xm
  have eps:xk.m.ps.l=r2.s.sum.ps:=congrArg MgS.ps xm
  have edim:r2.s.dim=d:=by
   have:r2.dim=d:=by rw[d2,hd]
   exact this
  rw[←eids,←exs,edim,Int.toNat_natCast] at q1
  rw[←eids] at q2 q3 q6
  rw[←eids,←eps] at q4
  have hrow:∀x∈xk.m.ids.l,∃r,Aq (Bn SlV.l R2) x=some r∧r.length=d:=fun x hx=>by
   obtain⟨r,h1,h2⟩:=q6 x hx
   exact⟨r,h1,by rw[edim] at h2;omega⟩
  have vi:xk.m.ids.val=.slice xk.m.ids.A xk.m.ids.l.length xk.m.ids.c:=rfl
  have vx:xk.m.xs.val=.slice xk.m.xs.A xk.m.xs.l.length xk.m.xs.c:=rfl
  have vp:xk.m.ps.val=.slice xk.m.ps.A xk.m.ps.l.length xk.m.ps.c:=rfl
  have fi:=hkn.fw xok.ids (fun e=>by rw[e];rfl)
  have fx:=hkn.fw xok.xs (fun e=>by rw[e];rfl)
  have Fi:FM (Value.int .i64) w1 ow1 xk.m.ids.A xk.m.ids.l:=FM.fw fi.2
  have hfew:=xok.few.ids
  have hfew:xk.m.ids.l.length≤1000:=hfew
  refine B9 (ι:=Nat) (fun n=>⟨[(2,.x (.a (.v (.slice A l.length cap)))),(3,.x (.a (.p 5 0))),(7,.x (.a (.p 0 0))),(9,.x (.a (.o 6))),(10,.x (.a (.p 7 0))),(11,.x (.a (.v (.int .i64 (i2:Nat))))),(14,.x (.a (.v (.slice out.A out.l.length out.c)))),(16,.x (.a (.v (.int .i64 (k:Nat))))),(17,.x (.a (.p 8 0))),(18,.x (.a (.o 9))),(19,.x (.a (.v (.int .i64 (n:Nat)))))],[.pin g 104 (.c (.v (.int .i64 r2.place):: .v (.int .i64 r2.gen):: .v (.int .i64 r2.dim):: .v (.int .i64 r2.term):: .v (.int .i64 r2.need):: .v (.int .i64 r2.parent):: .v r2.above.val:: .v r2.group.val:: .v (.int .i64 r2.phase):: .v r2.waits.val:: .p 1 0:: .v r2.joined.val:: .o 2:: .o 3:: .o 4::mgA r2.sum)),.blk 170 (.c (tlA r2.ty)),.mp .i64 (puE r2.pub),bxR r2,.mp .i64 (slE r2.rows),.blk 25 (.c [.v (.int .i64 c.dim),.v (.slice c.ps.A c.ps.l.length c.ps.c),.v (.slice c.gs.A c.gs.l.length c.gs.c),.v (.int .i64 c.least),.v (.int .i64 c.term)]),.mp .i64 (slE R2),.blk 48 (.c (mgA t3)),.blk 48 (.c (mgA xk.m)),.own 111 (.u32 (Gm (Bn SlV.l R2) xk.m.ids.l d n))]⟩) (fun n=>n≤xk.m.ids.l.length) (fun n=>xk.m.ids.l.length - n) 0 [0,1,2,3,4,5,6,7,8,9] (Nat.zero_le _) ?_ ?_
  ·simp (maxSteps:=10^6) only[hd,Adp,↓Ag,↓Az,↓List.forall_mem_cons,↓Ad,↓Af,↓Ax,Au,↓A5,↓Bh,push_cast,↓Int.cast_ofNat_Int,Int.cast_ofNat_Int,↓reduceIte,reduceCtorEq,Nat.reduceEqDiff,Nat.reduceLT,Nat.reduceAdd]
  intro n hn
  by_cases hnl:(n:Int) < xk.m.ids.l.length
  case pos=>
   have hno:n < xk.m.ids.l.length:=by omega
   have n0:(0:Int)≤n:=by omega
   have ny:(n:Int)+1≤9223372036854775807:=by omega
   have ny0:-9223372036854775808≤(n:Int)+1:=by omega
   have si:=Fi.some_ (by omega)
   have ci:=Fi.cell n hno
   have oi:=eq_true (Fi.ok n hno)
   obtain⟨row,h1,h2⟩:=hrow _ (Fh hno)
   obtain⟨rw_,h3,h4⟩:∃y:SlV UInt32,Aq R2 (ix xk.m.ids.l n)=some y∧y.l=row:=by
    rw[H0] at h1
    cases h:Aq R2 (ix xk.m.ids.l n) with
    |none=>rw[h] at h1;cases h1
    |some y=>rw[h] at h1;exact⟨y,rfl,Option.some.inj h1⟩
   have lk:Cw (slE R2) (ix xk.m.ids.l n)=some (.a (.v rw_.val)):=by rw[Nt,h3];rfl
   have fr:=hkn.fw (rows2 _ (V4 h3)) (fun e=>by rw[e];rfl)
   have vr:rw_.val=.slice rw_.A rw_.l.length rw_.c:=rfl
   simp (maxSteps:=10^6) only[hd,hnl,n0,si,ci,oi,lk,vr,vi,g38,gx,undef,push_cast,↓Int.toNat_natCast,↓reduceIte,reduceCtorEq,Nat.reduceEqDiff,Nat.reduceLT,Nat.reduceAdd]
   (repeat (refine And.intro (by first|omega|decide) ?_))
   have hpl:=Wx hrow n hn
   have rl:rw_.l.length=d:=by rw[h4];exact h2
   have hop:Fl (Gm (Bn SlV.l R2) xk.m.ids.l d n) rw_.l=true:=by
    unfold Fl
    rw[hpl,rl,decide_eq_true (show d≤32 by omega),decide_eq_true rfl]
    rfl
   have hsum:Ir (Gk 1) (Gm (Bn SlV.l R2) xk.m.ids.l d n) rw_.l=Gm (Bn SlV.l R2) xk.m.ids.l d (n+1):=by
    rw[Acc hop,A4g A4f,hpl,Acf hpl rl,Adq hno h1,h4]
   refine Qh rfl Aw8 rfl (A8o (a:=Gm (Bn SlV.l R2) xk.m.ids.l d n) (b:=rw_.l) 1 (U4 (k:=9) rfl (fun _=>rfl)) (Di fr.2 _ _ (List.length_map ..) fr.1) (by simp (maxSteps:=10^6) only[↓Ag,↓List.forall_mem_cons,↓Ad,↓Af,↓A5,push_cast,Nat.reduceLT,Nat.reduceAdd])) (Ae rfl) (fun _=>by simp (maxSteps:=10^6) only[↓Ag,↓List.forall_mem_cons,↓Ad,↓Af,↓A5,push_cast,Nat.reduceLT,Nat.reduceAdd]) ?_
   rw[hop,hsum]
   simp (maxSteps:=10^6) only[ny,ny0,push_cast,↓reduceIte,Nat.reduceEqDiff,Nat.reduceLT,Nat.reduceAdd,Int.reduceNeg]
   (repeat (refine And.intro (by first|omega|decide) ?_))
   refine Bv (n+1) [0,1,2,3,4,5,6,7,8,10] (by omega) (by omega) ?_
   simp (maxSteps:=10^6) only[↓Ag,↓Az,↓List.forall_mem_cons,↓Ad,↓Af,↓Ax,Au,↓A5,↓Bh,push_cast,↓reduceIte,reduceCtorEq,Nat.reduceEqDiff,Nat.reduceLT,Nat.reduceAdd]
  case neg=>
  obtain rfl:n=xk.m.ids.l.length:=by omega
  have hfin:Gm (Bn SlV.l R2) xk.m.ids.l d xk.m.ids.l.length=xk.m.xs.l:=by
   rw[←q1]
   unfold Gm
   rw[List.take_length]
  rw[hfin]
  have cc':Be w1 (Aj out.A (k*45))=.bool false:=by rw[cc,xc]
  have hs3:=eq_true xp
  have xp3:(r2.phase=3)=True:=eq_true xp
  have z1:¬(xk.m.ids.l.length:Int) < 1:=by omega
  have z2:¬(xk.m.ps.l.length:Int) < xk.m.ids.l.length:=by omega
  have z3:(slE R2).length=xk.m.ids.l.length:=by
   rw[q2]
   unfold slE Bn
   rw[List.length_map,List.length_map]
  simp (maxSteps:=10^6) only[hd,hnl,g38,vi,g41,vx,gx,undef,push_cast,↓reduceIte,reduceCtorEq,Nat.reduceEqDiff,Nat.reduceLT,Nat.reduceAdd]
  (repeat (refine And.intro (by first|omega|decide) ?_))
  refine Al rfl Aw9 rfl (A8p (a:=xk.m.xs.l) (b:=xk.m.xs.l) (by have:=xok.few.xs;have:xk.m.xs.l.length≤1000:=this;omega) (U4 (k:=9) rfl (fun _=>rfl)) (Di fx.2 _ _ (List.length_map ..) fx.1)) (Ae rfl) ?_
  rw[decide_eq_true rfl]
  simp (maxSteps:=10^6) only[hkl,k0,ho,cc',oc,z1,z2,z3,g38,vi,g40,vp,gx,Bx,By,undef,push_cast,↓Int.toNat_natCast,↓reduceIte,reduceCtorEq,Nat.reduceEqDiff,Nat.reduceLT,Nat.reduceAdd]
  (repeat (refine And.intro (by first|omega|decide) ?_))
  refine Al rfl Ut rfl (Ws (g:=g) (r:=r2) (by unfold lfB lfA;rfl) all2.ok.sum.s) (Ae rfl) ?_
  have dx:(mgA t3).drop 43=[]:=List.drop_of_length_le (by omega)
  have e0':=(mgA_get tok3.s).1
  by_cases hz:t3.k=0
  ·simp (maxSteps:=10^6) only[hz,xp3,gx,gt3,kx,kx0,e0',undef,↓Co,push_cast,↓reduceIte,reduceCtorEq,Nat.reduceEqDiff,Nat.reduceLT,Nat.reduceAdd,Int.reduceNeg]
   refine Bv (k+1,xk.m) [0,1,2,3,4,5,6,7] ⟨by show k+1≤out.l.length;omega,by
    have:Ix xk.m=some r2.s.sum:=by
     unfold Ix
     rw[if_neg (by rw[h6];decide),xm]
    show LfInv r2.s (Bn SlV.l R2) (Ix xk.m)
    rw[this]
    exact q7,xok⟩ (by show out.l.length - (k+1) < out.l.length - k;omega) ?_
   simp (maxSteps:=10^6) only[↓Ag,↓Az,↓List.forall_mem_cons,↓Ad,↓Af,↓Ax,Au,↓A5,↓Bh,push_cast,↓reduceIte,reduceCtorEq,Nat.reduceEqDiff,Nat.reduceLT,Nat.reduceAdd]
  ·simp (maxSteps:=10^6) only[hz,xp3,gx,gt3,e0',undef,push_cast,↓reduceIte,reduceCtorEq,Nat.reduceEqDiff,Nat.reduceLT,Nat.reduceAdd]
   (repeat (refine And.intro (by first|omega|decide) ?_))
   have hsm:Jv t3.mg xk.m.mg=true:=by
    have h:t3.mg=r2.s.sum:=q5 t3.mg (by unfold Ix;exact if_neg hz)
    rw[h,xm]
    exact decide_eq_true rfl
   refine Al rfl Zi rfl (A8q (tok3.mgF hkn) (xok.mgF hkn)) (Ae rfl) ?_
   rw[hsm]
   simp (maxSteps:=10^6) only[gx,gt3,kx,kx0,undef,↓Co,push_cast,↓reduceIte,Nat.reduceEqDiff,Nat.reduceLT,Nat.reduceAdd,Int.reduceNeg]
   refine Bv (k+1,xk.m) [0,1,2,3,4,5,6,7] ⟨by show k+1≤out.l.length;omega,by
    have:Ix xk.m=some r2.s.sum:=by
     unfold Ix
     rw[if_neg (by rw[h6];decide),xm]
    show LfInv r2.s (Bn SlV.l R2) (Ix xk.m)
    rw[this]
    exact q7,xok⟩ (by show out.l.length - (k+1) < out.l.length - k;omega) ?_
   simp (maxSteps:=10^6) only[↓Ag,↓Az,↓List.forall_mem_cons,↓Ad,↓Af,↓Ax,Au,↓A5,↓Bh,push_cast,↓reduceIte,reduceCtorEq,Nat.reduceEqDiff,Nat.reduceLT,Nat.reduceAdd]
end Go.Proofs.YtedaafmfjhjfmaaGreatDoor
