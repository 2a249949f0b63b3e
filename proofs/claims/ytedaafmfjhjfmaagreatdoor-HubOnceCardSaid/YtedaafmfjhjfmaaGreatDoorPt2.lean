import Derived.Test.YtedaafmfjhjfmaaGreatDoorPt1
import Derived.Test.YtedaafmfjhjfmaaGreatDoorMg4
/- Layer 29 walked: mayBe. -/
namespace Go.Proofs.YtedaafmfjhjfmaaGreatDoor
open _root_.Go.Proofs.Tryz
open Go.RowKit
set_option linter.unusedSimpArgs false
set_option linter.unusedVariables false
theorem Wq {w0:World} {ow:Nat→Prop} {hp:List Res} {kf:Nat} {Fs:List Fct} {A:Option Addr} {n c:Nat} {vs:List Value} (hF:hp[kf]?=some (.abs (fctRep Fs))) (hf:(⟨.slice A n c,n,vs⟩:Fct)∈Fs) (hn:vs.length=n):Bg w0 ow hp (.x (.a (.v (.slice A n c)))) vs:=fun γ w hS=>by
 obtain⟨A',c',h1,h2,h3⟩:=Wm (Wl (B:=fun _=>False) hS hF [] (by simp) fun b h=>h.elim) _ hf
 have h1:Value.slice A n c=.slice A' n c':=h1
 injection h1 with e1 _ e3
 subst e1 e3
 exact⟨A,c,by rw[hn];rfl,by rw[hn];exact h2,h3.rd⟩
theorem Adp {α:Type} {w0:World} {ow:Nat→Prop} {hp:List Res} {kf:Nat} {Fs:List Fct} {s:SlV α} {vs:List Value} (hF:hp[kf]?=some (.abs (fctRep Fs))) (hf:(⟨s.val,s.l.length,vs⟩:Fct)∈Fs) (hn:vs.length=s.l.length):Bg w0 ow hp (.x (.a (.v s.val))) vs:=Wq hF hf hn
theorem S6 {P:Program} {w0:World} {ow:Nat→Prop} {n:Nat} {R:Prop} {id:Nat} {ops:List Oper} {K:Exit→S→Prop} {X:Type} (I:X→Prop) (F:X→S) (h:(∀x,I x→Ao P w0 ow n id ops (F x) K)→R) (k:∀x,I x→Ao P w0 ow n id ops (F x) K):R:=h k
theorem Avw (s:Sms) (pl:Int) (ids P:List Int) (last:Int) (rest:List Int):Ek s pl ids P [] last rest=rest.isEmpty:=by
 rw[Ek]
 intro a b r e
 cases e
theorem Avx (a b:List Int):(Cs a b).length≤64:=Vx _
theorem Wr {n:Nat} (h:n≤1000) (x:UInt64):(UInt64.ofInt (n:Int)≤x)↔n≤x.toNat:=by
 rw[UInt64.le_iff_toNat_le]
 have e:(UInt64.ofInt (n:Int)).toNat=n:=by
  rw[UInt64.ofInt,UInt64.toNat_ofNat']
  omega
 rw[e]
attribute [local irreducible] Ac Ad Ah Au Ao Aj Ai Al
attribute [local irreducible] okV Cs By Bq Sms.und
set_option maxRecDepth 100000 in
set_option maxHeartbeats 2000000 in
theorem Avy (r:SmR) (a:Addr) {xh xt:Value} (m:MgR) (w:World) (h:SmAt r w a xh xt) (hm:m.Ok w):Calls prog 71 #[.pointer (some a),.agg (mgV m).toArray] w fun e w'=>e=.returned (.bool (r.s.may m.mg))∧Below w.heap.size w w':=by
 obtain⟨c0,c1,c2,_,ok⟩:=h.cells
 have k0:=eq_true (ok 0 (by omega))
 have k1:=eq_true (ok 1 (by omega))
 have k2:=eq_true (ok 2 (by omega))
 have hs:(some a).isSome=true:=rfl
 have hn:(some a).isNone=false:=rfl
 have few:=hm.few
 have vi:m.ids.val=.slice m.ids.A m.ids.l.length m.ids.c:=rfl
 have vn:m.ns.val=.slice m.ns.A m.ns.l.length m.ns.c:=rfl
 have vp:m.ps.val=.slice m.ps.A m.ps.l.length m.ps.c:=rfl
 have vx:m.xs.val=.slice m.xs.A m.xs.l.length m.xs.c:=rfl
 have gm:=Bd hm.s
 obtain⟨f0,f1,f2,f3,f4,f5,f38,f39,f40,f41,f42⟩:=C8 hm.s
 obtain⟨R,hR⟩:∃R,R=r.s.may m.mg:=⟨_,rfl⟩
 rw[←hR]
 have e0:#[Value.pointer (some a),.agg (mgV m).toArray]=(List.map (Sv.val []) [.x (.a (.v (.pointer (some a)))),.x (.g (mgA m))]).toArray:=by
  rw[List.map_cons,List.map_cons,Bi]
  rfl
 rw[e0]
 refine Bf (n:=171) func71 rfl ntmps71 [.x (.a (.v (.pointer (some a)))),.x (.g (mgA m))] (by simp) (.x (.a (.v (.bool R)))) (fun _=>rfl) ?_
 unfold Sms.may at hR
 have hR:R=(Bq m.mg&&(decide (m.k=6)&&(r.s.und m.pl r.place&&(decide (m.ge≠0)&&(decide ((m.xs.l.length:Int)=r.dim)&&(!m.ids.l.isEmpty&&(decide (m.ns.l.length % 2=0)&&((Cs m.ids.l (idsP m.ps.l)).isEmpty&&Ek r.s m.pl m.ids.l (idsP m.ps.l) m.ns.l (-1) (idsP m.ps.l))))))))):=hR
 simp (maxSteps:=10^6) only[↓List.forall_mem_cons,↓A8,↓Be,push_cast,↓reduceIte,reduceCtorEq,Nat.reduceLT,Int.reduceNeg]
 (repeat (refine And.intro (by first|omega|decide) ?_))
 refine B3 [(0,true),(1,false),(2,true),(3,true),(4,true),(5,true),(6,true),(7,true),(8,true),(9,true),(10,true),(11,true),(12,true),(13,true),(14,true),(15,true),(16,false),(17,true),(18,true)] (by kernel_rfl) (by kernel_rfl) rfl (by kernel_rfl) ?_
 simp (maxSteps:=10^6) only[gm,push_cast,↓reduceIte,Nat.reduceEqDiff,Nat.reduceLT,Int.reduceNeg]
 (repeat (refine And.intro (by first|omega|decide) ?_))
 refine Kr rfl Aav rfl (Avv (R9 hm)) (Aa rfl) ?_
 by_cases g0:Bq m.mg=true
 rotate_left
 ·rw[Bool.not_eq_true] at g0
  rw[g0,Bool.false_and] at hR
  simp (maxSteps:=10^6) only[g0,hR,H8,undef,push_cast,↓reduceIte,Nat.reduceEqDiff,Nat.reduceLT,Int.reduceNeg]
 rw[g0,Bool.true_and] at hR
 simp (maxSteps:=10^6) only[g0,Gt,gm,f0,f1,undef,push_cast,↓reduceIte,reduceCtorEq,Nat.reduceEqDiff,Nat.reduceLT,Int.reduceNeg]
 by_cases g1:m.k=6
 rotate_left
 ·rw[decide_eq_false g1,Bool.false_and] at hR
  simp (maxSteps:=10^6) only[g1,hR,push_cast,↓reduceIte]
 rw[decide_eq_true g1,Bool.true_and] at hR
 simp (maxSteps:=10^6) only[g1,c0,k0,push_cast,↓reduceIte,Int.reduceNeg]
 (repeat (refine And.intro (by first|omega|decide) ?_))
 refine Kr rfl Aa3 rfl (Adj m.pl r.place h) (Aa rfl) ?_
 by_cases g2:r.s.und m.pl r.place=true
 rotate_left
 ·rw[Bool.not_eq_true] at g2
  rw[g2,Bool.false_and] at hR
  simp (maxSteps:=10^6) only[g2,hR,push_cast,↓reduceIte,Nat.reduceEqDiff,Nat.reduceLT,Int.reduceNeg]
 rw[g2,Bool.true_and] at hR
 simp (maxSteps:=10^6) only[g2,push_cast,↓reduceIte,Nat.reduceEqDiff,Nat.reduceLT,Int.reduceNeg]
 (repeat (refine And.intro (by first|omega|decide) ?_))
 refine B3 [(0,true),(1,true),(2,true),(3,true),(4,true),(5,true),(6,true),(7,true),(8,true),(9,true),(10,true),(11,true),(12,true),(13,true),(14,true),(15,true),(16,true),(17,true),(18,true),(19,true),(20,true),(21,true),(22,true),(23,true),(24,true),(25,true)] (by kernel_rfl) (by kernel_rfl) rfl (by kernel_rfl) ?_
 by_cases g3:m.ge=0
 ·rw[decide_eq_false (not_not_intro g3),Bool.false_and] at hR
  simp (maxSteps:=10^6) only[g3,hR,gm,f4,undef,push_cast,↓reduceIte,reduceCtorEq,Nat.reduceEqDiff,Nat.reduceLT,Int.reduceNeg]
 rw[decide_eq_true g3,Bool.true_and] at hR
 by_cases g4:(m.xs.l.length:Int)=r.dim
 rotate_left
 ·rw[decide_eq_false g4,Bool.false_and] at hR
  simp (maxSteps:=10^6) only[g3,g4,hR,c1,k1,hs,gm,f4,f41,vx,undef,push_cast,↓reduceIte,reduceCtorEq,Nat.reduceEqDiff,Nat.reduceLT,Int.reduceNeg]
 rw[decide_eq_true g4,Bool.true_and] at hR
 by_cases g5:m.ids.l=[]
 ·rw[g5,List.isEmpty_nil,Bool.not_true,Bool.false_and] at hR
  have g5:(m.ids.l.length:Int)=0:=by rw[g5];rfl
  simp (maxSteps:=10^6) only[g3,g4,g5,hR,c1,k1,hs,gm,f4,f38,f41,vi,vx,undef,push_cast,↓reduceIte,reduceCtorEq,Nat.reduceEqDiff,Nat.reduceLT,Int.reduceNeg]
 have g5e:m.ids.l.isEmpty=false:=by rw[←Bool.not_eq_true,List.isEmpty_iff];exact g5
 have g5:¬(m.ids.l.length:Int)=0:=by
  have:=List.length_pos_iff.2 g5
  omega
 rw[g5e,Bool.not_false,Bool.true_and] at hR
 by_cases g6:m.ns.l.length % 2=0
 rotate_left
 ·rw[decide_eq_false g6,Bool.false_and] at hR
  have g6:¬(m.ns.l.length:Int).tmod 2=0:=by rw[Int.tmod_eq_emod_of_nonneg (by omega)];omega
  simp (maxSteps:=10^6) only[g3,g4,g5,g6,hR,c1,k1,hs,gm,f4,f38,f39,f41,vi,vn,vx,undef,push_cast,↓reduceIte,reduceCtorEq,Nat.reduceEqDiff,Nat.reduceLT,Int.reduceNeg,Int.reduceEq]
 rw[decide_eq_true g6,Bool.true_and] at hR
 have g6i:(m.ns.l.length:Int).tmod 2=0:=by rw[Int.tmod_eq_emod_of_nonneg (by omega)];omega
 simp (maxSteps:=10^6) only[g3,g4,g5,g6i,c1,k1,hs,gm,f4,f38,f39,f40,f41,vi,vn,vp,vx,undef,push_cast,↓reduceIte,reduceCtorEq,Nat.reduceEqDiff,Nat.reduceLT,Int.reduceNeg,Int.reduceEq]
 refine Ro (by simp (maxSteps:=10^6) only[↓List.forall_mem_cons,↓Ag,↓A8,push_cast,Nat.reduceLT]) ?_
 refine Ic 1 (vs:=(idsP m.ps.l).map (Value.int .i64)) rfl rfl Vl rfl (Adk few.ps (Jp hm.ps.rd hm.ps.len)) (Aa rfl) (by simp (maxSteps:=10^6) only[↓List.forall_mem_cons,↓List.forall_mem_append,↓Ag,↓A8,push_cast,Nat.reduceLT,Nat.reduceAdd]) ?_
 intro A1 cap1 b1 _
 have hpl:(idsP m.ps.l).length≤1000:=by
  unfold idsP
  rw[List.length_map]
  exact few.ps
 generalize idsP m.ps.l=Q at hR b1 hpl ⊢
 rw[List.length_map] at b1
 simp (maxSteps:=10^6) only[List.length_map,undef,push_cast,↓reduceIte,reduceCtorEq,Nat.reduceEqDiff,Nat.reduceLT,Nat.reduceAdd,Int.reduceNeg]
 simp (maxSteps:=10^6) only[gm,f38,vi,push_cast,Nat.reduceLT,Int.reduceNeg]
 (repeat (refine And.intro (by first|omega|decide) ?_))
 refine Gl rfl Aa4 rfl (Auq (a:=m.ids.l) (Nat.le_trans few.ids (by omega)) (Nat.le_trans hpl (by omega)) (B4 hm.ids.rd _ _ (by simp) hm.ids.len) (Wq (kf:=1) rfl (List.mem_singleton.2 rfl) (by rw[List.length_map])) (by simp (maxSteps:=10^6) only[↓List.forall_mem_cons,↓Ag,push_cast,Nat.reduceAdd])) (Aa rfl) (by simp (maxSteps:=10^6) only[↓List.forall_mem_cons,↓Ag,↓A8,push_cast,Nat.reduceLT,Nat.reduceAdd]) ?_
 by_cases g7:Cs m.ids.l Q=[]
 rotate_left
 ·have g7e:(Cs m.ids.l Q).isEmpty=false:=by rw[←Bool.not_eq_true,List.isEmpty_iff];exact g7
  rw[g7e,Bool.false_and] at hR
  have g7:(0:Int) < (Cs m.ids.l Q).length:=by
   have:=List.length_pos_iff.2 g7
   omega
  simp (maxSteps:=10^6) only[g7,hR,push_cast,↓reduceIte,Nat.reduceLT,Nat.reduceAdd,Int.reduceNeg]
 rw[g7,List.isEmpty_nil,Bool.true_and] at hR
 rw[g7]
 simp (maxSteps:=10^6) only[push_cast,↓Int.cast_ofNat_Int,Int.cast_ofNat_Int,↓reduceIte,Nat.reduceEqDiff,Nat.reduceLT,Nat.reduceAdd,Int.reduceNeg,Int.reduceLT]
 refine Bj (ι:=Nat×Int×SlV Int×List Fct) (fun x=>⟨[(0,.x (.a (.v (.pointer (some a))))),(3,.x (.a (.p 0 0))),(5,.x (.a (.v (.slice A1 Q.length cap1)))),(6,.x (.a (.v (.int .i64 x.2.1)))),(7,.x (.a (.v x.2.2.1.val))),(8,.x (.a (.v (.int .i64 x.1))))],[.blk 48 (.c (mgA m)),.abs (fctRep x.2.2.2)]⟩)
  (fun x=>x.1 % 2=0∧x.1≤m.ns.l.length∧(⟨.slice A1 Q.length cap1,Q.length,Q.map (Value.int .i64)⟩:Fct)∈x.2.2.2∧(⟨x.2.2.1.val,x.2.2.1.l.length,x.2.2.1.l.map (Value.int .i64)⟩:Fct)∈x.2.2.2∧x.2.2.1.l.length≤1000∧R=Ek r.s m.pl m.ids.l Q (m.ns.l.drop x.1) x.2.1 x.2.2.1.l)
  (fun x=>m.ns.l.length - x.1) (0,-1,⟨A1,cap1,Q⟩,[⟨.slice A1 Q.length cap1,Q.length,Q.map (Value.int .i64)⟩]) [0,1] ⟨rfl,Nat.zero_le _,List.mem_singleton.2 rfl,List.mem_singleton.2 rfl,hpl,hR⟩ ?_ ?_
 ·simp (maxSteps:=10^6) only[SlV.val,↓List.forall_mem_cons,↓Ag,↓Ay,push_cast,↓Int.cast_ofNat_Int,Int.cast_ofNat_Int,↓reduceIte,reduceCtorEq,Nat.reduceEqDiff,Nat.reduceLT,Nat.reduceAdd,Int.reduceNeg]
 rintro⟨j,last,rest,Fs⟩ ⟨i1,i2,i3,i4,i5,i6⟩
 dsimp only at i1 i2 i3 i4 i5 i6
 by_cases hlt:(j:Int) < m.ns.l.length
 ·have j1:j+1 < m.ns.l.length:=by omega
  have j0:j < m.ns.l.length:=by omega
  have i0:(0:Int)≤j:=by omega
  have i1':(0:Int)≤(j:Int)+1:=by omega
  have j1':(j:Int)+1 < m.ns.l.length:=by omega
  have few2:=few.ns
  have few2:m.ns.l.length≤1000:=few2
  have jn:((j:Int)+1).toNat=j+1:=by omega
  have r1a:-9223372036854775808≤(j:Int)+1:=by omega
  have r1b:(j:Int)+1≤9223372036854775807:=by omega
  have N:=FM.of hm.ns.rd
  have N0:=N.cell j j0
  have O0:=N.ok j j0
  have N1:=N.cell (j+1) j1
  have O1:=N.ok (j+1) j1
  have hA:=N.some_ (by omega)
  have hd:m.ns.l.drop j=ix m.ns.l j::ix m.ns.l (j+1)::m.ns.l.drop (j+2):=by
   rw[List.drop_eq_getElem_cons j0,List.drop_eq_getElem_cons j1]
   simp only[ix,List.getD_eq_getElem?_getD,List.getElem?_eq_getElem j0,List.getElem?_eq_getElem j1]
   rfl
  rw[hd,Ek] at i6
  generalize ix m.ns.l j=x at*
  generalize ix m.ns.l (j+1)=y at*
  have vr:rest.val=.slice rest.A rest.l.length rest.c:=rfl
  simp (maxSteps:=10^6) only[hlt,gm,f39,vn,undef,push_cast,↓reduceIte,reduceCtorEq,Nat.reduceEqDiff,Nat.reduceLT,Nat.reduceAdd]
  (repeat (refine And.intro (by first|omega|decide) ?_))
  refine B3 [(0,true),(1,true),(2,true),(3,true),(4,true),(5,true),(6,true),(7,true),(8,true),(9,true),(10,true),(11,true),(12,true),(13,true),(14,true),(15,true),(16,true),(17,true),(18,true),(19,true),(20,true),(21,true),(22,true),(23,true),(24,true),(25,true),(26,true),(27,true),(28,true),(29,true)] (by kernel_rfl) (by kernel_rfl) rfl (by kernel_rfl) ?_
  have sl:r.s.spots.length=r.spots.l.length:=by
   show (r.spots.l.map SpR.sp).length=_
   rw[List.length_map]
  have spf:=h.sp.few.1
  have y1:(y < 1)↔y.toNat < 1:=UInt64.lt_iff_toNat_lt
  have y2:(1073741824 < y)↔1073741824 < y.toNat:=UInt64.lt_iff_toNat_lt
  by_cases g8:UInt64.ofInt (r.spots.l.length:Int)≤x
  ·rw[if_pos (.inl (by rw[sl];exact (Wr spf x).1 g8))] at i6
   simp (maxSteps:=10^6) only[i6,g8,hlt,i0,N0,O0,hA,c2,k2,hs,gm,f39,vn,undef,push_cast,↓Int.toNat_natCast,↓reduceIte,reduceCtorEq,Nat.reduceEqDiff,Nat.reduceLT,Nat.reduceAdd]
  by_cases g9:y < 1
  ·rw[if_pos (.inr (.inl (y1.1 g9)))] at i6
   simp (maxSteps:=10^6) only[g9,i6,g8,hlt,i0,N0,O0,hA,c2,k2,hs,i1',j1',jn,r1a,r1b,N1,O1,gm,f39,vn,undef,push_cast,↓Int.toNat_natCast,↓reduceIte,reduceCtorEq,Nat.reduceEqDiff,Nat.reduceLT,Nat.reduceAdd,Int.reduceNeg]
  by_cases g10:1073741824 < y
  ·rw[if_pos (.inr (.inr (y2.1 g10)))] at i6
   simp (maxSteps:=10^6) only[g9,g10,i6,g8,hlt,i0,N0,O0,hA,c2,k2,hs,i1',j1',jn,r1a,r1b,N1,O1,gm,f39,vn,undef,push_cast,↓Int.toNat_natCast,↓reduceIte,reduceCtorEq,Nat.reduceEqDiff,Nat.reduceLT,Nat.reduceAdd,Int.reduceNeg]
  rw[if_neg (fun e=>by
   rcases e with e|e|e
   ·exact g8 ((Wr spf x).2 (by rw[←sl];exact e))
   ·exact g9 (y1.2 e)
   ·exact g10 (y2.2 e))] at i6
  have qs:x.toNat < r.spots.l.length:=Nat.lt_of_not_le fun e=>g8 ((Wr spf x).2 e)
  have x0:0≤n64 x:=by unfold n64;omega
  have xl:n64 x < (r.spots.l.length:Int):=by unfold n64;omega
  have xn:(n64 x).toNat=x.toNat:=by unfold n64;omega
  have q1:-9223372036854775808≤n64 x:=by omega
  have q2:n64 x≤9223372036854775807:=by omega
  have es:ix r.s.spots x.toNat=(ix r.spots.l x.toNat).sp:=by
   show ix (r.spots.l.map SpR.sp) x.toNat=_
   simp only[ix,List.getD_eq_getElem?_getD,List.getElem?_map,List.getElem?_eq_getElem qs]
   rfl
  rw[es] at i6
  have S:=FLm.of St (by decide) h.sp.rd
  obtain⟨w1,w2⟩:=S.whole x.toNat qs
  obtain⟨d2,o2⟩:=S.cell x.toNat 2 _ qs rfl
  have hB:=S.some_ (by omega)
  have cl:=h.sp.cl _ (Ez qs)
  have clf:=(h.sp.few.2 _ (Ez qs)).2
  generalize ix r.spots.l x.toNat=sp at*
  have w1:Cl w (Af r.spots.A (x.toNat*3)) 3 0=[.v (.slice sp.above.A sp.above.l.length sp.above.c),.v (.slice sp.clients.A sp.clients.l.length sp.clients.c),.v (.int .i64 sp.need)]:=w1
  have i6:R=if n64 x≤last∨(¬n64 x=m.pl∧r.s.und (n64 x) m.pl=false)∨sp.need=0 then false
   else if ((By Q sp.clients.l).length:Int) < sp.need∨((By m.ids.l sp.clients.l).length:Int) < sp.need then false
   else Ek r.s m.pl m.ids.l Q (m.ns.l.drop (j+2)) (n64 x) (Cs rest.l sp.clients.l):=i6
  by_cases g11:n64 x≤last
  ·rw[if_pos (.inl g11)] at i6
   simp (maxSteps:=10^6) only[i6,g8,g9,g10,g11,q1,q2,hlt,i0,N0,O0,hA,c2,k2,hs,i1',j1',jn,r1a,r1b,N1,O1,gm,f39,vn,undef,push_cast,↓Int.toNat_natCast,↓reduceIte,reduceCtorEq,Nat.reduceEqDiff,Nat.reduceLT,Nat.reduceAdd,Int.reduceNeg]
  apply S6 (P:=prog) (w0:=w) (ow:=No) (n:=171) (X:=Unit) (fun _=>sp.need≠0∧R=if ((By Q sp.clients.l).length:Int) < sp.need∨((By m.ids.l sp.clients.l).length:Int) < sp.need then false else Ek r.s m.pl m.ids.l Q (m.ns.l.drop (j+2)) (n64 x) (Cs rest.l sp.clients.l)) (fun _=>⟨[(0,.x (.a (.v (.pointer (some a))))),(3,.x (.a (.p 0 0))),(5,.x (.a (.v (.slice A1 Q.length cap1)))),(6,.x (.a (.v (.int .i64 (n64 x))))),(7,.x (.a (.v rest.val))),(8,.x (.a (.v (.int .i64 j)))),(9,.x (.a (.v (.int .i64 (n64 x))))),(10,.x (.a (.p 2 0)))],
   [.blk 48 (.c (mgA m)),.abs (fctRep Fs),.blk 122 (.c [.v (.slice sp.above.A sp.above.l.length sp.above.c),.v (.slice sp.clients.A sp.clients.l.length sp.clients.c),.v (.int .i64 sp.need)])]⟩)
  ·intro J
   by_cases g12:n64 x=m.pl
   ·by_cases g14:sp.need=0
    ·rw[if_pos (.inr (.inr g14))] at i6
     have g12:=eq_true g12
     simp (maxSteps:=10^6) only[g12,g14,d2,o2,i6,g8,g9,g10,g11,x0,xl,xn,q1,q2,hB,Ce,Bp,hlt,i0,N0,O0,hA,c2,k2,hs,i1',j1',jn,r1a,r1b,N1,O1,gm,f1,f39,vn,undef,push_cast,↓Int.toNat_natCast,↓reduceIte,reduceCtorEq,Nat.reduceEqDiff,Nat.reduceLT,Nat.reduceAdd,Int.reduceNeg]
    rw[if_neg (by rintro (e|⟨e,_⟩|e)<;>first|exact g11 e|exact e g12|exact g14 e)] at i6
    have J:=J () ⟨g14,i6⟩
    have g12:=eq_true g12
    simp (maxSteps:=10^6) only[g12,g14,d2,o2,w1,w2,g8,g9,g10,g11,x0,xl,xn,q1,q2,hB,Ce,Bp,hlt,i0,N0,O0,hA,c2,k2,hs,i1',j1',jn,r1a,r1b,N1,O1,gm,f1,f39,vn,undef,↓List.forall_mem_cons,↓Ag,push_cast,↓Int.toNat_natCast,↓reduceIte,reduceCtorEq,Nat.reduceEqDiff,Nat.reduceLT,Nat.reduceAdd,Int.reduceNeg]
    (repeat (refine And.intro (by first|omega|decide) ?_))
    refine Hw [0,3,5,6,7,8,9,10] ?_
    simp (maxSteps:=10^6) only[push_cast,↓reduceIte,reduceCtorEq,Nat.reduceEqDiff]
    exact J
   ·simp (maxSteps:=10^6) only[g12,g8,g9,g10,g11,q1,q2,hlt,i0,N0,O0,hA,c2,k2,hs,i1',j1',jn,r1a,r1b,N1,O1,gm,f1,f39,vn,undef,push_cast,↓Int.toNat_natCast,↓reduceIte,reduceCtorEq,Nat.reduceEqDiff,Nat.reduceLT,Nat.reduceAdd,Int.reduceNeg]
    (repeat (refine And.intro (by first|omega|decide) ?_))
    refine Am rfl Aa3 rfl (Adj (n64 x) m.pl h) (Aa rfl) ?_
    by_cases g13:r.s.und (n64 x) m.pl=false
    ·rw[if_pos (.inr (.inl ⟨g12,g13⟩))] at i6
     simp (maxSteps:=10^6) only[g13,i6,undef,push_cast,↓reduceIte,Nat.reduceEqDiff,Nat.reduceLT,Nat.reduceAdd]
    rw[Bool.not_eq_false] at g13
    by_cases g14:sp.need=0
    ·rw[if_pos (.inr (.inr g14))] at i6
     simp (maxSteps:=10^6) only[g13,g14,d2,o2,i6,x0,xl,xn,hB,Ce,Bp,c2,k2,hs,push_cast,↓reduceIte,reduceCtorEq,Nat.reduceEqDiff,Nat.reduceLT,Nat.reduceAdd]
    rw[if_neg (by rintro (e|⟨_,e⟩|e)<;>first|exact g11 e|(rw[g13] at e;cases e)|exact g14 e)] at i6
    have J:=J () ⟨g14,i6⟩
    simp (maxSteps:=10^6) only[g13,g14,d2,o2,w1,w2,x0,xl,xn,hB,Ce,Bp,c2,k2,hs,undef,↓List.forall_mem_cons,↓Ag,push_cast,↓reduceIte,reduceCtorEq,Nat.reduceEqDiff,Nat.reduceLT,Nat.reduceAdd]
    (repeat (refine And.intro (by first|omega|decide) ?_))
    refine Hw [0,3,5,6,7,8,9,10] ?_
    simp (maxSteps:=10^6) only[push_cast,↓reduceIte,reduceCtorEq,Nat.reduceEqDiff]
    exact J
  clear i6
  rintro _ ⟨g14,i6⟩
  refine B3 [(0,true),(1,true),(2,true),(5,true),(6,true),(3,false),(4,true),(7,true),(8,true),(9,true),(10,true),(11,true),(12,true),(15,true),(16,true),(13,false),(14,true),(17,true),(18,true)] (by kernel_rfl) (by kernel_rfl) rfl (by kernel_rfl) ?_
  simp (maxSteps:=10^6) only[undef,push_cast,↓reduceIte,reduceCtorEq,Nat.reduceEqDiff,Nat.reduceLT,Nat.reduceAdd]
  (repeat (refine And.intro (by first|omega|decide) ?_))
  refine Nw rfl Ny rfl (Oh (a:=Q) (b:=sp.clients.l) (Nat.le_trans hpl (by omega)) (Nat.le_trans clf (by omega)) (Wq (kf:=1) rfl i3 (by rw[List.length_map])) (B4 cl.2 _ _ (by simp) cl.1) (by simp (maxSteps:=10^6) only[↓List.forall_mem_cons,↓Ag,push_cast,Nat.reduceAdd])) (Aa rfl) (by simp (maxSteps:=10^6) only[↓List.forall_mem_cons,↓Ag,push_cast,Nat.reduceLT,Nat.reduceAdd]) ?_
  by_cases g15:((By Q sp.clients.l).length:Int) < sp.need
  ·rw[if_pos (.inl g15)] at i6
   simp (maxSteps:=10^6) only[g15,i6,undef,push_cast,↓reduceIte,Nat.reduceEqDiff,Nat.reduceLT,Nat.reduceAdd]
  simp (maxSteps:=10^6) only[g15,gm,f38,vi,undef,push_cast,↓reduceIte,reduceCtorEq,Nat.reduceEqDiff,Nat.reduceLT,Nat.reduceAdd]
  (repeat (refine And.intro (by first|omega|decide) ?_))
  refine Nw rfl Ny rfl (Oh (a:=m.ids.l) (b:=sp.clients.l) (Nat.le_trans few.ids (by omega)) (Nat.le_trans clf (by omega)) (B4 hm.ids.rd _ _ (by simp) hm.ids.len) (B4 cl.2 _ _ (by simp) cl.1) (by simp (maxSteps:=10^6) only[↓List.forall_mem_cons,↓Ag,push_cast,Nat.reduceAdd])) (Aa rfl) (by simp (maxSteps:=10^6) only[↓List.forall_mem_cons,↓Ag,push_cast,Nat.reduceLT,Nat.reduceAdd]) ?_
  by_cases g16:((By m.ids.l sp.clients.l).length:Int) < sp.need
  ·rw[if_pos (.inr g16)] at i6
   simp (maxSteps:=10^6) only[g16,i6,push_cast,↓reduceIte,Nat.reduceEqDiff,Nat.reduceLT,Nat.reduceAdd]
  rw[if_neg (by rintro (e|e)<;>first|exact g15 e|exact g16 e)] at i6
  simp (maxSteps:=10^6) only[g16,undef,push_cast,↓reduceIte,reduceCtorEq,Nat.reduceEqDiff,Nat.reduceLT,Nat.reduceAdd]
  (repeat (refine And.intro (by first|omega|decide) ?_))
  refine Ic 1 (vs:=(Cs rest.l sp.clients.l).map (Value.int .i64)) rfl rfl Aa4 rfl (Adi (a:=rest.l) (b:=sp.clients.l) (Nat.le_trans i5 (by omega)) (Nat.le_trans clf (by omega)) (Adp (kf:=1) rfl i4 (by rw[List.length_map])) (B4 cl.2 _ _ (by simp) cl.1)) (Aa rfl) (by simp (maxSteps:=10^6) only[↓List.forall_mem_cons,↓Ag,push_cast,Nat.reduceLT,Nat.reduceAdd]) ?_
  intro A2 cap2 b2 _
  rw[List.length_map] at b2
  have ll:(Cs rest.l sp.clients.l).length≤64:=Avx _ _
  have r2a:-9223372036854775808≤(j:Int)+2:=by omega
  have r2b:(j:Int)+2≤9223372036854775807:=by omega
  simp (maxSteps:=10^6) only[List.length_map,r2a,r2b,push_cast,↓reduceIte,reduceCtorEq,Nat.reduceEqDiff,Nat.reduceLT,Nat.reduceAdd,Int.reduceNeg]
  refine Ba (j+2,n64 x,⟨A2,cap2,Cs rest.l sp.clients.l⟩,Fs++[⟨.slice A2 (Cs rest.l sp.clients.l).length cap2,(Cs rest.l sp.clients.l).length,(Cs rest.l sp.clients.l).map (Value.int .i64)⟩]) [0,1] ⟨by show (j+2) % 2=0;omega,by show j+2≤_;omega,List.mem_append_left _ i3,List.mem_append_right _ (List.mem_singleton.2 rfl),by show (Cs rest.l sp.clients.l).length≤1000;omega,i6⟩ (by show m.ns.l.length - (j+2) < m.ns.l.length - j;omega) ?_
  simp (maxSteps:=10^6) only[SlV.val,↓List.forall_mem_cons,↓Ag,↓Ay,push_cast,↓reduceIte,reduceCtorEq,Nat.reduceEqDiff,Nat.reduceLT,Nat.reduceAdd]
  omega
 ·have ej:j=m.ns.l.length:=by omega
  subst ej
  rw[List.drop_length,Avw] at i6
  have vr:rest.val=.slice rest.A rest.l.length rest.c:=rfl
  by_cases g17:rest.l=[]
  ·rw[g17,List.isEmpty_nil] at i6
   have g17:(rest.l.length:Int)=0:=by rw[g17];rfl
   simp (maxSteps:=10^6) only[hlt,vr,g17,i6,gm,f39,vn,undef,push_cast,↓reduceIte,reduceCtorEq,Nat.reduceEqDiff,Nat.reduceLT,Nat.reduceAdd]
  ·have g17e:rest.l.isEmpty=false:=by rw[←Bool.not_eq_true,List.isEmpty_iff];exact g17
   rw[g17e] at i6
   have g17:¬(rest.l.length:Int)=0:=by
    have:=List.length_pos_iff.2 g17
    omega
   simp (maxSteps:=10^6) only[hlt,vr,g17,i6,gm,f39,vn,undef,push_cast,↓reduceIte,reduceCtorEq,Nat.reduceEqDiff,Nat.reduceLT,Nat.reduceAdd]
end Go.Proofs.YtedaafmfjhjfmaaGreatDoor
