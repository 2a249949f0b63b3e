import Derived.Test.YtedaafmfjhjfmaaGreatDoorTs3
/- Law 29: giveConf, bigConf. -/
namespace Go.Proofs.YtedaafmfjhjfmaaGreatDoor
open Go.RowKit
set_option linter.unusedSimpArgs false
set_option linter.unusedVariables false
attribute [local irreducible] Ad Ae Ah Au Am Ap Ai Ao
attribute [local irreducible] Fl vC
set_option maxRecDepth 100000 in
set_option maxHeartbeats 1000000 in
theorem A7c (c:CfR) (w:World) (hc:c.Wide w):Calls Tryz.prog 22 #[.agg (cfV c).toArray] w fun e w'=>∃γ1,e=.returned ((Sv.x (.g [.v (.int .i64 c.dim),.o 0,.o 1,.v (.int .i64 c.least),.v (.int .i64 c.term)])).val γ1)∧Sat w No γ1 [.onn 98 3 (.c (vC (c.ps.l.flatMap plV))),.abs (Ep (c.gs.l.map GrR.gr))] w':=by
 have F:=FLm.of Iv (by decide) hc.prd
 have G:=FLm.of Hv (by decide) hc.grd
 have hpw:=hc.pw
 have hgw:=hc.gw
 refine Kt Tryz.func22 rfl Tryz.ntmps22 [.x (.g [.v (.int .i64 c.dim),.v (.slice c.ps.A c.ps.l.length c.ps.c),.v (.slice c.gs.A c.gs.l.length c.gs.c),.v (.int .i64 c.least),.v (.int .i64 c.term)])] (Sat.init w No) (by simp) (fun sv hp=>∃(gR:List GrR) (Fs:List Fct),gR.map GrR.gr=c.gs.l.map GrR.gr∧(∀g∈gR,Ql g∈Fs)∧Mj (.x (.g [.v (.int .i64 c.dim),.o 0,.o 1,.v (.int .i64 c.least),.v (.int .i64 c.term)])) [.onn 98 3 (.c (vC (c.ps.l.flatMap plV))),.onn 96 3 (.c (vC (gR.flatMap grV))),.abs (Ac Fs)] sv hp) (fun γ sv hp' w' hS ⟨gR,Fs,h1,h2,ρ,h3,h4,h5,h6⟩=>?_) ?_
 ·obtain⟨hS2,hρ⟩:=hS.sel h4 h5 h6.2
  obtain⟨γ',e1,e2,hS3⟩:=A06 hS2 h2
  rw[h1] at hS3
  refine⟨γ',?_,hS3⟩
  have e:sv=(Sv.x (.g [.v (.int .i64 c.dim),.o 0,.o 1,.v (.int .i64 c.least),.v (.int .i64 c.term)])).ren ρ:=by
   have:=h3.1
   simp only[Fr.get,if_true,Option.some.injEq] at this
   exact this
  have hlen:ρ.length=3:=(Ih h4).1
  have hv:=Sv.re hρ (x:=.x (.g [.v (.int .i64 c.dim),.o 0,.o 1,.v (.int .i64 c.least),.v (.int .i64 c.term)])) (by rw[hlen];simp only[push_cast,Nat.reduceLT])
  rw[e,←hv]
  show Ending.returned (Value.agg [_,nmS _ 0,nmS _ 1,_,_].toArray)=Ending.returned (Value.agg [_,nmS γ' 0,nmS γ' 1,_,_].toArray)
  rw[e1,e2]
  rfl
 simp (maxSteps:=10^6) only[undef,push_cast,↓reduceIte,reduceCtorEq,Nat.reduceEqDiff,Nat.reduceLT,Nat.reduceAdd]
 refine Qj 2 1 38 98 3 _ (.c []) (by omega) rfl rfl rfl (by simp (maxSteps:=10^6) only[push_cast,Nat.reduceLT,Nat.reduceAdd]) ?_
 simp (maxSteps:=10^6) only[push_cast,Nat.reduceAdd]
 refine Bc (ι:=Nat) (fun i=>⟨[(1,.x (.a (.p 0 0))),(2,.x (.a (.p 1 0))),(3,.x (.a (.p 2 0))),(4,.x (.a (.v (.int .i64 i))))],[.blk 25 (.c [.v (.int .i64 c.dim),.v (.slice c.ps.A c.ps.l.length c.ps.c),.v (.slice c.gs.A c.gs.l.length c.gs.c),.v (.int .i64 c.least),.v (.int .i64 c.term)]),.blk 38 (.c [.v (.int .i64 0),.v (.slice none 0 0),.v (.slice none 0 0),.v (.int .i64 0),.v (.int .i64 0)]),.blk 38 (.c [.v (.int .i64 c.dim),.o 3,.v (.slice none 0 0),.v (.int .i64 c.least),.v (.int .i64 c.term)]),.onn 98 3 (.c (vC (Fl c i)))]⟩) (fun i=>i≤c.ps.l.length) (fun i=>c.ps.l.length - i) 0 [0,1,2,3] (Nat.zero_le _) ?_ ?_
 ·have e0:vC (Fl c 0)=[]:=by unfold vC Fl;rfl
  simp (maxSteps:=10^6) only[e0,push_cast,↓Int.cast_ofNat_Int,Int.cast_ofNat_Int,↓reduceIte,reduceCtorEq,Nat.reduceEqDiff,Nat.reduceLT,Nat.reduceAdd]
  done
 intro i hi
 by_cases hlt:(i:Int) < c.ps.l.length
 ·have hil:i < c.ps.l.length:=by omega
  have i0:(0:Int)≤i:=by omega
  obtain⟨w1,w2⟩:=F.whole i hil
  have hA:=F.some_ (by omega)
  have hs:=A62 hil
  have hl:=A63 (c:=c) hi
  have e3:i*3 / 3=i:=Nat.mul_div_cancel _ (by omega)
  have b1:(i+1)*24≤140737488355328:=by omega
  have b2:i+1≤2 ^ 63 - 1:=by omega
  generalize ix c.ps.l i=x at*
  have w1:Ca w (Ag c.ps.A (i*3)) 3 0=[.v (.int .i64 x.parent),.v (.int .i64 x.spare),.v (.int .i64 x.need)]:=w1
  simp (maxSteps:=10^6) only[hlt,undef,push_cast,↓reduceIte,reduceCtorEq,Nat.reduceEqDiff,Nat.reduceLT,Nat.reduceAdd]
  (repeat (refine And.intro (by first|omega|decide) ?_))
  refine M1 4 [3] 10 (.rd 0 (.rd 1 (.rd 2 (.rd 3 (.rd 4 (.rd 5 (.rd 6 (.wr 7 (.wr 8 (.rd 9 .nil)))))))))) ⟨[(1,.x (.a (.p 0 0))),(2,.x (.a (.p 1 0))),(3,.x (.a (.p 2 0))),(4,.x (.a (.v (.int .i64 i)))),(28,.x (.a (.o 4))),(29,.x (.a (.p 2 1)))],[.blk 25 (.c [.v (.int .i64 c.dim),.v (.slice c.ps.A c.ps.l.length c.ps.c),.v (.slice c.gs.A c.gs.l.length c.gs.c),.v (.int .i64 c.least),.v (.int .i64 c.term)]),.blk 38 (.c [.v (.int .i64 0),.v (.slice none 0 0),.v (.slice none 0 0),.v (.int .i64 0),.v (.int .i64 0)]),.blk 38 (.c [.v (.int .i64 c.dim),.o 3,.v (.slice none 0 0),.v (.int .i64 c.least),.v (.int .i64 c.term)]),.gone,.onn 98 3 (.c (vC (Fl c i)++[.v (.int .i64 x.parent),.v (.int .i64 x.spare),.v (.int .i64 x.need)]))]⟩ (by kernel_rfl) (by kernel_rfl) (Nat.le_refl 4) ?_ ?_
  ·simp (maxSteps:=10^6) only[hlt,i0,w1,w2,hA,hl,e3,b1,b2,Bf,undef,push_cast,↓Int.toNat_natCast,↓reduceIte,reduceCtorEq,Nat.reduceEqDiff,Nat.reduceLT,Nat.reduceLeDiff,Nat.reduceAdd,Nat.reduceSub,Nat.reduceMul]
   (repeat (refine And.intro (by first|omega|decide) ?_))
   refine Ik [0,1,2,3,5] ?_
   simp (maxSteps:=10^6) only[push_cast,↓reduceIte,reduceCtorEq,Nat.reduceEqDiff,Nat.reduceLT,Nat.reduceAdd]
   done
  ·simp (maxSteps:=10^6) only[undef,push_cast,↓reduceIte,Nat.reduceEqDiff,Nat.reduceLT,Nat.reduceAdd,Int.reduceNeg]
   (repeat (refine And.intro (by first|omega|decide) ?_))
   refine Ay (i+1) [0,1,2,4] (by show i+1≤_;omega) (by show c.ps.l.length - (i+1) < c.ps.l.length - i;omega) ?_
   simp (maxSteps:=10^6) only[hs,push_cast,↓reduceIte,reduceCtorEq,Nat.reduceEqDiff,Nat.reduceLT,Nat.reduceAdd]
   done
 obtain rfl:i=c.ps.l.length:=by omega
 simp (maxSteps:=10^6) only[hlt,A64,undef,push_cast,↓reduceIte,reduceCtorEq,Nat.reduceEqDiff,Nat.reduceLT,Nat.reduceAdd]
 refine Qj 2 2 38 96 3 _ (.c []) (by omega) rfl rfl rfl (by simp (maxSteps:=10^6) only[push_cast,Nat.reduceLT,Nat.reduceAdd]) ?_
 simp (maxSteps:=10^6) only[push_cast,Nat.reduceAdd]
 refine Axy (by simp (maxSteps:=10^6) only[push_cast,Nat.reduceLT,Nat.reduceAdd]) ?_
 simp (maxSteps:=10^6) only[push_cast]
 refine Bc (ι:=Nat×List GrR×List Fct) (fun x=>⟨[(1,.x (.a (.p 0 0))),(2,.x (.a (.p 1 0))),(3,.x (.a (.p 2 0))),(5,.x (.a (.v (.int .i64 (x.1:Nat)))))],[.blk 25 (.c [.v (.int .i64 c.dim),.v (.slice c.ps.A c.ps.l.length c.ps.c),.v (.slice c.gs.A c.gs.l.length c.gs.c),.v (.int .i64 c.least),.v (.int .i64 c.term)]),.blk 38 (.c [.v (.int .i64 0),.v (.slice none 0 0),.v (.slice none 0 0),.v (.int .i64 0),.v (.int .i64 0)]),.blk 38 (.c [.v (.int .i64 c.dim),.o 3,.o 4,.v (.int .i64 c.least),.v (.int .i64 c.term)]),.onn 98 3 (.c (vC (c.ps.l.flatMap plV))),.onn 96 3 (.c (vC (x.2.1.flatMap grV))),.abs (Ac x.2.2)]⟩)
  (fun x=>x.1≤c.gs.l.length∧x.2.1.length=x.1∧x.2.1.map GrR.gr=(c.gs.l.take x.1).map GrR.gr∧∀g∈x.2.1,Ql g∈x.2.2) (fun x=>c.gs.l.length - x.1) (0,[],[]) [0,1,2,3,4,5] ⟨Nat.zero_le _,rfl,rfl,fun g hg=>by cases hg⟩ ?_ ?_
 ·have e0:vC (([]:List GrR).flatMap grV)=[]:=by unfold vC;rfl
  simp (maxSteps:=10^6) only[e0,push_cast,↓Int.cast_ofNat_Int,Int.cast_ofNat_Int,↓reduceIte,reduceCtorEq,Nat.reduceEqDiff,Nat.reduceLT,Nat.reduceAdd]
  done
 rintro⟨i,gR,Fs⟩ ⟨hi,hgl,hgr,hF⟩
 dsimp only at hi hgl hgr hF
 by_cases hlt:(i:Int) < c.gs.l.length
 ·have hil:i < c.gs.l.length:=by omega
  have i0:(0:Int)≤i:=by omega
  have hA:=G.some_ (by omega)
  have ht:(c.gs.l.take (i+1)).map GrR.gr=(c.gs.l.take i).map GrR.gr++[(ix c.gs.l i).gr]:=by
   rw[List.take_add_one,List.getElem?_eq_getElem hil,Option.toList_some,List.map_append,ix,List.getD_eq_getElem?_getD,List.getElem?_eq_getElem hil]
   rfl
  obtain⟨k1,k2,k3⟩:=hc.ids _ (C4 hil)
  obtain⟨c0,o0⟩:=G.cell i 0 _ hil rfl
  obtain⟨c1,o1⟩:=G.cell i 1 _ hil rfl
  obtain⟨c2,o2⟩:=G.cell i 2 _ hil rfl
  rw[Nat.add_zero] at c0 o0
  generalize ix c.gs.l i=g at*
  have c1:Az w (Ag c.gs.A (i*3+1))=.slice g.ids.A g.ids.l.length g.ids.c:=c1
  obtain⟨r1,r2⟩:=Pd (FV.no k3)
  have e3:i*3 / 3=i:=Nat.mul_div_cancel _ (by omega)
  have hvl:(gR.flatMap grV).length=i*3:=by rw[Cc Hv,hgl]
  have b1:(i+1)*40≤140737488355328:=by omega
  have b2:i+1≤2 ^ 63 - 1:=by omega
  have b3:g.ids.l.length*8≤140737488355328:=by omega
  have b4:g.ids.l.length≤2 ^ 63 - 1:=by omega
  simp (maxSteps:=10^6) only[hlt,undef,push_cast,↓reduceIte,reduceCtorEq,Nat.reduceEqDiff,Nat.reduceLT,Nat.reduceAdd]
  (repeat (refine And.intro (by first|omega|decide) ?_))
  refine M1 6 [4] 26 (.rd 0 (.rd 1 (.rd 2 (.rd 3 (.rd 4 (.rd 5 (.rd 6 (.rd 7 (.rd 9 (.rd 10 (.rd 11 (.rd 12 (.rd 13 (.rd 14 (.rd 16 (.rd 17 (.rd 18 (.rd 19 (.rd 20 (.rd 21 (.wr 8 (.wr 15 (.wr 22 (.wr 23 (.wr 24 (.rd 25 .nil)))))))))))))))))))))))))) ⟨[(1,.x (.a (.p 0 0))),(2,.x (.a (.p 1 0))),(3,.x (.a (.p 2 0))),(5,.x (.a (.v (.int .i64 i)))),(61,.x (.a (.o 7))),(62,.x (.a (.p 2 2)))],[.blk 25 (.c [.v (.int .i64 c.dim),.v (.slice c.ps.A c.ps.l.length c.ps.c),.v (.slice c.gs.A c.gs.l.length c.gs.c),.v (.int .i64 c.least),.v (.int .i64 c.term)]),.blk 38 (.c [.v (.int .i64 0),.v (.slice none 0 0),.v (.slice none 0 0),.v (.int .i64 0),.v (.int .i64 0)]),.blk 38 (.c [.v (.int .i64 c.dim),.o 3,.o 4,.v (.int .i64 c.least),.v (.int .i64 c.term)]),.onn 98 3 (.c (vC (c.ps.l.flatMap plV))),.gone,.abs (Ac Fs),.own 3 (.i64 g.ids.l),.onn 96 3 (.c (vC (gR.flatMap grV)++[.v (.int .i64 g.place),.o 6,.v (.int .i64 g.need)]))]⟩ (by kernel_rfl) (by kernel_rfl) (Nat.le_refl 6) ?_ ?_
  ·simp (maxSteps:=10^6) only[hlt,i0,c0,o0,c1,o1,c2,o2,hA,hvl,e3,r1,r2,b1,b2,b3,b4,Bu,Bf,undef,push_cast,↓Int.toNat_natCast,↓reduceIte,reduceCtorEq,Nat.reduceEqDiff,Nat.reduceLT,Nat.reduceLeDiff,Nat.reduceAdd,Nat.reduceSub,Nat.reduceMul]
   (repeat (refine And.intro (by first|omega|decide) ?_))
   refine Ik [0,1,2,3,4,5,7,9] ?_
   simp (maxSteps:=10^6) only[push_cast,↓reduceIte,reduceCtorEq,Nat.reduceEqDiff,Nat.reduceLT,Nat.reduceAdd]
   done
  ·simp (maxSteps:=10^6) only[undef,push_cast,↓reduceIte,Nat.reduceEqDiff,Nat.reduceLT,Nat.reduceAdd,Int.reduceNeg]
   (repeat (refine And.intro (by first|omega|decide) ?_))
   refine Yg 6 5 (vs:=g.ids.l.map (Value.int .i64)) rfl (fun _=>rfl) rfl (by decide) fun A1 cap1 h1 h2=>?_
   rw[List.length_map]
   obtain⟨g',hg'⟩:∃g':GrR,g'=⟨g.place,⟨A1,cap1,g.ids.l⟩,g.need⟩:=⟨_,rfl⟩
   have hap:vC ((gR++[g']).flatMap grV)=vC (gR.flatMap grV)++[.v (.int .i64 g.place),.v (.slice A1 g.ids.l.length cap1),.v (.int .i64 g.need)]:=by
    rw[List.flatMap_append,M2,hg'];unfold vC;rfl
   refine Ay (i+1,gR++[g'],Fs++[⟨.slice A1 g.ids.l.length cap1,g.ids.l.length,g.ids.l.map (Value.int .i64)⟩]) [0,1,2,3,7,5] ⟨by show i+1≤_;omega,by show (gR++[_]).length=_;rw[List.length_append,hgl];rfl,?_,fun x hx=>?_⟩ (by show c.gs.l.length - (i+1) < c.gs.l.length - i;omega) ?_
   ·show (gR++[_]).map GrR.gr=_
    rw[List.map_append,hgr,ht,hg']
    rfl
   ·rcases List.mem_append.1 hx with hx|hx
    ·exact List.mem_append_left _ (hF x hx)
    ·rw[List.mem_singleton.1 hx,hg']
     exact List.mem_append_right _ (List.mem_singleton.2 rfl)
   ·simp (maxSteps:=10^6) only[hap,push_cast,↓reduceIte,reduceCtorEq,Nat.reduceEqDiff,Nat.reduceLT,Nat.reduceAdd]
    done
 obtain rfl:i=c.gs.l.length:=by omega
 rw[List.take_length] at hgr
 simp (maxSteps:=10^6) only[hlt,undef,push_cast,↓reduceIte,reduceCtorEq,Nat.reduceEqDiff,Nat.reduceLT,Nat.reduceAdd]
 refine⟨gR,Fs,hgr,hF,?_⟩
 refine Fw [3,4,5] ?_
 simp (maxSteps:=10^6) only[push_cast,↓reduceIte,Nat.reduceEqDiff,Nat.reduceLT,Nat.reduceAdd]
 done
theorem A7d {w0:World} {hp:List Res} (c:CfR) (hc:c.Wide w0) (hbr:∀r∈hp,Res.bnd hp.length r):
  Ae Tryz.prog w0 No 22 [.x (.g [.v (.int .i64 c.dim),.v (.slice c.ps.A c.ps.l.length c.ps.c),.v (.slice c.gs.A c.gs.l.length c.gs.c),.v (.int .i64 c.least),.v (.int .i64 c.term)])] hp (.x (.g [.v (.int .i64 c.dim),.o hp.length,.o (hp.length+1),.v (.int .i64 c.least),.v (.int .i64 c.term)])) (hp++[.onn 98 3 (.c (vC (c.ps.l.flatMap plV))),.abs (Ep (c.gs.l.map GrR.gr))]):=by
 have:=Yb (P:=Tryz.prog) (w0:=w0) (ow:=No) (f:=22) (svs:=[.x (.g [.v (.int .i64 c.dim),.v (.slice c.ps.A c.ps.l.length c.ps.c),.v (.slice c.gs.A c.gs.l.length c.gs.c),.v (.int .i64 c.least),.v (.int .i64 c.term)])]) (hp:=hp) (sv1:=.x (.g [.v (.int .i64 c.dim),.o 0,.o 1,.v (.int .i64 c.least),.v (.int .i64 c.term)])) (hp1:=[.onn 98 3 (.c (vC (c.ps.l.flatMap plV))),.abs (Ep (c.gs.l.map GrR.gr))]) [] hbr
  (by simp only[push_cast,Nat.reduceAdd]) (by simp only[push_cast,Nat.reduceLT,Nat.reduceAdd]) fun γ w hS=>⟨No,fun b h=>h.elim,A7c c w (hc.later hS)⟩
 have e:Cont.ren (B0 hp.length 2) (.c (vC (c.ps.l.flatMap plV)))=.c (vC (c.ps.l.flatMap plV)):=by show Cont.c _=_;rw[Z7]
 have e2:Dc [] hp++List.map (Res.ren (B0 hp.length 2)) [.onn 98 3 (.c (vC (c.ps.l.flatMap plV))),.abs (Ep (c.gs.l.map GrR.gr))]=hp++[.onn 98 3 (.c (vC (c.ps.l.flatMap plV))),.abs (Ep (c.gs.l.map GrR.gr))]:=by
  show hp++[Res.onn _ 3 (Cont.ren _ _),Res.abs _]=_
  rw[e]
 rw[show ([.onn 98 3 (.c (vC (c.ps.l.flatMap plV))),.abs (Ep (c.gs.l.map GrR.gr))]:List Res).length=2 from rfl,e2] at this
 exact this
set_option maxRecDepth 100000 in
theorem A7e (c:CfR) (w:World) (hc:c.Wide w):Calls Tryz.prog 19 #[.agg (cfV c).toArray] w fun e w'=>e=.returned (.bool (H7 c.cf))∧Below w.heap.size w w':=by
 have G:=FLm.of Hv (by decide) hc.grd
 refine Bb (n:=29) Tryz.func19 rfl Tryz.ntmps19 [.x (.g [.v (.int .i64 c.dim),.v (.slice c.ps.A c.ps.l.length c.ps.c),.v (.slice c.gs.A c.gs.l.length c.gs.c),.v (.int .i64 c.least),.v (.int .i64 c.term)])] (by simp) (.x (.a (.v (.bool (H7 c.cf))))) (fun _=>rfl) ?_
 obtain⟨q,hq⟩:∃q,q=H7 c.cf:=⟨_,rfl⟩
 rw[←hq]
 have hq:q=(decide (30 < c.ps.l.length)||(decide (30 < (c.gs.l.map GrR.gr).length)||(c.gs.l.map GrR.gr).any fun g=>decide (30 < g.ids.length))):=hq
 rw[List.length_map] at hq
 by_cases h1:(30:Int) < c.ps.l.length
 ·rw[decide_eq_true (show 30 < c.ps.l.length by omega),Bool.true_or] at hq
  simp (maxSteps:=10^6) only[h1,hq,undef,push_cast,↓reduceIte,reduceCtorEq,Nat.reduceEqDiff,Nat.reduceLT,Nat.reduceAdd]
  done
 rw[decide_eq_false (show ¬30 < c.ps.l.length by omega),Bool.false_or] at hq
 by_cases h2:(30:Int) < c.gs.l.length
 ·rw[decide_eq_true (show 30 < c.gs.l.length by omega),Bool.true_or] at hq
  simp (maxSteps:=10^6) only[h1,h2,hq,undef,push_cast,↓reduceIte,reduceCtorEq,Nat.reduceEqDiff,Nat.reduceLT,Nat.reduceAdd]
  done
 rw[decide_eq_false (show ¬30 < c.gs.l.length by omega),Bool.false_or] at hq
 simp (maxSteps:=10^6) only[h1,h2,undef,push_cast,↓reduceIte,reduceCtorEq,Nat.reduceEqDiff,Nat.reduceLT,Nat.reduceAdd]
 refine Bc (ι:=Nat) (fun i=>⟨[(1,.x (.a (.p 0 0))),(3,.x (.a (.v (.int .i64 i))))],[.blk 25 (.c [.v (.int .i64 c.dim),.v (.slice c.ps.A c.ps.l.length c.ps.c),.v (.slice c.gs.A c.gs.l.length c.gs.c),.v (.int .i64 c.least),.v (.int .i64 c.term)])]⟩) (fun i=>i≤c.gs.l.length∧q=((c.gs.l.drop i).map GrR.gr).any fun g=>decide (30 < g.ids.length)) (fun i=>c.gs.l.length - i) 0 [0] ⟨Nat.zero_le _,hq⟩ ?_ ?_
 ·simp (maxSteps:=10^6) only[push_cast,↓Int.cast_ofNat_Int,Int.cast_ofNat_Int,↓reduceIte,Nat.reduceEqDiff,Nat.reduceLT]
 rintro i ⟨hi,hg⟩
 by_cases hlt:(i:Int) < c.gs.l.length
 ·have hil:i < c.gs.l.length:=by omega
  have i0:(0:Int)≤i:=by omega
  have hA:=G.some_ (by omega)
  obtain⟨c1,o1⟩:=G.cell i 1 _ hil rfl
  have hd:c.gs.l.drop i=ix c.gs.l i::c.gs.l.drop (i+1):=by
   rw[List.drop_eq_getElem_cons hil,ix,List.getD_eq_getElem?_getD,List.getElem?_eq_getElem hil];rfl
  rw[hd,List.map_cons,List.any_cons] at hg
  generalize ix c.gs.l i=g at*
  have c1:Az w (Ag c.gs.A (i*3+1))=.slice g.ids.A g.ids.l.length g.ids.c:=c1
  by_cases h3:(30:Int) < g.ids.l.length
  ·rw[decide_eq_true (show 30 < g.gr.ids.length by show 30 < g.ids.l.length;omega),Bool.true_or] at hg
   simp (maxSteps:=10^6) only[hlt,i0,c1,o1,hA,h3,hg,Bu,Bf,undef,push_cast,↓Int.toNat_natCast,↓reduceIte,reduceCtorEq,Nat.reduceEqDiff,Nat.reduceLT,Nat.reduceAdd]
   done
  ·rw[decide_eq_false (show ¬30 < g.gr.ids.length by show ¬30 < g.ids.l.length;omega),Bool.false_or] at hg
   simp (maxSteps:=10^6) only[hlt,i0,c1,o1,hA,h3,Bu,Bf,undef,push_cast,↓Int.toNat_natCast,↓reduceIte,reduceCtorEq,Nat.reduceEqDiff,Nat.reduceLT,Nat.reduceAdd,Int.reduceNeg]
   (repeat (refine And.intro (by first|omega|decide) ?_))
   refine Ay (i+1) [0] ⟨by omega,hg⟩ (by omega) ?_
   simp (maxSteps:=10^6) only[push_cast,↓reduceIte,Nat.reduceEqDiff,Nat.reduceLT]
   done
 ·obtain rfl:i=c.gs.l.length:=by omega
  rw[List.drop_length,List.map_nil,List.any_nil] at hg
  simp (maxSteps:=10^6) only[hlt,hg,undef,push_cast,↓reduceIte,reduceCtorEq,Nat.reduceEqDiff,Nat.reduceLT,Nat.reduceAdd]
  done
theorem A7f {w0:World} {hp:List Res} (c:CfR) (hc:c.Wide w0):Ae Tryz.prog w0 No 19 [.x (.g [.v (.int .i64 c.dim),.v (.slice c.ps.A c.ps.l.length c.ps.c),.v (.slice c.gs.A c.gs.l.length c.gs.c),.v (.int .i64 c.least),.v (.int .i64 c.term)])] hp (.x (.a (.v (.bool (H7 c.cf))))) hp:=Ba fun γ w hS=>A7e c w (hc.later hS)
end Go.Proofs.YtedaafmfjhjfmaaGreatDoor
