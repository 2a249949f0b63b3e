import Derived.Test.YtedaafmfjhjfmaaGreatDoorTs3
import Derived.Test.YtedaafmfjhjfmaaGreatDoorDrT
import Derived.Test.YtedaafmfjhjfmaaGreatDoorMg29
/- Law 30: giveConf, bigConf. -/
namespace Go.Proofs.YtedaafmfjhjfmaaGreatDoor
open _root_.Go.Proofs.Tryz
open Go.RowKit
set_option linter.unusedSimpArgs false
set_option linter.unusedVariables false
section
attribute [local irreducible] Ac Ad Ah Au Ao Aj Ai Al
attribute [local irreducible] Gf vC
set_option maxRecDepth 100000 in
set_option maxHeartbeats 1000000 in
theorem A0c (c:CfR) (w:World) (hc:c.Wide w):Calls prog 37 #[.agg (cfV c).toArray] w fun e w'=>∃γ1,e=.returned ((Sv.x (.g [.v (.int .i64 c.dim),.o 0,.o 1,.v (.int .i64 c.least),.v (.int .i64 c.term)])).val γ1)∧Sat w No γ1 [.onn 98 3 (.c (vC (c.ps.l.flatMap plV))),.abs (Fq (c.gs.l.map GrR.gr))] w':=by
 have F:=FLm.of I4 (by decide) hc.prd
 have G:=FLm.of Jw (by decide) hc.grd
 have hpw:=hc.pw
 have hgw:=hc.gw
 refine Ma func37 rfl ntmps37 [.x (.g [.v (.int .i64 c.dim),.v (.slice c.ps.A c.ps.l.length c.ps.c),.v (.slice c.gs.A c.gs.l.length c.gs.c),.v (.int .i64 c.least),.v (.int .i64 c.term)])] (Sat.init w No) (by simp) (fun sv hp=>∃(gR:List GrR) (Fs:List Fct),gR.map GrR.gr=c.gs.l.map GrR.gr∧(∀g∈gR,Sj g∈Fs)∧N6 (.x (.g [.v (.int .i64 c.dim),.o 0,.o 1,.v (.int .i64 c.least),.v (.int .i64 c.term)])) [.onn 98 3 (.c (vC (c.ps.l.flatMap plV))),.onn 96 3 (.c (vC (gR.flatMap grV))),.abs (fctRep Fs)] sv hp) (fun γ sv hp' w' hS ⟨gR,Fs,h1,h2,ρ,h3,h4,h5,h6⟩=>?_) ?_
 ·obtain⟨hS2,hρ⟩:=hS.sel h4 h5 h6.2
  obtain⟨γ',e1,e2,hS3⟩:=As9 hS2 h2
  rw[h1] at hS3
  refine⟨γ',?_,hS3⟩
  have e:sv=(Sv.x (.g [.v (.int .i64 c.dim),.o 0,.o 1,.v (.int .i64 c.least),.v (.int .i64 c.term)])).ren ρ:=by
   have:=h3.1
   simp only[Fr.get,if_true,Option.some.injEq] at this
   exact this
  have hlen:ρ.length=3:=(Jl h4).1
  have hv:=Sv.re hρ (x:=.x (.g [.v (.int .i64 c.dim),.o 0,.o 1,.v (.int .i64 c.least),.v (.int .i64 c.term)])) (by rw[hlen];simp only[push_cast,Nat.reduceLT])
  rw[e,←hv]
  show Ending.returned (Value.agg [_,nmS _ 0,nmS _ 1,_,_].toArray)=Ending.returned (Value.agg [_,nmS γ' 0,nmS γ' 1,_,_].toArray)
  rw[e1,e2]
  rfl
 simp (maxSteps:=10^6) only[undef,push_cast,↓reduceIte,reduceCtorEq,Nat.reduceEqDiff,Nat.reduceLT,Nat.reduceAdd]
 refine Sg 2 1 38 98 3 _ (.c []) (by omega) rfl rfl rfl (by simp (maxSteps:=10^6) only[push_cast,Nat.reduceLT,Nat.reduceAdd]) ?_
 simp (maxSteps:=10^6) only[push_cast,Nat.reduceAdd]
 refine Bj (ι:=Nat) (fun i=>⟨[(1,.x (.a (.p 0 0))),(2,.x (.a (.p 1 0))),(3,.x (.a (.p 2 0))),(4,.x (.a (.v (.int .i64 i))))],[.blk 25 (.c [.v (.int .i64 c.dim),.v (.slice c.ps.A c.ps.l.length c.ps.c),.v (.slice c.gs.A c.gs.l.length c.gs.c),.v (.int .i64 c.least),.v (.int .i64 c.term)]),.blk 38 (.c [.v (.int .i64 0),.v (.slice none 0 0),.v (.slice none 0 0),.v (.int .i64 0),.v (.int .i64 0)]),.blk 38 (.c [.v (.int .i64 c.dim),.o 3,.v (.slice none 0 0),.v (.int .i64 c.least),.v (.int .i64 c.term)]),.onn 98 3 (.c (vC (Gf c i)))]⟩) (fun i=>i≤c.ps.l.length) (fun i=>c.ps.l.length - i) 0 [0,1,2,3] (Nat.zero_le _) ?_ ?_
 ·have e0:vC (Gf c 0)=[]:=by unfold vC Gf;rfl
  simp (maxSteps:=10^6) only[e0,push_cast,↓Int.cast_ofNat_Int,Int.cast_ofNat_Int,↓reduceIte,reduceCtorEq,Nat.reduceEqDiff,Nat.reduceLT,Nat.reduceAdd]
  done
 intro i hi
 by_cases hlt:(i:Int) < c.ps.l.length
 ·have hil:i < c.ps.l.length:=by omega
  have i0:(0:Int)≤i:=by omega
  obtain⟨w1,w2⟩:=F.whole i hil
  have hA:=F.some_ (by omega)
  have hs:=Az7 hil
  have hl:=Az8 (c:=c) hi
  have e3:i*3 / 3=i:=Nat.mul_div_cancel _ (by omega)
  have b1:(i+1)*24≤140737488355328:=by omega
  have b2:i+1≤2 ^ 63 - 1:=by omega
  generalize ix c.ps.l i=x at*
  have w1:Cl w (Af c.ps.A (i*3)) 3 0=[.v (.int .i64 x.parent),.v (.int .i64 x.spare),.v (.int .i64 x.need)]:=w1
  simp (maxSteps:=10^6) only[hlt,undef,push_cast,↓reduceIte,reduceCtorEq,Nat.reduceEqDiff,Nat.reduceLT,Nat.reduceAdd]
  (repeat (refine And.intro (by first|omega|decide) ?_))
  refine Mq 4 [3] 10 (.rd 0 (.rd 1 (.rd 2 (.rd 3 (.rd 4 (.rd 5 (.rd 6 (.wr 7 (.wr 8 (.rd 9 .nil)))))))))) ⟨[(1,.x (.a (.p 0 0))),(2,.x (.a (.p 1 0))),(3,.x (.a (.p 2 0))),(4,.x (.a (.v (.int .i64 i)))),(28,.x (.a (.o 4))),(29,.x (.a (.p 2 1)))],[.blk 25 (.c [.v (.int .i64 c.dim),.v (.slice c.ps.A c.ps.l.length c.ps.c),.v (.slice c.gs.A c.gs.l.length c.gs.c),.v (.int .i64 c.least),.v (.int .i64 c.term)]),.blk 38 (.c [.v (.int .i64 0),.v (.slice none 0 0),.v (.slice none 0 0),.v (.int .i64 0),.v (.int .i64 0)]),.blk 38 (.c [.v (.int .i64 c.dim),.o 3,.v (.slice none 0 0),.v (.int .i64 c.least),.v (.int .i64 c.term)]),.gone,.onn 98 3 (.c (vC (Gf c i)++[.v (.int .i64 x.parent),.v (.int .i64 x.spare),.v (.int .i64 x.need)]))]⟩ (by kernel_rfl) (by kernel_rfl) (Nat.le_refl 4) ?_ ?_
  ·simp (maxSteps:=10^6) only[hlt,i0,w1,w2,hA,hl,e3,b1,b2,Bp,undef,push_cast,↓Int.toNat_natCast,↓reduceIte,reduceCtorEq,Nat.reduceEqDiff,Nat.reduceLT,Nat.reduceLeDiff,Nat.reduceAdd,Nat.reduceSub,Nat.reduceMul]
   (repeat (refine And.intro (by first|omega|decide) ?_))
   refine Cn [0,1,2,3,5] ?_
   simp (maxSteps:=10^6) only[push_cast,↓reduceIte,reduceCtorEq,Nat.reduceEqDiff,Nat.reduceLT,Nat.reduceAdd]
   done
  ·simp (maxSteps:=10^6) only[undef,push_cast,↓reduceIte,Nat.reduceEqDiff,Nat.reduceLT,Nat.reduceAdd,Int.reduceNeg]
   (repeat (refine And.intro (by first|omega|decide) ?_))
   refine Ba (i+1) [0,1,2,4] (by show i+1≤_;omega) (by show c.ps.l.length - (i+1) < c.ps.l.length - i;omega) ?_
   simp (maxSteps:=10^6) only[hs,push_cast,↓reduceIte,reduceCtorEq,Nat.reduceEqDiff,Nat.reduceLT,Nat.reduceAdd]
   done
 obtain rfl:i=c.ps.l.length:=by omega
 simp (maxSteps:=10^6) only[hlt,Az9,undef,push_cast,↓reduceIte,reduceCtorEq,Nat.reduceEqDiff,Nat.reduceLT,Nat.reduceAdd]
 refine Sg 2 2 38 96 3 _ (.c []) (by omega) rfl rfl rfl (by simp (maxSteps:=10^6) only[push_cast,Nat.reduceLT,Nat.reduceAdd]) ?_
 simp (maxSteps:=10^6) only[push_cast,Nat.reduceAdd]
 refine Ap4 (by simp (maxSteps:=10^6) only[push_cast,Nat.reduceLT,Nat.reduceAdd]) ?_
 simp (maxSteps:=10^6) only[push_cast]
 refine Bj (ι:=Nat×List GrR×List Fct) (fun x=>⟨[(1,.x (.a (.p 0 0))),(2,.x (.a (.p 1 0))),(3,.x (.a (.p 2 0))),(5,.x (.a (.v (.int .i64 (x.1:Nat)))))],[.blk 25 (.c [.v (.int .i64 c.dim),.v (.slice c.ps.A c.ps.l.length c.ps.c),.v (.slice c.gs.A c.gs.l.length c.gs.c),.v (.int .i64 c.least),.v (.int .i64 c.term)]),.blk 38 (.c [.v (.int .i64 0),.v (.slice none 0 0),.v (.slice none 0 0),.v (.int .i64 0),.v (.int .i64 0)]),.blk 38 (.c [.v (.int .i64 c.dim),.o 3,.o 4,.v (.int .i64 c.least),.v (.int .i64 c.term)]),.onn 98 3 (.c (vC (c.ps.l.flatMap plV))),.onn 96 3 (.c (vC (x.2.1.flatMap grV))),.abs (fctRep x.2.2)]⟩)
  (fun x=>x.1≤c.gs.l.length∧x.2.1.length=x.1∧x.2.1.map GrR.gr=(c.gs.l.take x.1).map GrR.gr∧∀g∈x.2.1,Sj g∈x.2.2) (fun x=>c.gs.l.length - x.1) (0,[],[]) [0,1,2,3,4,5] ⟨Nat.zero_le _,rfl,rfl,fun g hg=>by cases hg⟩ ?_ ?_
 ·have e0:vC (([]:List GrR).flatMap grV)=[]:=by unfold vC;rfl
  simp (maxSteps:=10^6) only[e0,push_cast,↓Int.cast_ofNat_Int,Int.cast_ofNat_Int,↓reduceIte,reduceCtorEq,Nat.reduceEqDiff,Nat.reduceLT,Nat.reduceAdd]
  done
 rintro⟨i,gR,Fs⟩ ⟨hi,hgl,hgr,hF⟩
 dsimp only at hi hgl hgr hF
 by_cases hlt:(i:Int) < c.gs.l.length
 ·have hil:i < c.gs.l.length:=by omega
  have i0:(0:Int)≤i:=by omega
  have hA:=G.some_ (by omega)
  have ht:(c.gs.l.take (i+1)).map GrR.gr=(c.gs.l.take i).map GrR.gr++[(ix c.gs.l i).gr]:=by
   rw[List.take_add_one,List.getElem?_eq_getElem hil,Option.toList_some,List.map_append,ix,List.getD_eq_getElem?_getD,List.getElem?_eq_getElem hil]
   rfl
  obtain⟨k1,k2,k3⟩:=hc.ids _ (Ez hil)
  obtain⟨c0,o0⟩:=G.cell i 0 _ hil rfl
  obtain⟨c1,o1⟩:=G.cell i 1 _ hil rfl
  obtain⟨c2,o2⟩:=G.cell i 2 _ hil rfl
  rw[Nat.add_zero] at c0 o0
  generalize ix c.gs.l i=g at*
  have c1:A7 w (Af c.gs.A (i*3+1))=.slice g.ids.A g.ids.l.length g.ids.c:=c1
  obtain⟨r1,r2⟩:=U8 (FV.no k3)
  have e3:i*3 / 3=i:=Nat.mul_div_cancel _ (by omega)
  have hvl:(gR.flatMap grV).length=i*3:=by rw[Cv Jw,hgl]
  have b1:(i+1)*40≤140737488355328:=by omega
  have b2:i+1≤2 ^ 63 - 1:=by omega
  have b3:g.ids.l.length*8≤140737488355328:=by omega
  have b4:g.ids.l.length≤2 ^ 63 - 1:=by omega
  simp (maxSteps:=10^6) only[hlt,undef,push_cast,↓reduceIte,reduceCtorEq,Nat.reduceEqDiff,Nat.reduceLT,Nat.reduceAdd]
  (repeat (refine And.intro (by first|omega|decide) ?_))
  refine Mq 6 [4] 26 (.rd 0 (.rd 1 (.rd 2 (.rd 3 (.rd 4 (.rd 5 (.rd 6 (.rd 7 (.rd 9 (.rd 10 (.rd 11 (.rd 12 (.rd 13 (.rd 14 (.rd 16 (.rd 17 (.rd 18 (.rd 19 (.rd 20 (.rd 21 (.wr 8 (.wr 15 (.wr 22 (.wr 23 (.wr 24 (.rd 25 .nil)))))))))))))))))))))))))) ⟨[(1,.x (.a (.p 0 0))),(2,.x (.a (.p 1 0))),(3,.x (.a (.p 2 0))),(5,.x (.a (.v (.int .i64 i)))),(61,.x (.a (.o 7))),(62,.x (.a (.p 2 2)))],[.blk 25 (.c [.v (.int .i64 c.dim),.v (.slice c.ps.A c.ps.l.length c.ps.c),.v (.slice c.gs.A c.gs.l.length c.gs.c),.v (.int .i64 c.least),.v (.int .i64 c.term)]),.blk 38 (.c [.v (.int .i64 0),.v (.slice none 0 0),.v (.slice none 0 0),.v (.int .i64 0),.v (.int .i64 0)]),.blk 38 (.c [.v (.int .i64 c.dim),.o 3,.o 4,.v (.int .i64 c.least),.v (.int .i64 c.term)]),.onn 98 3 (.c (vC (c.ps.l.flatMap plV))),.gone,.abs (fctRep Fs),.own 3 (.i64 g.ids.l),.onn 96 3 (.c (vC (gR.flatMap grV)++[.v (.int .i64 g.place),.o 6,.v (.int .i64 g.need)]))]⟩ (by kernel_rfl) (by kernel_rfl) (Nat.le_refl 6) ?_ ?_
  ·simp (maxSteps:=10^6) only[hlt,i0,c0,o0,c1,o1,c2,o2,hA,hvl,e3,r1,r2,b1,b2,b3,b4,Ce,Bp,undef,push_cast,↓Int.toNat_natCast,↓reduceIte,reduceCtorEq,Nat.reduceEqDiff,Nat.reduceLT,Nat.reduceLeDiff,Nat.reduceAdd,Nat.reduceSub,Nat.reduceMul]
   (repeat (refine And.intro (by first|omega|decide) ?_))
   refine Cn [0,1,2,3,4,5,7,9] ?_
   simp (maxSteps:=10^6) only[push_cast,↓reduceIte,reduceCtorEq,Nat.reduceEqDiff,Nat.reduceLT,Nat.reduceAdd]
   done
  ·simp (maxSteps:=10^6) only[undef,push_cast,↓reduceIte,Nat.reduceEqDiff,Nat.reduceLT,Nat.reduceAdd,Int.reduceNeg]
   (repeat (refine And.intro (by first|omega|decide) ?_))
   refine Ap3 6 5 (vs:=g.ids.l.map (Value.int .i64)) rfl (fun _=>rfl) rfl (by decide) fun A1 cap1 h1 h2=>?_
   rw[List.length_map]
   obtain⟨g',hg'⟩:∃g':GrR,g'=⟨g.place,⟨A1,cap1,g.ids.l⟩,g.need⟩:=⟨_,rfl⟩
   have hap:vC ((gR++[g']).flatMap grV)=vC (gR.flatMap grV)++[.v (.int .i64 g.place),.v (.slice A1 g.ids.l.length cap1),.v (.int .i64 g.need)]:=by
    rw[List.flatMap_append,Ov,hg'];unfold vC;rfl
   refine Ba (i+1,gR++[g'],Fs++[⟨.slice A1 g.ids.l.length cap1,g.ids.l.length,g.ids.l.map (Value.int .i64)⟩]) [0,1,2,3,7,5] ⟨by show i+1≤_;omega,by show (gR++[_]).length=_;rw[List.length_append,hgl];rfl,?_,fun x hx=>?_⟩ (by show c.gs.l.length - (i+1) < c.gs.l.length - i;omega) ?_
   ·show (gR++[_]).map GrR.gr=_
    rw[List.map_append,hgr,ht,hg']
    rfl
   ·rcases List.mem_append.1 hx with hx|hx
    ·exact List.mem_append_left _ (hF x hx)
    ·rw[List.mem_singleton.1 hx,hg']
     exact List.mem_append_right _ (List.mem_singleton.2 rfl)
   ·simp (maxSteps:=10^6) only[hap,push_cast,↓reduceIte,reduceCtorEq,Nat.reduceEqDiff,Nat.reduceLT,Nat.reduceAdd]
    done
 obtain rfl:i=c.gs.l.length:=by omega
 rw[List.take_length] at hgr
 simp (maxSteps:=10^6) only[hlt,undef,push_cast,↓reduceIte,reduceCtorEq,Nat.reduceEqDiff,Nat.reduceLT,Nat.reduceAdd]
 refine⟨gR,Fs,hgr,hF,?_⟩
 refine A6 [3,4,5] ?_
 simp (maxSteps:=10^6) only[push_cast,↓reduceIte,Nat.reduceEqDiff,Nat.reduceLT,Nat.reduceAdd]
 done
theorem A0d {w0:World} {hp:List Res} (c:CfR) (hc:c.Wide w0) (hbr:∀r∈hp,Res.bnd hp.length r):
  Ad prog w0 No 37 [.x (.g [.v (.int .i64 c.dim),.v (.slice c.ps.A c.ps.l.length c.ps.c),.v (.slice c.gs.A c.gs.l.length c.gs.c),.v (.int .i64 c.least),.v (.int .i64 c.term)])] hp (.x (.g [.v (.int .i64 c.dim),.o hp.length,.o (hp.length+1),.v (.int .i64 c.least),.v (.int .i64 c.term)])) (hp++[.onn 98 3 (.c (vC (c.ps.l.flatMap plV))),.abs (Fq (c.gs.l.map GrR.gr))]):=by
 have:=Abc (P:=prog) (w0:=w0) (ow:=No) (f:=37) (svs:=[.x (.g [.v (.int .i64 c.dim),.v (.slice c.ps.A c.ps.l.length c.ps.c),.v (.slice c.gs.A c.gs.l.length c.gs.c),.v (.int .i64 c.least),.v (.int .i64 c.term)])]) (hp:=hp) (sv1:=.x (.g [.v (.int .i64 c.dim),.o 0,.o 1,.v (.int .i64 c.least),.v (.int .i64 c.term)])) (hp1:=[.onn 98 3 (.c (vC (c.ps.l.flatMap plV))),.abs (Fq (c.gs.l.map GrR.gr))]) [] hbr
  (by simp only[push_cast,Nat.reduceAdd]) (by simp only[push_cast,Nat.reduceLT,Nat.reduceAdd]) fun γ w hS=>⟨No,fun b h=>h.elim,A0c c w (hc.later hS)⟩
 have e:Cont.ren (B6 hp.length 2) (.c (vC (c.ps.l.flatMap plV)))=.c (vC (c.ps.l.flatMap plV)):=by show Cont.c _=_;rw[Ac4]
 have e2:goneAll [] hp++List.map (Res.ren (B6 hp.length 2)) [.onn 98 3 (.c (vC (c.ps.l.flatMap plV))),.abs (Fq (c.gs.l.map GrR.gr))]=hp++[.onn 98 3 (.c (vC (c.ps.l.flatMap plV))),.abs (Fq (c.gs.l.map GrR.gr))]:=by
  show hp++[Res.onn _ 3 (Cont.ren _ _),Res.abs _]=_
  rw[e]
 rw[show ([.onn 98 3 (.c (vC (c.ps.l.flatMap plV))),.abs (Fq (c.gs.l.map GrR.gr))]:List Res).length=2 from rfl,e2] at this
 exact this
set_option maxRecDepth 100000 in
theorem A0e (c:CfR) (w:World) (hc:c.Wide w):Calls prog 34 #[.agg (cfV c).toArray] w fun e w'=>e=.returned (.bool (Jc c.cf))∧Below w.heap.size w w':=by
 have G:=FLm.of Jw (by decide) hc.grd
 refine Bf (n:=29) func34 rfl ntmps34 [.x (.g [.v (.int .i64 c.dim),.v (.slice c.ps.A c.ps.l.length c.ps.c),.v (.slice c.gs.A c.gs.l.length c.gs.c),.v (.int .i64 c.least),.v (.int .i64 c.term)])] (by simp) (.x (.a (.v (.bool (Jc c.cf))))) (fun _=>rfl) ?_
 obtain⟨q,hq⟩:∃q,q=Jc c.cf:=⟨_,rfl⟩
 rw[←hq]
 have hq:q=(decide (30 < c.ps.l.length)||(decide (30 < (c.gs.l.map GrR.gr).length)||(c.gs.l.map GrR.gr).any fun g=>decide (30 < g.ids.length))):=hq
 rw[List.length_map] at hq
 by_cases h1:(30:Int) < c.ps.l.length
 ·rw[decide_eq_true (show 30 < c.ps.l.length by omega),Bool.true_or] at hq
  simp (maxSteps:=10^6) only[h1,hq,undef,push_cast,↓reduceIte,reduceCtorEq,Nat.reduceEqDiff,Nat.reduceLT,Nat.reduceAdd]
  done
 rw[decide_eq_false (show ¬30 < c.ps.l.length by omega),Bool.false_or] at hq
 by_cases h2:(30:Int) < c.gs.l.length
 ·rw[decide_eq_true (show 30 < c.gs.l.length by omega),Bool.true_or] at hq
  simp (maxSteps:=10^6) only[h1,h2,hq,undef,push_cast,↓reduceIte,reduceCtorEq,Nat.reduceEqDiff,Nat.reduceLT,Nat.reduceAdd]
  done
 rw[decide_eq_false (show ¬30 < c.gs.l.length by omega),Bool.false_or] at hq
 simp (maxSteps:=10^6) only[h1,h2,undef,push_cast,↓reduceIte,reduceCtorEq,Nat.reduceEqDiff,Nat.reduceLT,Nat.reduceAdd]
 refine Bj (ι:=Nat) (fun i=>⟨[(1,.x (.a (.p 0 0))),(3,.x (.a (.v (.int .i64 i))))],[.blk 25 (.c [.v (.int .i64 c.dim),.v (.slice c.ps.A c.ps.l.length c.ps.c),.v (.slice c.gs.A c.gs.l.length c.gs.c),.v (.int .i64 c.least),.v (.int .i64 c.term)])]⟩) (fun i=>i≤c.gs.l.length∧q=((c.gs.l.drop i).map GrR.gr).any fun g=>decide (30 < g.ids.length)) (fun i=>c.gs.l.length - i) 0 [0] ⟨Nat.zero_le _,hq⟩ ?_ ?_
 ·simp (maxSteps:=10^6) only[push_cast,↓Int.cast_ofNat_Int,Int.cast_ofNat_Int,↓reduceIte,Nat.reduceEqDiff,Nat.reduceLT]
 rintro i ⟨hi,hg⟩
 by_cases hlt:(i:Int) < c.gs.l.length
 ·have hil:i < c.gs.l.length:=by omega
  have i0:(0:Int)≤i:=by omega
  have hA:=G.some_ (by omega)
  obtain⟨c1,o1⟩:=G.cell i 1 _ hil rfl
  have hd:c.gs.l.drop i=ix c.gs.l i::c.gs.l.drop (i+1):=by
   rw[List.drop_eq_getElem_cons hil,ix,List.getD_eq_getElem?_getD,List.getElem?_eq_getElem hil];rfl
  rw[hd,List.map_cons,List.any_cons] at hg
  generalize ix c.gs.l i=g at*
  have c1:A7 w (Af c.gs.A (i*3+1))=.slice g.ids.A g.ids.l.length g.ids.c:=c1
  by_cases h3:(30:Int) < g.ids.l.length
  ·rw[decide_eq_true (show 30 < g.gr.ids.length by show 30 < g.ids.l.length;omega),Bool.true_or] at hg
   simp (maxSteps:=10^6) only[hlt,i0,c1,o1,hA,h3,hg,Ce,Bp,undef,push_cast,↓Int.toNat_natCast,↓reduceIte,reduceCtorEq,Nat.reduceEqDiff,Nat.reduceLT,Nat.reduceAdd]
   done
  ·rw[decide_eq_false (show ¬30 < g.gr.ids.length by show ¬30 < g.ids.l.length;omega),Bool.false_or] at hg
   simp (maxSteps:=10^6) only[hlt,i0,c1,o1,hA,h3,Ce,Bp,undef,push_cast,↓Int.toNat_natCast,↓reduceIte,reduceCtorEq,Nat.reduceEqDiff,Nat.reduceLT,Nat.reduceAdd,Int.reduceNeg]
   (repeat (refine And.intro (by first|omega|decide) ?_))
   refine Ba (i+1) [0] ⟨by omega,hg⟩ (by omega) ?_
   simp (maxSteps:=10^6) only[push_cast,↓reduceIte,Nat.reduceEqDiff,Nat.reduceLT]
   done
 ·obtain rfl:i=c.gs.l.length:=by omega
  rw[List.drop_length,List.map_nil,List.any_nil] at hg
  simp (maxSteps:=10^6) only[hlt,hg,undef,push_cast,↓reduceIte,reduceCtorEq,Nat.reduceEqDiff,Nat.reduceLT,Nat.reduceAdd]
  done
theorem A0f {w0:World} {hp:List Res} (c:CfR) (hc:c.Wide w0):Ad prog w0 No 34 [.x (.g [.v (.int .i64 c.dim),.v (.slice c.ps.A c.ps.l.length c.ps.c),.v (.slice c.gs.A c.gs.l.length c.gs.c),.v (.int .i64 c.least),.v (.int .i64 c.term)])] hp (.x (.a (.v (.bool (Jc c.cf))))) hp:=Bc fun γ w hS=>A0e c w (hc.later hS)
end
section
attribute [local irreducible] Ac Ad Ah Au Ao Aj Ai Al
section
variable (a b:List Int) (A:Option Addr) (c:Nat) (A2:Option Addr) (c2:Nat) (w:World) (hm:a.length≤100000) (hR:RdV w w.heap.size A (a.map (Value.int .i64))) (hR2:RdV w w.heap.size A2 (b.map (Value.int .i64)))
include hm hR hR2
set_option maxRecDepth 100000 in
theorem A0g:Calls prog 44 #[.slice A a.length c,.slice A2 b.length c2] w fun e w'=>e=.returned (.bool (decide (a=b)))∧Below w.heap.size w w':=by
 have F:=FM.of hR
 have G:=FM.of hR2
 refine Bf (n:=26) func44 rfl ntmps44 [.x (.a (.v (.slice A a.length c))),.x (.a (.v (.slice A2 b.length c2)))] (by simp) (.x (.a (.v (.bool (decide (a=b)))))) (fun _=>rfl) ?_
 by_cases hl:(a.length:Int)=b.length
 ·simp only[hl,push_cast,↓reduceIte,reduceCtorEq,Nat.reduceEqDiff,Nat.reduceLT]
  refine Bj (ι:=Nat) (fun k=>⟨[(0,.x (.a (.v (.slice A a.length c)))),(1,.x (.a (.v (.slice A2 b.length c2)))),(5,.x (.a (.v (.int .i64 k))))],[]⟩) (fun k=>k≤b.length∧∀j,j < k→ix a j=ix b j) (fun k=>b.length - k) 0 [] ⟨by omega,fun j h=>by omega⟩ ?_ ?_
  ·simp only[push_cast,↓Int.cast_ofNat_Int,Int.cast_ofNat_Int,↓reduceIte,reduceCtorEq,Nat.reduceEqDiff]
  ·rintro k ⟨hk,hj⟩
   by_cases hlt:(k:Int) < a.length
   ·have c0:=F.cell k (by omega)
    have o0:=F.ok k (by omega)
    have d0:=G.cell k (by omega)
    have p0:=G.ok k (by omega)
    have hA:=F.some_ (by omega)
    have hA2:=G.some_ (by omega)
    have hlb:(k:Int) < b.length:=by omega
    by_cases he:ix a k=ix b k
    ·simp only[hlt,push_cast,↓reduceIte,reduceCtorEq,Nat.reduceEqDiff,Nat.reduceLT]
     (repeat (refine And.intro (by first|omega|decide) ?_))
     refine B3 [(0,true),(1,true),(2,true),(3,true),(4,true),(5,true),(6,true),(7,true),(8,true)] (by kernel_rfl) (by kernel_rfl) rfl (by kernel_rfl) ?_
     simp only[hlt,hlb,c0,o0,d0,p0,hA,hA2,he,push_cast,↓Int.toNat_natCast,↓reduceIte,reduceCtorEq,Nat.reduceEqDiff,Nat.reduceLT,Int.reduceNeg]
     (repeat (refine And.intro (by first|omega|decide) ?_))
     refine Ba (k+1) [] ⟨by omega,fun j h=>?_⟩ (by omega) ?_
     ·by_cases e:j=k
      ·rw[e];exact he
      ·exact hj j (by omega)
     ·simp only[push_cast,↓reduceIte,reduceCtorEq,Nat.reduceEqDiff]
    ·have hne:¬a=b:=fun e=>he (by rw[e])
     simp only[hlt,push_cast,↓reduceIte,reduceCtorEq,Nat.reduceEqDiff,Nat.reduceLT]
     (repeat (refine And.intro (by first|omega|decide) ?_))
     refine B3 [(0,true),(1,true),(2,true),(3,true),(4,true),(5,true),(6,true),(7,true),(8,true)] (by kernel_rfl) (by kernel_rfl) rfl (by kernel_rfl) ?_
     simp only[hlt,hlb,c0,o0,d0,p0,hA,hA2,he,hne,push_cast,↓Int.toNat_natCast,↓reduceIte,reduceCtorEq,Nat.reduceEqDiff,Nat.reduceLT]
     all_goals omega
   ·have hab:a=b:=Mn (by omega) fun j h=>hj j (by omega)
    have hd:decide (a=b)=true:=decide_eq_true hab
    simp only[hlt,hd,push_cast,↓reduceIte,reduceCtorEq,Nat.reduceEqDiff,Nat.reduceLT]
 ·have hne:=Mo hl
  simp only[hl,hne,push_cast,↓reduceIte,reduceCtorEq,Nat.reduceEqDiff,Nat.reduceLT]
end
end
section
attribute [local irreducible] Ac Ad Ah Au Ao Aj Ai Al
attribute [local irreducible] mgA mgO
set_option maxRecDepth 100000 in
theorem A0h (m:MgR) (w:World) (hm:m.Wide w):Calls prog 38 (List.map (Sv.val []) [.x (.g (mgA m))]).toArray w fun e w'=>e=.returned (.bool (J5 m.mg))∧Below w.heap.size w w':=by
 obtain⟨f0,f1,f2,f3,f4,f5,f38,f39,f40,f41,f42⟩:=C8 hm.s
 have fl:=Bd hm.s
 have fs:=R7 hm.s
 have hfs:=hm.s
 have fb:=fun n=>Bm m n
 have zb:=fun n=>Bm zeroR n
 simp only[At.bnd] at fb zb
 obtain⟨q,hq⟩:∃q,q=J5 m.mg:=⟨_,rfl⟩
 rw[←hq]
 have hq:q=(decide (100 < m.ids.l.length)||(decide (200 < m.ns.l.length)||(decide (100 < m.ps.l.length)||decide (100 < m.xs.l.length)))):=hq
 refine Bf (n:=25) func38 rfl ntmps38 [.x (.g (mgA m))] (by simp) (.x (.a (.v (.bool q)))) (fun _=>rfl) ?_
 by_cases h1:(100:Int) < m.ids.l.length
 ·rw[decide_eq_true (show 100 < m.ids.l.length by omega),Bool.true_or] at hq
  simp (maxSteps:=10^6) only[fb,fl,f38,↓Be,SlV.val,h1,hq,undef,push_cast,↓reduceIte,reduceCtorEq,Nat.reduceEqDiff,Nat.reduceLT]
  done
 rw[decide_eq_false (show ¬100 < m.ids.l.length by omega),Bool.false_or] at hq
 by_cases h2:(200:Int) < m.ns.l.length
 ·rw[decide_eq_true (show 200 < m.ns.l.length by omega),Bool.true_or] at hq
  simp (maxSteps:=10^6) only[fb,fl,f38,f39,↓Be,SlV.val,h1,h2,hq,undef,push_cast,↓reduceIte,reduceCtorEq,Nat.reduceEqDiff,Nat.reduceLT]
  done
 rw[decide_eq_false (show ¬200 < m.ns.l.length by omega),Bool.false_or] at hq
 by_cases h3:(100:Int) < m.ps.l.length
 ·rw[decide_eq_true (show 100 < m.ps.l.length by omega),Bool.true_or] at hq
  simp (maxSteps:=10^6) only[fb,fl,f38,f39,f40,↓Be,SlV.val,h1,h2,h3,hq,undef,push_cast,↓reduceIte,reduceCtorEq,Nat.reduceEqDiff,Nat.reduceLT]
  done
 rw[decide_eq_false (show ¬100 < m.ps.l.length by omega),Bool.false_or] at hq
 by_cases h4:(100:Int) < m.xs.l.length
 ·rw[decide_eq_true (show 100 < m.xs.l.length by omega)] at hq
  simp (maxSteps:=10^6) only[fb,fl,f38,f39,f40,f41,↓Be,SlV.val,h1,h2,h3,h4,hq,undef,push_cast,↓reduceIte,reduceCtorEq,Nat.reduceEqDiff,Nat.reduceLT]
  done
 rw[decide_eq_false (show ¬100 < m.xs.l.length by omega)] at hq
 simp (maxSteps:=10^6) only[fb,fl,f38,f39,f40,f41,↓Be,SlV.val,h1,h2,h3,h4,hq,undef,push_cast,↓reduceIte,reduceCtorEq,Nat.reduceEqDiff,Nat.reduceLT]
 done
set_option maxRecDepth 100000 in
theorem A0i (l:List Pr) (A:Option Addr) (c:Nat) (w:World) (hl:l.length≤1000) (hR:RdV w w.heap.size A (pvs l)):Calls prog 101 #[.slice A l.length c] w fun e w'=>∃γ1,e=.returned ((Sv.x (.a (.o 0))).val γ1)∧Sat w No γ1 [.onn 115 2 (.c (pcs l))] w':=by
 have F:=FP.of hR
 refine Rm (n:=19) func101 rfl ntmps101 [.x (.a (.v (.slice A l.length c)))] (Sat.init w No) (by simp) _ _ ?_
 simp only[push_cast,↓reduceIte,Nat.reduceLT]
 refine N7 3 115 2 (.c []) (by omega) rfl rfl (by simp only[push_cast]) ?_
 refine Bj (ι:=Nat) (fun i=>⟨[(0,.x (.a (.v (.slice A l.length c)))),(3,.x (.a (.o 0))),(4,.x (.a (.v (.int .i64 i))))],[.onn 115 2 (.c (pcs (l.take i)))]⟩) (fun i=>i≤l.length) (fun i=>l.length - i) 0 [0] (by omega) ?_ ?_
 ·simp only[List.take_zero,Ab5,push_cast,↓Int.cast_ofNat_Int,Int.cast_ofNat_Int,↓reduceIte,reduceCtorEq,Nat.reduceEqDiff,Nat.reduceLT]
 ·intro i hi
  by_cases hlt:(i:Int) < l.length
  ·have i0:(0:Int)≤i:=by omega
   have c0:=F.c0 i (by omega)
   have c1:=F.c1 i (by omega)
   have o0:=F.ok0 i (by omega)
   have o1:=F.ok1 i (by omega)
   have hA:=F.some_ (by omega)
   have hlen:(l.take i).length=i:=by rw[List.length_take];omega
   have ht:=Aqp l i (by omega)
   simp only[hlt,i0,c0,c1,o0,o1,hA,hlen,ht,Cq,Ce,Bp,push_cast,↓Int.toNat_natCast,↓reduceIte,reduceCtorEq,Nat.reduceEqDiff,Nat.reduceLT,Nat.reduceLeDiff,Nat.reduceAdd,Nat.reduceMul,Int.reduceNeg]
   (repeat (refine And.intro (by first|omega|decide) ?_))
   refine Ba (i+1) [2] (by omega) (by omega) ?_
   simp only[push_cast,↓reduceIte,reduceCtorEq,Nat.reduceEqDiff,Nat.reduceLT]
  ·have e:i=l.length:=by omega
   subst e
   simp only[hlt,List.take_length,push_cast,↓reduceIte,reduceCtorEq,Nat.reduceEqDiff,Nat.reduceLT]
   refine A6 [0] ?_
   simp only[push_cast,↓reduceIte,Nat.reduceLT]
theorem Afq {w0:World} {hp:List Res} {sv:Sv} {l:List Pr} (hl:l.length≤1000) (h:Hx w0 No hp sv l.length (pvs l)) (hbr:∀r∈hp,Res.bnd hp.length r):
  Ad prog w0 No 101 [sv] hp (.x (.a (.o hp.length))) (hp++[.onn 115 2 (.c (pcs l))]):=by
 have:=Abc (P:=prog) (f:=101) (svs:=[sv]) (w0:=w0) (ow:=No) (sv1:=.x (.a (.o 0))) (hp1:=[.onn 115 2 (.c (pcs l))]) [] hbr (by simp only[push_cast]) (by simp only[push_cast,Nat.reduceLT])
  fun γ w hS=>⟨No,fun b h=>h.elim,by
   obtain⟨A,c,e1,b1,r1⟩:=h γ w hS
   show Calls _ _ #[sv.val γ] w _
   rw[e1]
   exact A0i l A c w hl r1⟩
 simp only[goneAll,B6,push_cast,↓reduceIte,Nat.reduceLT] at this
 exact this
theorem A0j {w0:World} {hp:List Res} {m:MgR} (hm:m.Wide w0):Ad prog w0 No 38 [.x (.g (mgA m))] hp (.x (.a (.v (.bool (J5 m.mg))))) hp:=Bc fun γ w hS=>by
 have h:m.Wide w:=⟨hm.s,⟨hm.ids.1,C5 hm.ids.2 hS⟩,⟨hm.ns.1,C5 hm.ns.2 hS⟩,⟨hm.ps.1,C5 hm.ps.2 hS⟩,⟨hm.xs.1,C5 hm.xs.2 hS⟩⟩
 rw[show List.map (Sv.val γ) [.x (.g (mgA m))]=List.map (Sv.val []) [.x (.g (mgA m))] from by simp only[List.map_cons,List.map_nil,Bi]]
 exact A0h m w h
end
end Go.Proofs.YtedaafmfjhjfmaaGreatDoor
