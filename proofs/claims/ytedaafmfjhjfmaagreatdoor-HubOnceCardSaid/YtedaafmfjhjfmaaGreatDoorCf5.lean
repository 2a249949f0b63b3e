import Derived.Test.YtedaafmfjhjfmaaGreatDoorCf1
/- Layer 21: conf.grouped. -/
namespace Go.Proofs.YtedaafmfjhjfmaaGreatDoor
open _root_.Go.Proofs.Tryz
open Go.RowKit
set_option linter.unusedSimpArgs false
set_option linter.unusedVariables false
section
theorem Ar8 (n:Nat):(n:Int).tdiv 2=(n:Int) / 2:=Int.tdiv_eq_ediv_of_nonneg (by omega)
theorem Aco (a b:List Int):(Ak a b).length≤64:=Vx _
theorem Ar9 (n:Int) (g:GrS) (last:Int) (seen:List Int):Ix n g last seen=(decide (last < g.place)&&decide (g.place < n)&&wiF g.ids.length 1 12&&Bn (-1) g.ids&&decide (((By seen g.ids).length:Int)=0)&&wiF g.need ((g.ids.length:Int) / 2+1) g.ids.length):=by
 unfold Ix
 have e:decide ((By seen g.ids).length=0)=decide (((By seen g.ids).length:Int)=0):=decide_eq_decide.2 (by omega)
 rw[e,Bool.decide_and]
attribute [local irreducible] Ac Ad Ah Au Ao Aj Ai Al
attribute [local irreducible] wiF Bn By Ak Ix okV Ju
section
set_option maxRecDepth 100000 in
set_option maxHeartbeats 1000000 in
theorem Asa (g:GrR) (c:CfR) (last:Int) (seen:SlV Int) (A1 A2 A3:Option Addr) (w:World) (h1:Vr w A1 [.int .i64 last]) (h2:Vr w A2 (cfV c)) (h3:Vr w A3 [seen.val]) (hs:seen.l.length≤64) (hsc:seen.l.length≤seen.c) (hsr:RdV w w.heap.size seen.A (seen.l.map (Value.int .i64))) (hg:g.Ok w):
  Calls prog 142 #[.agg (grV g).toArray,.pointer A1,.pointer A2,.pointer A3] w fun e w'=>e=.returned (.bool (Ix c.ps.l.length g.gr last seen.l))∧Below w.heap.size w w':=by
 refine Bf (n:=49) func142 rfl ntmps142 [.x (.g [.v (.int .i64 g.place),.v (.slice g.ids.A g.ids.l.length g.ids.c),.v (.int .i64 g.need)]),.x (.a (.v (.pointer A1))),.x (.a (.v (.pointer A2))),.x (.a (.v (.pointer A3)))] (by simp) (.x (.a (.v (.bool (Ix c.ps.l.length g.gr last seen.l))))) (fun _=>rfl) ?_
 obtain⟨q,hq⟩:∃q,q=Ix c.ps.l.length g.gr last seen.l:=⟨_,rfl⟩
 rw[←hq]
 rw[Ar9] at hq
 have hq:q=(decide (last < g.place)&&decide (g.place < (c.ps.l.length:Int))&&wiF g.ids.l.length 1 12&&Bn (-1) g.ids.l&&decide (((By seen.l g.ids.l).length:Int)=0)&&wiF g.need ((g.ids.l.length:Int) / 2+1) g.ids.l.length):=hq
 obtain⟨n1,n2,n3⟩:=h1
 obtain⟨c1,o1⟩:=n3 0 _ rfl
 obtain⟨m1,m2,m3⟩:=h2
 obtain⟨c2,o2⟩:=m3 1 _ rfl
 obtain⟨q1,q2,q3⟩:=h3
 obtain⟨c3,o3⟩:=q3 0 _ rfl
 rw[Cq] at c1 o1 c3 o3
 have t2:=Ar8 g.ids.l.length
 have hgl:=hg.few
 have b1:-9223372036854775808≤(g.ids.l.length:Int) / 2+1∧(g.ids.l.length:Int) / 2+1≤9223372036854775807:=by omega
 have b2:-9223372036854775808≤(g.ids.l.length:Int) / 2∧(g.ids.l.length:Int) / 2≤9223372036854775807:=by omega
 by_cases k1:last < g.place
 ·by_cases k2:g.place < (c.ps.l.length:Int)
  ·rw[decide_eq_true k1,decide_eq_true k2,Bool.true_and,Bool.true_and] at hq
   simp (maxSteps:=10^6) only[c1,o1,m1,c2,o2,k1,k2,SlV.val,undef,push_cast,↓reduceIte,reduceCtorEq,Nat.reduceEqDiff,Nat.reduceLT,Nat.reduceAdd]
   (repeat (refine And.intro (by first|omega|decide) ?_))
   refine Am rfl Hv rfl (Ia _ _ _) (Aa rfl) ?_
   cases k3:wiF g.ids.l.length 1 12 with
   |false=>
    rw[k3] at hq
    simp only[Bool.false_and] at hq
    simp (maxSteps:=10^6) only[hq,undef,push_cast,↓reduceIte,Nat.reduceEqDiff,Nat.reduceLT]
    done
   |true=>
    rw[k3,Bool.true_and] at hq
    simp (maxSteps:=10^6) only[undef,push_cast,↓reduceIte,reduceCtorEq,Nat.reduceEqDiff,Nat.reduceLT,Nat.reduceAdd]
    (repeat (refine And.intro (by first|omega|decide) ?_))
    refine Am rfl Vm rfl (V8 hgl (B4 hg.rd _ _ (by simp) hg.len)) (Aa rfl) ?_
    cases k4:Bn (-1) g.ids.l with
    |false=>
     rw[k4] at hq
     simp only[Bool.false_and] at hq
     have hf:=H8 1
     simp (maxSteps:=10^6) only[hf,hq,undef,push_cast,↓reduceIte,Nat.reduceEqDiff,Nat.reduceLT]
     done
    |true=>
     rw[k4,Bool.true_and] at hq
     have hf:=Gt 1
     simp (maxSteps:=10^6) only[hf,c3,o3,SlV.val,undef,push_cast,↓reduceIte,reduceCtorEq,Nat.reduceEqDiff,Nat.reduceLT,Nat.reduceAdd]
     (repeat (refine And.intro (by first|omega|decide) ?_))
     refine Gl rfl Ny rfl (Oh (a:=seen.l) (b:=g.ids.l) (by omega) hgl (B4 hsr _ _ (by simp) hsc) (B4 hg.rd _ _ (by simp) hg.len) (by simp only[push_cast])) (Aa rfl) (by simp only[push_cast,Nat.reduceLT]) ?_
     by_cases k5:((By seen.l g.ids.l).length:Int)=0
     ·rw[decide_eq_true k5,Bool.true_and] at hq
      simp (maxSteps:=10^6) only[k5,b1,b2,t2,undef,push_cast,↓reduceIte,reduceCtorEq,Nat.reduceEqDiff,Nat.reduceLT,Nat.reduceAdd,Int.reduceNeg,Int.reduceEq]
      (repeat (refine And.intro (by first|omega|decide) ?_))
      refine Am rfl Hv rfl (Ia _ _ _) (Aa rfl) ?_
      simp (maxSteps:=10^6) only[hq,push_cast,↓reduceIte,Nat.reduceEqDiff,Nat.reduceLT,Nat.reduceAdd]
      done
     ·rw[decide_eq_false k5,Bool.false_and] at hq
      simp (maxSteps:=10^6) only[k5,hq,undef,push_cast,↓reduceIte,Nat.reduceEqDiff,Nat.reduceLT,Nat.reduceAdd]
      done
  ·rw[decide_eq_false k2] at hq
   simp only[Bool.and_false,Bool.false_and] at hq
   simp (maxSteps:=10^6) only[c1,o1,m1,c2,o2,k1,k2,hq,SlV.val,undef,push_cast,↓reduceIte,reduceCtorEq,Nat.reduceEqDiff,Nat.reduceLT,Nat.reduceAdd]
   done
 ·rw[decide_eq_false k1] at hq
  simp only[Bool.false_and] at hq
  simp (maxSteps:=10^6) only[c1,o1,k1,hq,undef,push_cast,↓reduceIte,reduceCtorEq,Nat.reduceEqDiff,Nat.reduceLT,Nat.reduceAdd]
  done
theorem Asb {w0:World} {hp:List Res} {g:GrR} {c:CfR} {last:Int} {seen:List Int} {k1 k2 k3 j:Nat} {t1 t2 t3:TypeId} (h1:Ch hp[k1]?=some (t1,.c [.v (.int .i64 last)])) (h2:Ch hp[k2]?=some (t2,.c (cfA c))) (h3:Ch hp[k3]?=some (t3,.c [.o j])) (hj:hp[j]?=some (.own 3 (.i64 seen))) (hs:seen.length≤64) (hg:g.Ok w0):
  Ad prog w0 No 142 [.x (.g (grA g)),.x (.a (.p k1 0)),.x (.a (.p k2 0)),.x (.a (.p k3 0))] hp (.x (.a (.v (.bool (Ix c.ps.l.length g.gr last seen))))) hp:=Bc fun γ w hS=>by
 obtain⟨A,cap,e1,e2,_,e4⟩:=hS.rdOwn hj
 have v1:=K8 (vs:=[.int .i64 last]) hS h1 rfl
 have v2:=K8 (vs:=cfV c) hS h2 rfl
 have v3:=K8 (vs:=[(⟨A,cap,seen⟩:SlV Int).val]) hS h3 (by show [nmS γ j]=_;rw[e1];rfl)
 exact Asa g c last ⟨A,cap,seen⟩ _ _ _ w v1 v2 v3 hs e2 e4 ⟨hg.len,hg.few,C5 hg.rd hS⟩
set_option maxRecDepth 100000 in
set_option maxHeartbeats 1000000 in
theorem Asc (c:CfR) (w:World) (hc:c.Ok w):Calls prog 106 #[.agg (cfV c).toArray] w fun e w'=>e=.returned (.bool (grF c.cf))∧Below w.heap.size w w':=by
 have F:=FLm.of Jw (by decide) hc.grd
 have hgf:=hc.gfew
 have hpf:=hc.pfew
 refine Bf (n:=45) func106 rfl ntmps106 [.x (.g [.v (.int .i64 c.dim),.v (.slice c.ps.A c.ps.l.length c.ps.c),.v (.slice c.gs.A c.gs.l.length c.gs.c),.v (.int .i64 c.least),.v (.int .i64 c.term)])] (by simp) (.x (.a (.v (.bool (grF c.cf))))) (fun _=>rfl) ?_
 obtain⟨q,hq⟩:∃q,q=grF c.cf:=⟨_,rfl⟩
 rw[←hq]
 unfold grF at hq
 have hq:q=if 1≤(c.gs.l.map GrR.gr).length∧(c.gs.l.map GrR.gr).length < c.ps.l.length then (match Ju c.ps.l.length (c.gs.l.map GrR.gr) 0 [] with|some seen=>wiF c.least 1 seen.length|none=>false) else false:=hq
 rw[List.length_map] at hq
 by_cases k1:(c.gs.l.length:Int) < 1
 ·rw[if_neg (by omega)] at hq
  simp (maxSteps:=10^6) only[k1,hq,undef,push_cast,↓reduceIte,reduceCtorEq,Nat.reduceEqDiff,Nat.reduceLT,Nat.reduceAdd]
  done
 by_cases k2:(c.ps.l.length:Int)≤c.gs.l.length
 ·rw[if_neg (by omega)] at hq
  simp (maxSteps:=10^6) only[k1,k2,hq,undef,push_cast,↓reduceIte,reduceCtorEq,Nat.reduceEqDiff,Nat.reduceLT,Nat.reduceAdd]
  done
 rw[if_pos (by omega)] at hq
 obtain⟨R,hR⟩:∃R,R=Ju c.ps.l.length (c.gs.l.map GrR.gr) 0 []:=⟨_,rfl⟩
 rw[←hR] at hq
 simp (maxSteps:=10^6) only[k1,k2,undef,push_cast,↓reduceIte,reduceCtorEq,Nat.reduceEqDiff,Nat.reduceLT,Nat.reduceAdd]
 refine Abf 1 0 43 3 _ (.i64 []) rfl rfl rfl trivial (by simp (maxSteps:=10^6) only[push_cast,Nat.reduceLT,Nat.reduceAdd]) ?_
 simp (maxSteps:=10^6) only[push_cast,Nat.reduceAdd]
 refine Bj (ι:=Nat×Int×List Int) (fun x=>⟨[(1,.x (.a (.p 0 0))),(3,.x (.a (.p 1 0))),(4,.x (.a (.p 2 0))),(5,.f (.func 142) [.p 2 0,.p 0 0,.p 1 0]),(23,.x (.a (.v (.slice c.gs.A c.gs.l.length c.gs.c)))),(24,.x (.a (.v (.int .i64 c.gs.l.length)))),(25,.x (.a (.v (.int .i64 (x.1:Nat)))))],
   [.blk 38 (.c [.v (.int .i64 c.dim),.v (.slice c.ps.A c.ps.l.length c.ps.c),.v (.slice c.gs.A c.gs.l.length c.gs.c),.v (.int .i64 c.least),.v (.int .i64 c.term)]),.blk 43 (.c [.o 3]),.blk 3 (.c [.v (.int .i64 x.2.1)]),.own 3 (.i64 x.2.2)]⟩)
  (fun x=>x.1≤c.gs.l.length∧x.2.2.length≤64∧R=Ju c.ps.l.length ((c.gs.l.drop x.1).map GrR.gr) x.2.1 x.2.2) (fun x=>c.gs.l.length - x.1) (0,0,[]) [0,1,2,3] ⟨Nat.zero_le _,Nat.zero_le _,hR⟩ ?_ ?_
 ·simp (maxSteps:=10^6) only[push_cast,↓Int.cast_ofNat_Int,Int.cast_ofNat_Int,↓reduceIte,reduceCtorEq,Nat.reduceEqDiff,Nat.reduceLT,Nat.reduceAdd]
 rintro⟨i,last,seen⟩ ⟨hi,hsl,hg⟩
 dsimp only at hi hsl hg
 by_cases hlt:(i:Int) < c.gs.l.length
 ·have hil:i < c.gs.l.length:=by omega
  have i0:(0:Int)≤i:=by omega
  obtain⟨w1,w2⟩:=F.whole i hil
  have hA:=F.some_ (by omega)
  have gok:=hc.ids _ (Ez hil)
  have hd:c.gs.l.drop i=ix c.gs.l i::c.gs.l.drop (i+1):=by
   rw[List.drop_eq_getElem_cons hil,ix,List.getD_eq_getElem?_getD,List.getElem?_eq_getElem hil];rfl
  rw[hd,List.map_cons,Ju] at hg
  generalize ix c.gs.l i=g at*
  have w1:Cl w (Af c.gs.A (i*3)) 3 0=[.v (.int .i64 g.place),.v (.slice g.ids.A g.ids.l.length g.ids.c),.v (.int .i64 g.need)]:=w1
  have nx:(i:Int)+1≤9223372036854775807:=by omega
  simp (maxSteps:=10^6) only[hlt,i0,w1,w2,hA,Bp,undef,push_cast,↓Int.toNat_natCast,↓reduceIte,reduceCtorEq,Nat.reduceEqDiff,Nat.reduceLT,Nat.reduceAdd]
  (repeat (refine And.intro (by first|omega|decide) ?_))
  refine Abe rfl rfl Ao6 rfl (Asb (g:=g) (c:=c) (last:=last) (seen:=seen) (k1:=2) (k2:=0) (k3:=1) (j:=3) rfl rfl rfl rfl hsl gok) (Aa rfl) (fun _=>by simp (maxSteps:=10^6) only[push_cast,Nat.reduceLT,Nat.reduceAdd]) ?_
  cases hf:Ix c.ps.l.length g.gr last seen with
  |false=>
   rw[hf,if_neg (by decide)] at hg
   rw[hg] at hq
   dsimp only at hq
   simp (maxSteps:=10^6) only[hq,push_cast,↓reduceIte,Nat.reduceLT,Nat.reduceAdd]
   done
  |true=>
   rw[hf,if_pos rfl] at hg
   simp (maxSteps:=10^6) only[undef,push_cast,↓reduceIte,reduceCtorEq,Nat.reduceEqDiff,Nat.reduceLT,Nat.reduceAdd]
   (repeat (refine And.intro (by first|omega|decide) ?_))
   refine Gl rfl Nz rfl (Ari (a:=seen) (b:=g.ids.l) (by omega) gok.few (Ri rfl fun _=>rfl) (B4 gok.rd _ _ (by simp) gok.len) (by simp only[push_cast,Nat.reduceLT,Nat.reduceAdd])) (Aa rfl) (by simp only[push_cast,Nat.reduceLT,Nat.reduceAdd]) ?_
   simp (maxSteps:=10^6) only[undef,push_cast,↓reduceIte,Nat.reduceEqDiff,Nat.reduceLT,Nat.reduceAdd,Int.reduceNeg]
   (repeat (refine And.intro (by first|omega|decide) ?_))
   refine Ba (i+1,g.place,Ak seen g.ids.l) [0,1,2,5] ⟨by show i+1≤_;omega,Aco _ _,hg⟩ (by show c.gs.l.length - (i+1) < c.gs.l.length - i;omega) ?_
   simp (maxSteps:=10^6) only[push_cast,↓reduceIte,reduceCtorEq,Nat.reduceEqDiff,Nat.reduceLT,Nat.reduceAdd]
   done
 ·have hil:i=c.gs.l.length:=by omega
  rw[hil,List.drop_length,List.map_nil,Ju] at hg
  rw[hg] at hq
  dsimp only at hq
  simp (maxSteps:=10^6) only[hlt,undef,push_cast,↓reduceIte,reduceCtorEq,Nat.reduceEqDiff,Nat.reduceLT,Nat.reduceAdd]
  (repeat (refine And.intro (by first|omega|decide) ?_))
  refine Am rfl Hv rfl (Ia _ _ _) (Aa rfl) ?_
  simp (maxSteps:=10^6) only[hq,push_cast,↓reduceIte,Nat.reduceLT,Nat.reduceAdd]
  done
end
end
section
def eqI (a b:Int):Bool:=decide (a=b)
theorem Wa {a b:Int} (h:a=b):eqI a b=true:=decide_eq_true h
theorem Wb {a b:Int} (h:¬a=b):eqI a b=false:=decide_eq_false h
def Cg (i:Int):List GrS→Nat→Int
 |[],_=>-1
 |g::r,k=>if eqI g.place i=true then (k:Int) else Cg i r (k+1)
theorem Wc (i:Int):∀(l:List GrS) (k:Nat),atF l i=decide (0≤Cg i l k)
 |[],k=>rfl
 |g::r,k=>by
  have ih:=Wc i r (k+1)
  unfold atF at ih ⊢
  rw[Cg,List.any_cons]
  by_cases h:g.place=i
  ·rw[Wa h,if_pos rfl,decide_eq_true h,decide_eq_true (by omega)];rfl
  ·rw[Wb h,if_neg (by decide),decide_eq_false h,Bool.false_or,ih]
theorem Acp (i:Int):∀(l:List GrS) (k:Nat),-1≤Cg i l k∧Cg i l k < k+l.length
 |[],k=>by rw[Cg];simp;omega
 |g::r,k=>by
  rw[Cg]
  have ih:=Acp i r (k+1)
  rw[List.length_cons]
  split<;>omega
attribute [local irreducible] Ac Ad Ah Au Ao Aj Ai Al
attribute [local irreducible] wiF eqI Cg atF
def EqPl (f:FuncId):Prop:=Ac prog f∧∀(A:Option Addr) (i:Int) (w:World) (g:GrR),Vr w A [.int .i64 i]→Calls prog f #[.agg (grV g).toArray,.pointer A] w fun e w'=>e=.returned (.bool (eqI g.place i))∧Below w.heap.size w w'
section
set_option maxRecDepth 100000 in
theorem Asd:EqPl 144:=⟨Ao8,fun A i w g hv=>by
 refine Bf (n:=8) func144 rfl ntmps144 [.x (.g [.v (.int .i64 g.place),.v (.slice g.ids.A g.ids.l.length g.ids.c),.v (.int .i64 g.need)]),.x (.a (.v (.pointer A)))] (by simp) (.x (.a (.v (.bool (eqI g.place i))))) (fun _=>rfl) ?_
 obtain⟨c1,o1⟩:=hv.cell 0 _ rfl
 rw[Cq] at c1 o1
 have n1:=hv.some_
 have n2:=hv.none_
 by_cases h:g.place=i
 ·have hd:=Wa h
  simp (maxSteps:=10^6) only[c1,o1,h,undef,push_cast,↓reduceIte,reduceCtorEq,Nat.reduceEqDiff,Nat.reduceLT,Nat.reduceAdd]
  subst h
  simp (maxSteps:=10^6) only[hd,push_cast]
  done
 ·have hd:=Wb h
  simp (maxSteps:=10^6) only[c1,o1,h,hd,undef,push_cast,↓reduceIte,reduceCtorEq,Nat.reduceEqDiff,Nat.reduceLT,Nat.reduceAdd]
  done⟩
set_option maxRecDepth 100000 in
theorem Ase:EqPl 110:=⟨Aoz,fun A i w g hv=>by
 refine Bf (n:=8) func110 rfl ntmps110 [.x (.g [.v (.int .i64 g.place),.v (.slice g.ids.A g.ids.l.length g.ids.c),.v (.int .i64 g.need)]),.x (.a (.v (.pointer A)))] (by simp) (.x (.a (.v (.bool (eqI g.place i))))) (fun _=>rfl) ?_
 obtain⟨c1,o1⟩:=hv.cell 0 _ rfl
 rw[Cq] at c1 o1
 have n1:=hv.some_
 have n2:=hv.none_
 by_cases h:g.place=i
 ·have hd:=Wa h
  simp (maxSteps:=10^6) only[c1,o1,h,undef,push_cast,↓reduceIte,reduceCtorEq,Nat.reduceEqDiff,Nat.reduceLT,Nat.reduceAdd]
  subst h
  simp (maxSteps:=10^6) only[hd,push_cast]
  done
 ·have hd:=Wb h
  simp (maxSteps:=10^6) only[c1,o1,h,hd,undef,push_cast,↓reduceIte,reduceCtorEq,Nat.reduceEqDiff,Nat.reduceLT,Nat.reduceAdd]
  done⟩
theorem EqPl.pure {f:FuncId} {A:Option Addr} {i:Int} {w:World} (h:EqPl f) (hv:Vr w A [.int .i64 i]):Rl prog w (.func (.func f) #[] #[.pointer A]) (fun g:GrR=>#[.agg (grV g).toArray]) (fun g=>.bool (eqI g.place i)):=
 ⟨f,#[.pointer A],rfl,h.1,fun w' g hk=>h.2 A i w' g (hv.later hk)⟩
set_option maxRecDepth 100000 in
theorem Acq (l:List GrR) (A:Option Addr) (c:Nat) (fv:Value) (i:Int) (w:World) (hm:l.length≤1000000) (hR:RdV w w.heap.size A (l.flatMap grV)) (hP:Rl prog w fv (fun g:GrR=>#[.agg (grV g).toArray]) (fun g=>.bool (eqI g.place i))):
  Calls prog 109 #[.slice A l.length c,fv] w fun e w'=>e=.returned (.int .i64 (Cg i (l.map GrR.gr) 0))∧Below w.heap.size w w':=by
 have F:=FLm.of Jw (by decide) hR
 refine Bf (n:=19) func109 rfl ntmps109 [.x (.a (.v (.slice A l.length c))),.x (.a (.v fv))] (by simp) (.x (.a (.v (.int .i64 (Cg i (l.map GrR.gr) 0))))) (fun _=>rfl) ?_
 obtain⟨R,hr⟩:∃R,R=Cg i (l.map GrR.gr) 0:=⟨_,rfl⟩
 rw[←hr]
 simp (maxSteps:=10^6) only[push_cast,↓reduceIte,reduceCtorEq,Nat.reduceLT,Int.reduceNeg]
 refine Bj (ι:=Nat) (fun k=>⟨[(0,.x (.a (.v (.slice A l.length c)))),(1,.x (.a (.v fv))),(7,.x (.a (.v (.int .i64 l.length)))),(8,.x (.a (.v (.int .i64 k))))],[]⟩) (fun k=>k≤l.length∧R=Cg i ((l.drop k).map GrR.gr) k) (fun k=>l.length - k) 0 [] ⟨Nat.zero_le _,hr⟩ ?_ ?_
 ·simp (maxSteps:=10^6) only[push_cast,↓Int.cast_ofNat_Int,Int.cast_ofNat_Int,↓reduceIte,reduceCtorEq,Nat.reduceEqDiff]
 rintro k ⟨hk,hg⟩
 by_cases hlt:(k:Int) < l.length
 ·have hil:k < l.length:=by omega
  have i0:(0:Int)≤k:=by omega
  obtain⟨w1,w2⟩:=F.whole k hil
  have hA:=F.some_ (by omega)
  have hd:l.drop k=ix l k::l.drop (k+1):=by
   rw[List.drop_eq_getElem_cons hil,ix,List.getD_eq_getElem?_getD,List.getElem?_eq_getElem hil];rfl
  rw[hd,List.map_cons,Cg] at hg
  generalize ix l k=g at*
  have hg:R=if eqI g.place i=true then (k:Int) else Cg i ((l.drop (k+1)).map GrR.gr) (k+1):=hg
  have w1:Cl w (Af A (k*3)) 3 0=[.v (.int .i64 g.place),.v (.slice g.ids.A g.ids.l.length g.ids.c),.v (.int .i64 g.need)]:=w1
  have nx:(k:Int)+1≤9223372036854775807:=by omega
  simp (maxSteps:=10^6) only[hlt,i0,w1,w2,hA,Bp,push_cast,↓Int.toNat_natCast,↓reduceIte,reduceCtorEq,Nat.reduceEqDiff,Nat.reduceLT,Int.reduceNeg]
  (repeat (refine And.intro (by first|omega|decide) ?_))
  refine Apw (α:=GrR) g (.x (.a (.v (.bool (eqI g.place i))))) hP rfl rfl rfl (fun _=>rfl) (fun _=>rfl) (fun _ h=>h) (Aa rfl) ?_
  cases hq:eqI g.place i with
  |true=>
   rw[hq,if_pos rfl] at hg
   simp (maxSteps:=10^6) only[hg,push_cast,↓reduceIte,Nat.reduceEqDiff,Nat.reduceLT,Int.reduceNeg]
   done
  |false=>
   rw[hq,if_neg (by decide)] at hg
   simp (maxSteps:=10^6) only[push_cast,↓reduceIte,reduceCtorEq,Nat.reduceEqDiff,Nat.reduceLT,Int.reduceNeg]
   (repeat (refine And.intro (by first|omega|decide) ?_))
   refine Ba (k+1) [] ⟨by omega,hg⟩ (by omega) ?_
   simp (maxSteps:=10^6) only[push_cast,↓reduceIte,reduceCtorEq,Nat.reduceEqDiff]
   done
 ·obtain rfl:k=l.length:=by omega
  rw[List.drop_length,List.map_nil,Cg] at hg
  simp (maxSteps:=10^6) only[hlt,hg,push_cast,↓reduceIte,reduceCtorEq,Nat.reduceEqDiff,Nat.reduceLT,Int.reduceNeg]
  done
set_option maxRecDepth 100000 in
theorem Asf (l:List GrR) (A:Option Addr) (c:Nat) (fv:Value) (i:Int) (w:World) (hm:l.length≤1000000) (hc:l.length≤c) (hR:RdV w w.heap.size A (l.flatMap grV)) (hP:Rl prog w fv (fun g:GrR=>#[.agg (grV g).toArray]) (fun g=>.bool (eqI g.place i))):
  Calls prog 143 #[.slice A l.length c,fv] w fun e w'=>e=.returned (.bool (atF (l.map GrR.gr) i))∧Below w.heap.size w w':=by
 refine Bf (n:=9) func143 rfl ntmps143 [.x (.a (.v (.slice A l.length c))),.x (.a (.v fv))] (by simp) (.x (.a (.v (.bool (atF (l.map GrR.gr) i))))) (fun _=>rfl) ?_
 simp (maxSteps:=10^6) only[push_cast,↓reduceIte,reduceCtorEq,Nat.reduceEqDiff,Nat.reduceLT]
 (repeat (refine And.intro (by first|omega|decide) ?_))
 have iK:∀hp,Ad prog w No 109 [.x (.a (.v (.slice A l.length c))),.x (.a (.v fv))] hp (.x (.a (.v (.int .i64 (Cg i (l.map GrR.gr) 0))))) hp:=fun hp=>Bc fun γ w' hS=>Acq l A c fv i w' hm (C5 hR hS) (by
  obtain⟨f,caps,e,hcb,hF⟩:=hP
  exact⟨f,caps,e,hcb,fun w2 x hk=>hF w2 x (Keeps.trans hS.keeps hk)⟩)
 refine Am rfl Aa1 rfl (iK _) (Aa rfl) ?_
 have e:=Wc i (l.map GrR.gr) 0
 simp (maxSteps:=10^6) only[e,push_cast,↓reduceIte,Nat.reduceLT]
 done
end
end
section
def El (l:List PlS) (k:Nat):List Int:=((l.drop 1).take k).foldl K0 (List.replicate l.length 0)
theorem Wd (l:List PlS):El l 0=List.replicate l.length 0:=rfl
theorem We {l:List PlS} {k:Nat} (h:k+1 < l.length):El l (k+1)=(El l k).set (ix l (k+1)).parent.toNat (ix (El l k) (ix l (k+1)).parent.toNat+1):=by
 unfold El
 rw[List.take_add_one,List.getElem?_drop,Nat.add_comm 1 k,List.getElem?_eq_getElem h,Option.toList_some,List.foldl_append,List.foldl_cons,List.foldl_nil,ix,List.getD_eq_getElem?_getD,List.getElem?_eq_getElem h]
 rfl
theorem Asg (l:List PlS):El l (l.length - 1)=beF l:=by
 unfold El beF
 rw[List.take_of_length_le (by simp)]
theorem Sb (l:List PlS):∀k,k < l.length→(El l k).length=l.length
 |0,_=>by rw[Wd];simp
 |k+1,h=>by rw[We h,List.length_set,Sb l k (by omega)]
theorem Sd (l:List PlS) (j:Nat):∀k,k < l.length→0≤ix (El l k) j∧ix (El l k) j≤k
 |0,_=>by rw[Wd,Acn];decide
 |k+1,h=>by
  rw[We h]
  have h1:=Sd l j k (by omega)
  have hl:=Sb l k (by omega)
  by_cases e:(ix l (k+1)).parent.toNat=j
  ·subst e
   have h2:=Sd l (ix l (k+1)).parent.toNat k (by omega)
   by_cases hb:(ix l (k+1)).parent.toNat < (El l k).length
   ·rw[Acl hb];omega
   ·rw[List.set_eq_of_length_le (by omega)];omega
  ·rw[Acm e];omega
attribute [local irreducible] Ac Ad Ah Au Ao Aj Ai Al
attribute [local irreducible] wiF eqI Cg atF El Iy
section
set_option maxRecDepth 100000 in
set_option maxHeartbeats 1000000 in
theorem Ash (c:CfR) (w:World) (hc:c.Ok w) (hst:StOk c.ps.l):Calls prog 107 #[.agg (cfV c).toArray] w fun e w'=>e=.returned (.bool (neF c.cf))∧Below w.heap.size w w':=by
 have F:=FLm.of I4 (by decide) hc.prd
 have hgf:=hc.gfew
 have hgl:=hc.glen
 have hpl:=hc.plen
 have n2:=hst.least
 have n16:=hst.most
 refine Bf (n:=60) func107 rfl ntmps107 [.x (.g [.v (.int .i64 c.dim),.v (.slice c.ps.A c.ps.l.length c.ps.c),.v (.slice c.gs.A c.gs.l.length c.gs.c),.v (.int .i64 c.least),.v (.int .i64 c.term)])] (by simp) (.x (.a (.v (.bool (neF c.cf))))) (fun _=>rfl) ?_
 obtain⟨q,hq⟩:∃q,q=neF c.cf:=⟨_,rfl⟩
 rw[←hq]
 have hq:q=Iy c.cf (beF c.ps.l) c.ps.l.length 0:=hq
 have hA:=F.some_ (by omega)
 have k1:(c.ps.l.length:Int)≤2 ^ 63 - 1:=by omega
 have k2:c.ps.l.length≤2 ^ 63 - 1:=by omega
 have k3:c.ps.l.length*8≤140737488355328:=by omega
 have l1:(1:Int)≤c.ps.l.length:=by omega
 have l2:(c.ps.l.length:Int)≤c.ps.c:=by omega
 have hcut:Ye c.ps.A 1 c.ps.c 3=Af c.ps.A 3:=if_neg (by omega)
 have lc:(((c.ps.l.length - 1:Nat)):Int)=(c.ps.l.length:Int) - 1:=by omega
 simp (maxSteps:=10^6) only[l1,l2,hcut,undef,push_cast,↓Int.toNat_natCast,↓Int.cast_ofNat_Int,Int.cast_ofNat_Int,↓reduceIte,reduceCtorEq,Nat.reduceEqDiff,Nat.reduceLT,Nat.reduceAdd,Int.reduceLE,Int.reduceToNat]
 (repeat (refine And.intro (by first|omega|decide) ?_))
 refine Bj (ι:=Nat) (fun k=>⟨[(1,.x (.a (.p 0 0))),(3,.x (.a (.o 1))),(16,.x (.a (.v (.slice (Af c.ps.A 3) (c.ps.l.length - 1) (c.ps.c - 1))))),(17,.x (.a (.v (.int .i64 ((c.ps.l.length - 1:Nat):Int))))),(18,.x (.a (.v (.int .i64 k))))],
   [.blk 38 (.c [.v (.int .i64 c.dim),.v (.slice c.ps.A c.ps.l.length c.ps.c),.v (.slice c.gs.A c.gs.l.length c.gs.c),.v (.int .i64 c.least),.v (.int .i64 c.term)]),.own 3 (.i64 (El c.ps.l k))]⟩) (fun k=>k+1≤c.ps.l.length) (fun k=>c.ps.l.length - k) 0 [0,1] (by omega) ?_ ?_
 ·have e0:=Wd c.ps.l
  simp (maxSteps:=10^6) only[e0,push_cast,↓Int.cast_ofNat_Int,Int.cast_ofNat_Int,↓reduceIte,reduceCtorEq,Nat.reduceEqDiff,Nat.reduceLT,Nat.reduceAdd]
 intro k hk
 by_cases hlt:(k:Int) < ((c.ps.l.length - 1:Nat):Int)
 ·have hkl:k+1 < c.ps.l.length:=by omega
  have i0:(0:Int)≤k:=by omega
  obtain⟨w1,w2⟩:=F.whole (k+1) hkl
  rw[show (k+1)*3=3+k*3 by omega] at w1 w2
  have hup:=hst.up (k+1) (by omega) hkl
  have e1:=We hkl
  have el:=Sb c.ps.l k (by omega)
  generalize ix c.ps.l (k+1)=p at*
  have w1:Cl w (Af c.ps.A (3+k*3)) 3 0=[.v (.int .i64 p.parent),.v (.int .i64 p.spare),.v (.int .i64 p.need)]:=w1
  obtain⟨P,hP⟩:∃P:Nat,p.parent=P:=⟨p.parent.toNat,by omega⟩
  have eb:=Sd c.ps.l P k (by omega)
  rw[hP,Int.toNat_natCast] at e1
  rw[hP] at hup w1
  have P0:(0:Int)≤P:=by omega
  have P1:(P:Int) < (El c.ps.l k).length:=by omega
  have vP:-9223372036854775808≤ix (El c.ps.l k) P+1∧ix (El c.ps.l k) P+1≤9223372036854775807:=by omega
  have nx:(k:Int)+1≤9223372036854775807:=by omega
  simp (maxSteps:=10^6) only[hlt,i0,w1,w2,hA,Ce,Bp,P0,P1,vP,undef,push_cast,↓Int.toNat_natCast,↓reduceIte,reduceCtorEq,Nat.reduceEqDiff,Nat.reduceLT,Nat.reduceAdd,Int.reduceNeg]
  (repeat (refine And.intro (by first|omega|decide) ?_))
  refine Ba (k+1) [0,1] (by show k+1+1≤_;omega) (by show c.ps.l.length - (k+1) < c.ps.l.length - k;omega) ?_
  simp (maxSteps:=10^6) only[e1,push_cast,↓reduceIte,reduceCtorEq,Nat.reduceEqDiff,Nat.reduceLT,Nat.reduceAdd]
  done
 ·obtain rfl:k=c.ps.l.length - 1:=by omega
  have eb:=Asg c.ps.l
  have bl:=Sb c.ps.l _ (show c.ps.l.length - 1 < c.ps.l.length by omega)
  have bb:=fun j=>Sd c.ps.l j _ (show c.ps.l.length - 1 < c.ps.l.length by omega)
  rw[eb] at bl bb
  simp (maxSteps:=10^6) only[hlt,eb,undef,push_cast,↓reduceIte,reduceCtorEq,Nat.reduceEqDiff,Nat.reduceLT,Nat.reduceAdd]
  refine Bj (ι:=Nat) (fun i=>⟨[(1,.x (.a (.p 0 0))),(3,.x (.a (.o 1))),(31,.x (.a (.v (.slice c.ps.A c.ps.l.length c.ps.c)))),(32,.x (.a (.v (.int .i64 c.ps.l.length)))),(33,.x (.a (.v (.int .i64 i))))],
   [.blk 38 (.c [.v (.int .i64 c.dim),.v (.slice c.ps.A c.ps.l.length c.ps.c),.v (.slice c.gs.A c.gs.l.length c.gs.c),.v (.int .i64 c.least),.v (.int .i64 c.term)]),.own 3 (.i64 (beF c.ps.l))]⟩) (fun i=>i≤c.ps.l.length∧q=Iy c.cf (beF c.ps.l) (c.ps.l.length - i) i) (fun i=>c.ps.l.length - i) 0 [0,1] ⟨Nat.zero_le _,hq⟩ ?_ ?_
  ·simp (maxSteps:=10^6) only[push_cast,↓Int.cast_ofNat_Int,Int.cast_ofNat_Int,↓reduceIte,reduceCtorEq,Nat.reduceEqDiff,Nat.reduceLT,Nat.reduceAdd]
  rintro i ⟨hi,hg⟩
  by_cases hlt2:(i:Int) < c.ps.l.length
  ·have hil:i < c.ps.l.length:=by omega
   have i0:(0:Int)≤i:=by omega
   obtain⟨w1,w2⟩:=F.whole i hil
   rw[show c.ps.l.length - i=(c.ps.l.length - (i+1))+1 by omega,Iy] at hg
   rw[show c.cf.places=c.ps.l from rfl,show c.cf.groups=c.gs.l.map GrR.gr from rfl] at hg
   generalize ix c.ps.l i=p at*
   have w1:Cl w (Af c.ps.A (i*3)) 3 0=[.v (.int .i64 p.parent),.v (.int .i64 p.spare),.v (.int .i64 p.need)]:=w1
   have cK:∀hp,Ch hp[2]?=some (3,.c [.v (.int .i64 (i:Int))])→Ad prog w No 143 [.x (.a (.v (.slice c.gs.A c.gs.l.length c.gs.c))),.f (.func 144) [.p 2 0]] hp (.x (.a (.v (.bool (atF (c.gs.l.map GrR.gr) i))))) hp:=fun hp h=>Bc fun γ w' hS=>Asf c.gs.l c.gs.A c.gs.c _ i w' hgf hgl (C5 hc.grd hS) (Asd.pure (K8 (vs:=[.int .i64 (i:Int)]) hS h rfl))
   have I1:(i:Int) < (beF c.ps.l).length:=by omega
   have nx:(i:Int)+1≤9223372036854775807:=by omega
   simp (maxSteps:=10^6) only[hlt2,i0,w1,w2,hA,Bp,undef,push_cast,↓Int.toNat_natCast,↓reduceIte,reduceCtorEq,Nat.reduceEqDiff,Nat.reduceLT,Nat.reduceAdd]
   (repeat (refine And.intro (by first|omega|decide) ?_))
   refine Am rfl Ao7 rfl (cK _ rfl) (Aa rfl) ?_
   cases hat:atF (c.gs.l.map GrR.gr) i with
   |true=>
    rw[hat] at hg
    by_cases hb:0 < ix (beF c.ps.l) i
    ·rw[if_pos (by rw[decide_eq_true hb])] at hg
     simp (maxSteps:=10^6) only[hb,hg,I1,i0,undef,push_cast,↓Int.toNat_natCast,↓reduceIte,Nat.reduceEqDiff,Nat.reduceLT,Nat.reduceAdd]
     all_goals omega
    ·rw[if_neg (by rw[decide_eq_false hb];decide),if_pos rfl] at hg
     simp (maxSteps:=10^6) only[hb,I1,i0,undef,push_cast,↓Int.toNat_natCast,↓reduceIte,reduceCtorEq,Nat.reduceEqDiff,Nat.reduceLT,Nat.reduceAdd]
     (repeat (refine And.intro (by first|omega|decide) ?_))
     refine Am rfl Hv rfl (Ia _ _ _) (Aa rfl) ?_
     cases hw:wiF p.need 1 1 with
     |true=>
      rw[hw,if_pos rfl] at hg
      simp (maxSteps:=10^6) only[nx,push_cast,↓reduceIte,Nat.reduceEqDiff,Nat.reduceLT,Nat.reduceAdd,Int.reduceNeg]
      (repeat (refine And.intro (by first|omega|decide) ?_))
      refine Ba (i+1) [0,1] ⟨by omega,hg⟩ (by omega) ?_
      simp (maxSteps:=10^6) only[push_cast,↓reduceIte,reduceCtorEq,Nat.reduceEqDiff,Nat.reduceLT,Nat.reduceAdd]
      done
     |false=>
      rw[hw,if_neg (by decide)] at hg
      simp (maxSteps:=10^6) only[hg,push_cast,↓reduceIte,Nat.reduceLT,Nat.reduceAdd]
      done
   |false=>
    rw[hat] at hg
    by_cases hb:0 < ix (beF c.ps.l) i
    ·rw[if_neg (by rw[decide_eq_true hb];decide)] at hg
     simp only[Bool.false_eq_true,↓reduceIte] at hg
     simp (maxSteps:=10^6) only[hb,I1,i0,undef,push_cast,↓Int.toNat_natCast,↓reduceIte,reduceCtorEq,Nat.reduceEqDiff,Nat.reduceLT,Nat.reduceAdd]
     (repeat (refine And.intro (by first|omega|decide) ?_))
     refine Am rfl Hv rfl (Ia _ _ _) (Aa rfl) ?_
     cases hw:wiF p.need 1 (ix (beF c.ps.l) i) with
     |true=>
      rw[hw,if_pos rfl] at hg
      simp (maxSteps:=10^6) only[nx,push_cast,↓reduceIte,Nat.reduceEqDiff,Nat.reduceLT,Nat.reduceAdd,Int.reduceNeg]
      (repeat (refine And.intro (by first|omega|decide) ?_))
      refine Ba (i+1) [0,1] ⟨by omega,hg⟩ (by omega) ?_
      simp (maxSteps:=10^6) only[push_cast,↓reduceIte,reduceCtorEq,Nat.reduceEqDiff,Nat.reduceLT,Nat.reduceAdd]
      done
     |false=>
      rw[hw,if_neg (by decide)] at hg
      simp (maxSteps:=10^6) only[hg,push_cast,↓reduceIte,Nat.reduceLT,Nat.reduceAdd]
      done
    ·rw[if_pos (by rw[decide_eq_false hb])] at hg
     simp (maxSteps:=10^6) only[hb,hg,I1,i0,undef,push_cast,↓Int.toNat_natCast,↓reduceIte,Nat.reduceEqDiff,Nat.reduceLT,Nat.reduceAdd]
     all_goals omega
  ·obtain rfl:i=c.ps.l.length:=by omega
   rw[Nat.sub_self,Iy] at hg
   simp (maxSteps:=10^6) only[hlt2,hg,push_cast,↓reduceIte,Nat.reduceEqDiff,Nat.reduceLT,Nat.reduceAdd]
   done
end
end
section
attribute [local irreducible] Ac Ad Ah Au Ao Aj Ai Al
attribute [local irreducible] wiF stF grF neF okV Abw cfF
section
theorem Asi {w0:World} {hp:List Res} (c:CfR) (hc:c.Ok w0):Ad prog w0 No 105 [.x (.a (.v (.slice c.ps.A c.ps.l.length c.ps.c)))] hp (.x (.a (.v (.bool (stF c.ps.l))))) hp:=Bc fun γ w hS=>Ar7 c.ps.l c.ps.A c.ps.c w hc.pfew (C5 hc.prd hS)
theorem Asj {w0:World} {hp:List Res} (c:CfR) (hc:c.Ok w0):Ad prog w0 No 106 [.x (.g [.v (.int .i64 c.dim),.v (.slice c.ps.A c.ps.l.length c.ps.c),.v (.slice c.gs.A c.gs.l.length c.gs.c),.v (.int .i64 c.least),.v (.int .i64 c.term)])] hp (.x (.a (.v (.bool (grF c.cf))))) hp:=Bc fun γ w hS=>Asc c w (hc.later hS)
theorem Ask {w0:World} {hp:List Res} (c:CfR) (hc:c.Ok w0) (hst:StOk c.ps.l):Ad prog w0 No 107 [.x (.g [.v (.int .i64 c.dim),.v (.slice c.ps.A c.ps.l.length c.ps.c),.v (.slice c.gs.A c.gs.l.length c.gs.c),.v (.int .i64 c.least),.v (.int .i64 c.term)])] hp (.x (.a (.v (.bool (neF c.cf))))) hp:=Bc fun γ w hS=>Ash c w (hc.later hS) hst
set_option maxRecDepth 100000 in
theorem Acr (c:CfR) (w:World) (hc:c.Ok w):Calls prog 49 #[.agg (cfV c).toArray] w fun e w'=>e=.returned (okV (cfF c.cf) 1)∧Below w.heap.size w w':=by
 refine Bf (n:=29) func49 rfl ntmps49 [.x (.g [.v (.int .i64 c.dim),.v (.slice c.ps.A c.ps.l.length c.ps.c),.v (.slice c.gs.A c.gs.l.length c.gs.c),.v (.int .i64 c.least),.v (.int .i64 c.term)])] (by simp) (.x (.a (.v (okV (cfF c.cf) 1)))) (fun _=>rfl) ?_
 have hq:cfF c.cf=(wiF c.dim 1 32&&wiF c.term 1 1000&&stF c.ps.l&&grF c.cf&&neF c.cf):=by unfold cfF;rfl
 have hT:=Gt 1
 have hF:=H8 1
 simp (maxSteps:=10^6) only[undef,push_cast,↓reduceIte,reduceCtorEq,Nat.reduceEqDiff,Nat.reduceLT,Nat.reduceAdd]
 (repeat (refine And.intro (by first|omega|decide) ?_))
 refine Am rfl Hv rfl (Ia _ _ _) (Aa rfl) ?_
 cases h1:wiF c.dim 1 32 with
 |false=>
  rw[h1] at hq
  simp only[Bool.false_and] at hq
  simp (maxSteps:=10^6) only[hq,hF,undef,push_cast,↓reduceIte,Nat.reduceEqDiff,Nat.reduceLT]
  done
 |true=>
  rw[h1,Bool.true_and] at hq
  simp (maxSteps:=10^6) only[undef,push_cast,↓reduceIte,reduceCtorEq,Nat.reduceEqDiff,Nat.reduceLT,Nat.reduceAdd]
  (repeat (refine And.intro (by first|omega|decide) ?_))
  refine Am rfl Hv rfl (Ia _ _ _) (Aa rfl) ?_
  cases h2:wiF c.term 1 1000 with
  |false=>
   rw[h2] at hq
   simp only[Bool.false_and] at hq
   simp (maxSteps:=10^6) only[hq,hF,push_cast,↓reduceIte,Nat.reduceEqDiff,Nat.reduceLT]
   done
  |true=>
   rw[h2,Bool.true_and] at hq
   simp (maxSteps:=10^6) only[undef,push_cast,↓reduceIte,reduceCtorEq,Nat.reduceEqDiff,Nat.reduceLT,Nat.reduceAdd]
   (repeat (refine And.intro (by first|omega|decide) ?_))
   refine Am rfl Aow rfl (Asi c hc) (Aa rfl) ?_
   cases h3:stF c.ps.l with
   |false=>
    rw[h3] at hq
    simp only[Bool.false_and] at hq
    simp (maxSteps:=10^6) only[hq,hF,undef,push_cast,↓reduceIte,Nat.reduceEqDiff,Nat.reduceLT]
    done
   |true=>
    rw[h3,Bool.true_and] at hq
    simp (maxSteps:=10^6) only[push_cast,↓reduceIte,Nat.reduceEqDiff,Nat.reduceLT,Nat.reduceAdd]
    (repeat (refine And.intro (by first|omega|decide) ?_))
    refine Am rfl Aox rfl (Asj c hc) (Aa rfl) ?_
    cases h4:grF c.cf with
    |false=>
     rw[h4] at hq
     simp only[Bool.false_and] at hq
     simp (maxSteps:=10^6) only[hq,hF,undef,push_cast,↓reduceIte,Nat.reduceEqDiff,Nat.reduceLT]
     done
    |true=>
     rw[h4,Bool.true_and] at hq
     simp (maxSteps:=10^6) only[push_cast,↓reduceIte,Nat.reduceEqDiff,Nat.reduceLT,Nat.reduceAdd]
     (repeat (refine And.intro (by first|omega|decide) ?_))
     refine Am rfl Aoy rfl (Ask c hc (Ab0 h3)) (Aa rfl) ?_
     cases h5:neF c.cf with
     |false=>
      rw[h5] at hq
      simp (maxSteps:=10^6) only[hq,hF,push_cast,↓reduceIte,Nat.reduceEqDiff,Nat.reduceLT]
      done
     |true=>
      rw[h5] at hq
      simp (maxSteps:=10^6) only[hq,hT,push_cast,↓reduceIte,Nat.reduceEqDiff,Nat.reduceLT]
      done
theorem Asl {w0:World} {hp:List Res} (c:CfR) (hc:c.Ok w0):Ad prog w0 No 49 [.x (.g [.v (.int .i64 c.dim),.v (.slice c.ps.A c.ps.l.length c.ps.c),.v (.slice c.gs.A c.gs.l.length c.gs.c),.v (.int .i64 c.least),.v (.int .i64 c.term)])] hp (.x (.a (.v (okV (cfF c.cf) 1)))) hp:=Bc fun γ w hS=>Acr c w (hc.later hS)
theorem Asm {w0:World} {hp:List Res} {s:Sv} {c:CfS} (h:Hc w0 hp s c):Ad prog w0 No 49 [s] hp (.x (.a (.v (okV (cfF c) 1)))) hp:=Bc fun γ w hS=>by
 obtain⟨a,e,h1,rfl⟩:=h γ w hS
 show Calls _ _ #[s.val γ] w _
 rw[e]
 exact Acr a w h1
def Asn (gs:List GrS) (k:Nat):List Int:=(gs.take k).foldl (fun s g=>Ak s g.ids) []
attribute [local irreducible] Asn Vy Ak
end
end
end Go.Proofs.YtedaafmfjhjfmaaGreatDoor
