import Derived.Test.YtedaafmfjhjfmaaGreatDoorCf1
/- Layer 21: conf.grouped. -/
namespace Go.Proofs.YtedaafmfjhjfmaaGreatDoor
open Go.RowKit
set_option linter.unusedSimpArgs false
set_option linter.unusedVariables false
theorem Azo (n:Nat):(n:Int).tdiv 2=(n:Int) / 2:=Int.tdiv_eq_ediv_of_nonneg (by omega)
theorem Z3 (a b:List Int):(Ay a b).length≤64:=Y3 _
theorem Azp (n:Int) (g:GrS) (last:Int) (seen:List Int):Hh n g last seen=(decide (last < g.place)&&decide (g.place < n)&&wiF g.ids.length 1 12&&Bm (-1) g.ids&&decide (((Br seen g.ids).length:Int)=0)&&wiF g.need ((g.ids.length:Int) / 2+1) g.ids.length):=by
 unfold Hh
 have e:decide ((Br seen g.ids).length=0)=decide (((Br seen g.ids).length:Int)=0):=decide_eq_decide.2 (by omega)
 rw[e,Bool.decide_and]
attribute [local irreducible] Ad Ae Ah Ar Ak Am Ai Al
attribute [local irreducible] wiF Bm Br Ay Hh okV Iq
section
set_option maxRecDepth 100000 in
set_option maxHeartbeats 1000000 in
theorem Azq (g:GrR) (c:CfR) (last:Int) (seen:SlV Int) (A1 A2 A3:Option Addr) (w:World) (h1:Vr w A1 [.int .i64 last]) (h2:Vr w A2 (cfV c)) (h3:Vr w A3 [seen.val]) (hs:seen.l.length≤64) (hsc:seen.l.length≤seen.c) (hsr:RdV w w.heap.size seen.A (seen.l.map (Value.int .i64))) (hg:g.Ok w):
  Calls Tryz.prog 142 #[.agg (grV g).toArray,.pointer A1,.pointer A2,.pointer A3] w fun e w'=>e=.returned (.bool (Hh c.ps.l.length g.gr last seen.l))∧Below w.heap.size w w':=by
 refine Ba (n:=49) Tryz.func142 rfl Tryz.ntmps142 [.x (.g [.v (.int .i64 g.place),.v (.slice g.ids.A g.ids.l.length g.ids.c),.v (.int .i64 g.need)]),.x (.a (.v (.pointer A1))),.x (.a (.v (.pointer A2))),.x (.a (.v (.pointer A3)))] (by simp) (.x (.a (.v (.bool (Hh c.ps.l.length g.gr last seen.l))))) (fun _=>rfl) ?_
 obtain⟨q,hq⟩:∃q,q=Hh c.ps.l.length g.gr last seen.l:=⟨_,rfl⟩
 rw[←hq]
 rw[Azp] at hq
 have hq:q=(decide (last < g.place)&&decide (g.place < (c.ps.l.length:Int))&&wiF g.ids.l.length 1 12&&Bm (-1) g.ids.l&&decide (((Br seen.l g.ids.l).length:Int)=0)&&wiF g.need ((g.ids.l.length:Int) / 2+1) g.ids.l.length):=hq
 obtain⟨n1,n2,n3⟩:=h1
 obtain⟨c1,o1⟩:=n3 0 _ rfl
 obtain⟨m1,m2,m3⟩:=h2
 obtain⟨c2,o2⟩:=m3 1 _ rfl
 obtain⟨q1,q2,q3⟩:=h3
 obtain⟨c3,o3⟩:=q3 0 _ rfl
 rw[Cm] at c1 o1 c3 o3
 have t2:=Azo g.ids.l.length
 have hgl:=hg.few
 have b1:-9223372036854775808≤(g.ids.l.length:Int) / 2+1∧(g.ids.l.length:Int) / 2+1≤9223372036854775807:=by omega
 have b2:-9223372036854775808≤(g.ids.l.length:Int) / 2∧(g.ids.l.length:Int) / 2≤9223372036854775807:=by omega
 by_cases k1:last < g.place
 ·by_cases k2:g.place < (c.ps.l.length:Int)
  ·rw[decide_eq_true k1,decide_eq_true k2,Bool.true_and,Bool.true_and] at hq
   simp (maxSteps:=10^6) only[c1,o1,m1,c2,o2,k1,k2,SlV.val,undef,push_cast,↓reduceIte,reduceCtorEq,Nat.reduceEqDiff,Nat.reduceLT,Nat.reduceAdd]
   (repeat (refine And.intro (by first|omega|decide) ?_))
   refine Aq rfl Gn rfl (Gy _ _ _) (Af rfl) ?_
   cases k3:wiF g.ids.l.length 1 12 with
   |false=>
    rw[k3] at hq
    simp only[Bool.false_and] at hq
    simp (maxSteps:=10^6) only[hq,undef,push_cast,↓reduceIte,Nat.reduceEqDiff,Nat.reduceLT]
    done
   |true=>
    rw[k3,Bool.true_and] at hq
    simp (maxSteps:=10^6) only[undef,push_cast,↓reduceIte,reduceCtorEq,Nat.reduceEqDiff,Nat.reduceLT,Nat.reduceAdd]
    (repeat (refine And.intro (by first|omega|decide) ?_))
    refine Aq rfl Yh rfl (Zu hgl (Ci hg.rd _ _ (by simp) hg.len)) (Af rfl) ?_
    cases k4:Bm (-1) g.ids.l with
    |false=>
     rw[k4] at hq
     simp only[Bool.false_and] at hq
     have hf:=Hm 1
     simp (maxSteps:=10^6) only[hf,hq,undef,push_cast,↓reduceIte,Nat.reduceEqDiff,Nat.reduceLT]
     done
    |true=>
     rw[k4,Bool.true_and] at hq
     have hf:=Hl 1
     simp (maxSteps:=10^6) only[hf,c3,o3,SlV.val,undef,push_cast,↓reduceIte,reduceCtorEq,Nat.reduceEqDiff,Nat.reduceLT,Nat.reduceAdd]
     (repeat (refine And.intro (by first|omega|decide) ?_))
     refine Fm rfl Pe rfl (P2 (a:=seen.l) (b:=g.ids.l) (by omega) hgl (Ci hsr _ _ (by simp) hsc) (Ci hg.rd _ _ (by simp) hg.len) (by simp only[push_cast])) (Af rfl) (by simp only[push_cast,Nat.reduceLT]) ?_
     by_cases k5:((Br seen.l g.ids.l).length:Int)=0
     ·rw[decide_eq_true k5,Bool.true_and] at hq
      simp (maxSteps:=10^6) only[k5,b1,b2,t2,undef,push_cast,↓reduceIte,reduceCtorEq,Nat.reduceEqDiff,Nat.reduceLT,Nat.reduceAdd,Int.reduceNeg,Int.reduceEq]
      (repeat (refine And.intro (by first|omega|decide) ?_))
      refine Aq rfl Gn rfl (Gy _ _ _) (Af rfl) ?_
      simp (maxSteps:=10^6) only[hq,push_cast,↓reduceIte,Nat.reduceEqDiff,Nat.reduceLT,Nat.reduceAdd]
      done
     ·rw[decide_eq_false k5,Bool.false_and] at hq
      simp (maxSteps:=10^6) only[k5,hq,undef,push_cast,↓reduceIte,Nat.reduceEqDiff,Nat.reduceLT,Nat.reduceAdd]
      done
  ·rw[decide_eq_false k2] at hq
   simp only[Bool.and_false,Bool.false_and] at hq
   simp (maxSteps:=10^6) only[c1,o1,m1,c2,o2,k1,k2,hq,SlV.val,undef,push_cast,↓reduceIte,reduceCtorEq,Nat.reduceEqDiff,Nat.reduceLT,Nat.reduceAdd]
   done
 ·rw[decide_eq_false k1] at hq
  simp only[Bool.false_and] at hq
  simp (maxSteps:=10^6) only[c1,o1,k1,hq,undef,push_cast,↓reduceIte,reduceCtorEq,Nat.reduceEqDiff,Nat.reduceLT,Nat.reduceAdd]
  done
theorem Azr {w0:World} {hp:List Res} {g:GrR} {c:CfR} {last:Int} {seen:List Int} {k1 k2 k3 j:Nat} {t1 t2 t3:TypeId} (h1:Cw hp[k1]?=some (t1,.c [.v (.int .i64 last)])) (h2:Cw hp[k2]?=some (t2,.c (cfA c))) (h3:Cw hp[k3]?=some (t3,.c [.o j])) (hj:hp[j]?=some (.own 3 (.i64 seen))) (hs:seen.length≤64) (hg:g.Ok w0):
  Ae Tryz.prog w0 No 142 [.x (.g (grA g)),.x (.a (.p k1 0)),.x (.a (.p k2 0)),.x (.a (.p k3 0))] hp (.x (.a (.v (.bool (Hh c.ps.l.length g.gr last seen))))) hp:=A8 fun γ w hS=>by
 obtain⟨A,cap,e1,e2,_,e4⟩:=hS.rdOwn hj
 have v1:=K9 (vs:=[.int .i64 last]) hS h1 rfl
 have v2:=K9 (vs:=cfV c) hS h2 rfl
 have v3:=K9 (vs:=[(⟨A,cap,seen⟩:SlV Int).val]) hS h3 (by show [nmS γ j]=_;rw[e1];rfl)
 exact Azq g c last ⟨A,cap,seen⟩ _ _ _ w v1 v2 v3 hs e2 e4 ⟨hg.len,hg.few,Cn hg.rd hS⟩
set_option maxRecDepth 100000 in
set_option maxHeartbeats 1000000 in
theorem Azs (c:CfR) (w:World) (hc:c.Ok w):Calls Tryz.prog 106 #[.agg (cfV c).toArray] w fun e w'=>e=.returned (.bool (grF c.cf))∧Below w.heap.size w w':=by
 have F:=FLm.of Iu (by decide) hc.grd
 have hgf:=hc.gfew
 have hpf:=hc.pfew
 refine Ba (n:=45) Tryz.func106 rfl Tryz.ntmps106 [.x (.g [.v (.int .i64 c.dim),.v (.slice c.ps.A c.ps.l.length c.ps.c),.v (.slice c.gs.A c.gs.l.length c.gs.c),.v (.int .i64 c.least),.v (.int .i64 c.term)])] (by simp) (.x (.a (.v (.bool (grF c.cf))))) (fun _=>rfl) ?_
 obtain⟨q,hq⟩:∃q,q=grF c.cf:=⟨_,rfl⟩
 rw[←hq]
 unfold grF at hq
 have hq:q=if 1≤(c.gs.l.map GrR.gr).length∧(c.gs.l.map GrR.gr).length < c.ps.l.length then (match Iq c.ps.l.length (c.gs.l.map GrR.gr) 0 [] with|some seen=>wiF c.least 1 seen.length|none=>false) else false:=hq
 rw[List.length_map] at hq
 by_cases k1:(c.gs.l.length:Int) < 1
 ·rw[if_neg (by omega)] at hq
  simp (maxSteps:=10^6) only[k1,hq,undef,push_cast,↓reduceIte,reduceCtorEq,Nat.reduceEqDiff,Nat.reduceLT,Nat.reduceAdd]
  done
 by_cases k2:(c.ps.l.length:Int)≤c.gs.l.length
 ·rw[if_neg (by omega)] at hq
  simp (maxSteps:=10^6) only[k1,k2,hq,undef,push_cast,↓reduceIte,reduceCtorEq,Nat.reduceEqDiff,Nat.reduceLT,Nat.reduceAdd]
  done
 rw[if_pos (by omega)] at hq
 obtain⟨R,hR⟩:∃R,R=Iq c.ps.l.length (c.gs.l.map GrR.gr) 0 []:=⟨_,rfl⟩
 rw[←hR] at hq
 simp (maxSteps:=10^6) only[k1,k2,undef,push_cast,↓reduceIte,reduceCtorEq,Nat.reduceEqDiff,Nat.reduceLT,Nat.reduceAdd]
 refine Yp 1 0 43 3 _ (.i64 []) rfl rfl rfl trivial (by simp (maxSteps:=10^6) only[push_cast,Nat.reduceLT,Nat.reduceAdd]) ?_
 simp (maxSteps:=10^6) only[push_cast,Nat.reduceAdd]
 refine Bh (ι:=Nat×Int×List Int) (fun x=>⟨[(1,.x (.a (.p 0 0))),(3,.x (.a (.p 1 0))),(4,.x (.a (.p 2 0))),(5,.f (.func 142) [.p 2 0,.p 0 0,.p 1 0]),(23,.x (.a (.v (.slice c.gs.A c.gs.l.length c.gs.c)))),(24,.x (.a (.v (.int .i64 c.gs.l.length)))),(25,.x (.a (.v (.int .i64 (x.1:Nat)))))],
   [.blk 38 (.c [.v (.int .i64 c.dim),.v (.slice c.ps.A c.ps.l.length c.ps.c),.v (.slice c.gs.A c.gs.l.length c.gs.c),.v (.int .i64 c.least),.v (.int .i64 c.term)]),.blk 43 (.c [.o 3]),.blk 3 (.c [.v (.int .i64 x.2.1)]),.own 3 (.i64 x.2.2)]⟩)
  (fun x=>x.1≤c.gs.l.length∧x.2.2.length≤64∧R=Iq c.ps.l.length ((c.gs.l.drop x.1).map GrR.gr) x.2.1 x.2.2) (fun x=>c.gs.l.length - x.1) (0,0,[]) [0,1,2,3] ⟨Nat.zero_le _,Nat.zero_le _,hR⟩ ?_ ?_
 ·simp (maxSteps:=10^6) only[push_cast,↓Int.cast_ofNat_Int,Int.cast_ofNat_Int,↓reduceIte,reduceCtorEq,Nat.reduceEqDiff,Nat.reduceLT,Nat.reduceAdd]
 rintro⟨i,last,seen⟩ ⟨hi,hsl,hg⟩
 dsimp only at hi hsl hg
 by_cases hlt:(i:Int) < c.gs.l.length
 ·have hil:i < c.gs.l.length:=by omega
  have i0:(0:Int)≤i:=by omega
  obtain⟨w1,w2⟩:=F.whole i hil
  have hA:=F.some_ (by omega)
  have gok:=hc.ids _ (Dr hil)
  have hd:c.gs.l.drop i=ix c.gs.l i::c.gs.l.drop (i+1):=by
   rw[List.drop_eq_getElem_cons hil,ix,List.getD_eq_getElem?_getD,List.getElem?_eq_getElem hil];rfl
  rw[hd,List.map_cons,Iq] at hg
  generalize ix c.gs.l i=g at*
  have w1:Cc w (Ag c.gs.A (i*3)) 3 0=[.v (.int .i64 g.place),.v (.slice g.ids.A g.ids.l.length g.ids.c),.v (.int .i64 g.need)]:=w1
  have nx:(i:Int)+1≤9223372036854775807:=by omega
  simp (maxSteps:=10^6) only[hlt,i0,w1,w2,hA,Bl,undef,push_cast,↓Int.toNat_natCast,↓reduceIte,reduceCtorEq,Nat.reduceEqDiff,Nat.reduceLT,Nat.reduceAdd]
  (repeat (refine And.intro (by first|omega|decide) ?_))
  refine Yo rfl rfl Awl rfl (Azr (g:=g) (c:=c) (last:=last) (seen:=seen) (k1:=2) (k2:=0) (k3:=1) (j:=3) rfl rfl rfl rfl hsl gok) (Af rfl) (fun _=>by simp (maxSteps:=10^6) only[push_cast,Nat.reduceLT,Nat.reduceAdd]) ?_
  cases hf:Hh c.ps.l.length g.gr last seen with
  |false=>
   rw[hf,if_neg (by decide)] at hg
   rw[hg] at hq
   dsimp only at hq
   simp (maxSteps:=10^6) only[hq,push_cast,↓reduceIte,Nat.reduceLT,Nat.reduceAdd]
   done
  |true=>
   rw[hf,if_pos rfl] at hg
   simp (maxSteps:=10^6) only[undef,push_cast,↓reduceIte,reduceCtorEq,Nat.reduceEqDiff,Nat.reduceLT,Nat.reduceAdd]
   (repeat (refine And.intro (by first|omega|decide) ?_))
   refine Fm rfl X7 rfl (Ayw (a:=seen) (b:=g.ids.l) (by omega) gok.few (K3 rfl fun _=>rfl) (Ci gok.rd _ _ (by simp) gok.len) (by simp only[push_cast,Nat.reduceLT,Nat.reduceAdd])) (Af rfl) (by simp only[push_cast,Nat.reduceLT,Nat.reduceAdd]) ?_
   simp (maxSteps:=10^6) only[undef,push_cast,↓reduceIte,Nat.reduceEqDiff,Nat.reduceLT,Nat.reduceAdd,Int.reduceNeg]
   (repeat (refine And.intro (by first|omega|decide) ?_))
   refine Be (i+1,g.place,Ay seen g.ids.l) [0,1,2,5] ⟨by show i+1≤_;omega,Z3 _ _,hg⟩ (by show c.gs.l.length - (i+1) < c.gs.l.length - i;omega) ?_
   simp (maxSteps:=10^6) only[push_cast,↓reduceIte,reduceCtorEq,Nat.reduceEqDiff,Nat.reduceLT,Nat.reduceAdd]
   done
 ·have hil:i=c.gs.l.length:=by omega
  rw[hil,List.drop_length,List.map_nil,Iq] at hg
  rw[hg] at hq
  dsimp only at hq
  simp (maxSteps:=10^6) only[hlt,undef,push_cast,↓reduceIte,reduceCtorEq,Nat.reduceEqDiff,Nat.reduceLT,Nat.reduceAdd]
  (repeat (refine And.intro (by first|omega|decide) ?_))
  refine Aq rfl Gn rfl (Gy _ _ _) (Af rfl) ?_
  simp (maxSteps:=10^6) only[hq,push_cast,↓reduceIte,Nat.reduceLT,Nat.reduceAdd]
  done
end
end Go.Proofs.YtedaafmfjhjfmaaGreatDoor
/- Layer 21: the first group of a kind; conf.needed. -/
namespace Go.Proofs.YtedaafmfjhjfmaaGreatDoor
open Go.RowKit
set_option linter.unusedSimpArgs false
set_option linter.unusedVariables false
def eqI (a b:Int):Bool:=decide (a=b)
theorem Ud {a b:Int} (h:a=b):eqI a b=true:=decide_eq_true h
theorem Ue {a b:Int} (h:¬a=b):eqI a b=false:=decide_eq_false h
def B2 (i:Int):List GrS→Nat→Int
 |[],_=>-1
 |g::r,k=>if eqI g.place i=true then (k:Int) else B2 i r (k+1)
theorem Z4 (i:Int):∀(l:List GrS) (k:Nat),atF l i=decide (0≤B2 i l k)
 |[],k=>rfl
 |g::r,k=>by
  have ih:=Z4 i r (k+1)
  unfold atF at ih ⊢
  rw[B2,List.any_cons]
  by_cases h:g.place=i
  ·rw[Ud h,if_pos rfl,decide_eq_true h,decide_eq_true (by omega)];rfl
  ·rw[Ue h,if_neg (by decide),decide_eq_false h,Bool.false_or,ih]
theorem Z5 (i:Int):∀(l:List GrS) (k:Nat),-1≤B2 i l k∧B2 i l k < k+l.length
 |[],k=>by rw[B2];simp;omega
 |g::r,k=>by
  rw[B2]
  have ih:=Z5 i r (k+1)
  rw[List.length_cons]
  split<;>omega
attribute [local irreducible] Ad Ae Ah Ar Ak Am Ai Al
attribute [local irreducible] wiF eqI B2 atF
def EqPl (f:FuncId):Prop:=Ad Tryz.prog f∧∀(A:Option Addr) (i:Int) (w:World) (g:GrR),Vr w A [.int .i64 i]→Calls Tryz.prog f #[.agg (grV g).toArray,.pointer A] w fun e w'=>e=.returned (.bool (eqI g.place i))∧Below w.heap.size w w'
section
set_option maxRecDepth 100000 in
theorem Azt:EqPl 144:=⟨Awn,fun A i w g hv=>by
 refine Ba (n:=8) Tryz.func144 rfl Tryz.ntmps144 [.x (.g [.v (.int .i64 g.place),.v (.slice g.ids.A g.ids.l.length g.ids.c),.v (.int .i64 g.need)]),.x (.a (.v (.pointer A)))] (by simp) (.x (.a (.v (.bool (eqI g.place i))))) (fun _=>rfl) ?_
 obtain⟨c1,o1⟩:=hv.cell 0 _ rfl
 rw[Cm] at c1 o1
 have n1:=hv.some_
 have n2:=hv.none_
 by_cases h:g.place=i
 ·have hd:=Ud h
  simp (maxSteps:=10^6) only[c1,o1,h,undef,push_cast,↓reduceIte,reduceCtorEq,Nat.reduceEqDiff,Nat.reduceLT,Nat.reduceAdd]
  subst h
  simp (maxSteps:=10^6) only[hd,push_cast]
  done
 ·have hd:=Ue h
  simp (maxSteps:=10^6) only[c1,o1,h,hd,undef,push_cast,↓reduceIte,reduceCtorEq,Nat.reduceEqDiff,Nat.reduceLT,Nat.reduceAdd]
  done⟩
set_option maxRecDepth 100000 in
theorem Azu:EqPl 110:=⟨Awe,fun A i w g hv=>by
 refine Ba (n:=8) Tryz.func110 rfl Tryz.ntmps110 [.x (.g [.v (.int .i64 g.place),.v (.slice g.ids.A g.ids.l.length g.ids.c),.v (.int .i64 g.need)]),.x (.a (.v (.pointer A)))] (by simp) (.x (.a (.v (.bool (eqI g.place i))))) (fun _=>rfl) ?_
 obtain⟨c1,o1⟩:=hv.cell 0 _ rfl
 rw[Cm] at c1 o1
 have n1:=hv.some_
 have n2:=hv.none_
 by_cases h:g.place=i
 ·have hd:=Ud h
  simp (maxSteps:=10^6) only[c1,o1,h,undef,push_cast,↓reduceIte,reduceCtorEq,Nat.reduceEqDiff,Nat.reduceLT,Nat.reduceAdd]
  subst h
  simp (maxSteps:=10^6) only[hd,push_cast]
  done
 ·have hd:=Ue h
  simp (maxSteps:=10^6) only[c1,o1,h,hd,undef,push_cast,↓reduceIte,reduceCtorEq,Nat.reduceEqDiff,Nat.reduceLT,Nat.reduceAdd]
  done⟩
theorem EqPl.pure {f:FuncId} {A:Option Addr} {i:Int} {w:World} (h:EqPl f) (hv:Vr w A [.int .i64 i]):Pi Tryz.prog w (.func (.func f) #[] #[.pointer A]) (fun g:GrR=>#[.agg (grV g).toArray]) (fun g=>.bool (eqI g.place i)):=
 ⟨f,#[.pointer A],rfl,h.1,fun w' g hk=>h.2 A i w' g (hv.later hk)⟩
set_option maxRecDepth 100000 in
theorem Z6 (l:List GrR) (A:Option Addr) (c:Nat) (fv:Value) (i:Int) (w:World) (hm:l.length≤1000000) (hR:RdV w w.heap.size A (l.flatMap grV)) (hP:Pi Tryz.prog w fv (fun g:GrR=>#[.agg (grV g).toArray]) (fun g=>.bool (eqI g.place i))):
  Calls Tryz.prog 109 #[.slice A l.length c,fv] w fun e w'=>e=.returned (.int .i64 (B2 i (l.map GrR.gr) 0))∧Below w.heap.size w w':=by
 have F:=FLm.of Iu (by decide) hR
 refine Ba (n:=19) Tryz.func109 rfl Tryz.ntmps109 [.x (.a (.v (.slice A l.length c))),.x (.a (.v fv))] (by simp) (.x (.a (.v (.int .i64 (B2 i (l.map GrR.gr) 0))))) (fun _=>rfl) ?_
 obtain⟨R,hr⟩:∃R,R=B2 i (l.map GrR.gr) 0:=⟨_,rfl⟩
 rw[←hr]
 simp (maxSteps:=10^6) only[push_cast,↓reduceIte,reduceCtorEq,Nat.reduceLT,Int.reduceNeg]
 refine Bh (ι:=Nat) (fun k=>⟨[(0,.x (.a (.v (.slice A l.length c)))),(1,.x (.a (.v fv))),(7,.x (.a (.v (.int .i64 l.length)))),(8,.x (.a (.v (.int .i64 k))))],[]⟩) (fun k=>k≤l.length∧R=B2 i ((l.drop k).map GrR.gr) k) (fun k=>l.length - k) 0 [] ⟨Nat.zero_le _,hr⟩ ?_ ?_
 ·simp (maxSteps:=10^6) only[push_cast,↓Int.cast_ofNat_Int,Int.cast_ofNat_Int,↓reduceIte,reduceCtorEq,Nat.reduceEqDiff]
 rintro k ⟨hk,hg⟩
 by_cases hlt:(k:Int) < l.length
 ·have hil:k < l.length:=by omega
  have i0:(0:Int)≤k:=by omega
  obtain⟨w1,w2⟩:=F.whole k hil
  have hA:=F.some_ (by omega)
  have hd:l.drop k=ix l k::l.drop (k+1):=by
   rw[List.drop_eq_getElem_cons hil,ix,List.getD_eq_getElem?_getD,List.getElem?_eq_getElem hil];rfl
  rw[hd,List.map_cons,B2] at hg
  generalize ix l k=g at*
  have hg:R=if eqI g.place i=true then (k:Int) else B2 i ((l.drop (k+1)).map GrR.gr) (k+1):=hg
  have w1:Cc w (Ag A (k*3)) 3 0=[.v (.int .i64 g.place),.v (.slice g.ids.A g.ids.l.length g.ids.c),.v (.int .i64 g.need)]:=w1
  have nx:(k:Int)+1≤9223372036854775807:=by omega
  simp (maxSteps:=10^6) only[hlt,i0,w1,w2,hA,Bl,push_cast,↓Int.toNat_natCast,↓reduceIte,reduceCtorEq,Nat.reduceEqDiff,Nat.reduceLT,Int.reduceNeg]
  (repeat (refine And.intro (by first|omega|decide) ?_))
  refine Axi (α:=GrR) g (.x (.a (.v (.bool (eqI g.place i))))) hP rfl rfl rfl (fun _=>rfl) (fun _=>rfl) (fun _ h=>h) (Af rfl) ?_
  cases hq:eqI g.place i with
  |true=>
   rw[hq,if_pos rfl] at hg
   simp (maxSteps:=10^6) only[hg,push_cast,↓reduceIte,Nat.reduceEqDiff,Nat.reduceLT,Int.reduceNeg]
   done
  |false=>
   rw[hq,if_neg (by decide)] at hg
   simp (maxSteps:=10^6) only[push_cast,↓reduceIte,reduceCtorEq,Nat.reduceEqDiff,Nat.reduceLT,Int.reduceNeg]
   (repeat (refine And.intro (by first|omega|decide) ?_))
   refine Be (k+1) [] ⟨by omega,hg⟩ (by omega) ?_
   simp (maxSteps:=10^6) only[push_cast,↓reduceIte,reduceCtorEq,Nat.reduceEqDiff]
   done
 ·obtain rfl:k=l.length:=by omega
  rw[List.drop_length,List.map_nil,B2] at hg
  simp (maxSteps:=10^6) only[hlt,hg,push_cast,↓reduceIte,reduceCtorEq,Nat.reduceEqDiff,Nat.reduceLT,Int.reduceNeg]
  done
set_option maxRecDepth 100000 in
theorem Azv (l:List GrR) (A:Option Addr) (c:Nat) (fv:Value) (i:Int) (w:World) (hm:l.length≤1000000) (hc:l.length≤c) (hR:RdV w w.heap.size A (l.flatMap grV)) (hP:Pi Tryz.prog w fv (fun g:GrR=>#[.agg (grV g).toArray]) (fun g=>.bool (eqI g.place i))):
  Calls Tryz.prog 143 #[.slice A l.length c,fv] w fun e w'=>e=.returned (.bool (atF (l.map GrR.gr) i))∧Below w.heap.size w w':=by
 refine Ba (n:=9) Tryz.func143 rfl Tryz.ntmps143 [.x (.a (.v (.slice A l.length c))),.x (.a (.v fv))] (by simp) (.x (.a (.v (.bool (atF (l.map GrR.gr) i))))) (fun _=>rfl) ?_
 simp (maxSteps:=10^6) only[push_cast,↓reduceIte,reduceCtorEq,Nat.reduceEqDiff,Nat.reduceLT]
 (repeat (refine And.intro (by first|omega|decide) ?_))
 have iK:∀hp,Ae Tryz.prog w No 109 [.x (.a (.v (.slice A l.length c))),.x (.a (.v fv))] hp (.x (.a (.v (.int .i64 (B2 i (l.map GrR.gr) 0))))) hp:=fun hp=>A8 fun γ w' hS=>Z6 l A c fv i w' hm (Cn hR hS) (by
  obtain⟨f,caps,e,hcb,hF⟩:=hP
  exact⟨f,caps,e,hcb,fun w2 x hk=>hF w2 x (Keeps.trans hS.keeps hk)⟩)
 refine Aq rfl Yd rfl (iK _) (Af rfl) ?_
 have e:=Z4 i (l.map GrR.gr) 0
 simp (maxSteps:=10^6) only[e,push_cast,↓reduceIte,Nat.reduceLT]
 done
end
end Go.Proofs.YtedaafmfjhjfmaaGreatDoor
