import Derived.Test.YtedaafmfjhjfmaaGreatDoorCf3
/- Layer 21: conf.needed. -/
namespace Go.Proofs.YtedaafmfjhjfmaaGreatDoor
open Go.RowKit
set_option linter.unusedSimpArgs false
set_option linter.unusedVariables false
def Em (l:List PlS) (k:Nat):List Int:=((l.drop 1).take k).foldl Aah (List.replicate l.length 0)
theorem Vp (l:List PlS):Em l 0=List.replicate l.length 0:=rfl
theorem Vq {l:List PlS} {k:Nat} (h:k+1 < l.length):Em l (k+1)=(Em l k).set (ix l (k+1)).parent.toNat (ix (Em l k) (ix l (k+1)).parent.toNat+1):=by
 unfold Em
 rw[List.take_add_one,List.getElem?_drop,Nat.add_comm 1 k,List.getElem?_eq_getElem h,Option.toList_some,List.foldl_append,List.foldl_cons,List.foldl_nil,ix,List.getD_eq_getElem?_getD,List.getElem?_eq_getElem h]
 rfl
theorem A08 (l:List PlS):Em l (l.length - 1)=beF l:=by
 unfold Em beF
 rw[List.take_of_length_le (by simp)]
theorem Re (l:List PlS):∀k,k < l.length→(Em l k).length=l.length
 |0,_=>by rw[Vp];simp
 |k+1,h=>by rw[Vq h,List.length_set,Re l k (by omega)]
theorem Rf (l:List PlS) (j:Nat):∀k,k < l.length→0≤ix (Em l k) j∧ix (Em l k) j≤k
 |0,_=>by rw[Vp,Aa1];decide
 |k+1,h=>by
  rw[Vq h]
  have h1:=Rf l j k (by omega)
  have hl:=Re l k (by omega)
  by_cases e:(ix l (k+1)).parent.toNat=j
  ·subst e
   have h2:=Rf l (ix l (k+1)).parent.toNat k (by omega)
   by_cases hb:(ix l (k+1)).parent.toNat < (Em l k).length
   ·rw[Aaz hb];omega
   ·rw[List.set_eq_of_length_le (by omega)];omega
  ·rw[Aa0 e];omega
attribute [local irreducible] Ah Ai Am Bc A7 Ay Ap A6
attribute [local irreducible] wiF eqI Cs atF Em Kn
section
set_option maxRecDepth 100000 in
set_option maxHeartbeats 1000000 in
theorem A09 (c:CfR) (w:World) (hc:c.Ok w) (hst:StOk c.ps.l):Calls Tryz.prog 107 #[.agg (cfV c).toArray] w fun e w'=>e=.returned (.bool (neF c.cf))∧Below w.heap.size w w':=by
 have F:=FLm.of Jo (by decide) hc.prd
 have hgf:=hc.gfew
 have hgl:=hc.glen
 have hpl:=hc.plen
 have n2:=hst.least
 have n16:=hst.most
 refine Bm (n:=60) Tryz.func107 rfl Tryz.ntmps107 [.x (.g [.v (.int .i64 c.dim),.v (.slice c.ps.A c.ps.l.length c.ps.c),.v (.slice c.gs.A c.gs.l.length c.gs.c),.v (.int .i64 c.least),.v (.int .i64 c.term)])] (by simp) (.x (.a (.v (.bool (neF c.cf))))) (fun _=>rfl) ?_
 obtain⟨q,hq⟩:∃q,q=neF c.cf:=⟨_,rfl⟩
 rw[←hq]
 have hq:q=Kn c.cf (beF c.ps.l) c.ps.l.length 0:=hq
 have hA:=F.some_ (by omega)
 have k1:(c.ps.l.length:Int)≤2 ^ 63 - 1:=by omega
 have k2:c.ps.l.length≤2 ^ 63 - 1:=by omega
 have k3:c.ps.l.length*8≤140737488355328:=by omega
 have l1:(1:Int)≤c.ps.l.length:=by omega
 have l2:(c.ps.l.length:Int)≤c.ps.c:=by omega
 have hcut:W8 c.ps.A 1 c.ps.c 3=Aj c.ps.A 3:=if_neg (by omega)
 have lc:(((c.ps.l.length - 1:Nat)):Int)=(c.ps.l.length:Int) - 1:=by omega
 simp (maxSteps:=10^6) only[l1,l2,hcut,undef,push_cast,↓Int.toNat_natCast,↓Int.cast_ofNat_Int,Int.cast_ofNat_Int,↓reduceIte,reduceCtorEq,Nat.reduceEqDiff,Nat.reduceLT,Nat.reduceAdd,Int.reduceLE,Int.reduceToNat]
 (repeat (refine And.intro (by first|omega|decide) ?_))
 refine B9 (ι:=Nat) (fun k=>⟨[(1,.x (.a (.p 0 0))),(3,.x (.a (.o 1))),(16,.x (.a (.v (.slice (Aj c.ps.A 3) (c.ps.l.length - 1) (c.ps.c - 1))))),(17,.x (.a (.v (.int .i64 ((c.ps.l.length - 1:Nat):Int))))),(18,.x (.a (.v (.int .i64 k))))],
   [.blk 38 (.c [.v (.int .i64 c.dim),.v (.slice c.ps.A c.ps.l.length c.ps.c),.v (.slice c.gs.A c.gs.l.length c.gs.c),.v (.int .i64 c.least),.v (.int .i64 c.term)]),.own 3 (.i64 (Em c.ps.l k))]⟩) (fun k=>k+1≤c.ps.l.length) (fun k=>c.ps.l.length - k) 0 [0,1] (by omega) ?_ ?_
 ·have e0:=Vp c.ps.l
  simp (maxSteps:=10^6) only[e0,push_cast,↓Int.cast_ofNat_Int,Int.cast_ofNat_Int,↓reduceIte,reduceCtorEq,Nat.reduceEqDiff,Nat.reduceLT,Nat.reduceAdd]
 intro k hk
 by_cases hlt:(k:Int) < ((c.ps.l.length - 1:Nat):Int)
 ·have hkl:k+1 < c.ps.l.length:=by omega
  have i0:(0:Int)≤k:=by omega
  obtain⟨w1,w2⟩:=F.whole (k+1) hkl
  rw[show (k+1)*3=3+k*3 by omega] at w1 w2
  have hup:=hst.up (k+1) (by omega) hkl
  have e1:=Vq hkl
  have el:=Re c.ps.l k (by omega)
  generalize ix c.ps.l (k+1)=p at*
  have w1:C1 w (Aj c.ps.A (3+k*3)) 3 0=[.v (.int .i64 p.parent),.v (.int .i64 p.spare),.v (.int .i64 p.need)]:=w1
  obtain⟨P,hP⟩:∃P:Nat,p.parent=P:=⟨p.parent.toNat,by omega⟩
  have eb:=Rf c.ps.l P k (by omega)
  rw[hP,Int.toNat_natCast] at e1
  rw[hP] at hup w1
  have P0:(0:Int)≤P:=by omega
  have P1:(P:Int) < (Em c.ps.l k).length:=by omega
  have vP:-9223372036854775808≤ix (Em c.ps.l k) P+1∧ix (Em c.ps.l k) P+1≤9223372036854775807:=by omega
  have nx:(k:Int)+1≤9223372036854775807:=by omega
  simp (maxSteps:=10^6) only[hlt,i0,w1,w2,hA,Cy,By,P0,P1,vP,undef,push_cast,↓Int.toNat_natCast,↓reduceIte,reduceCtorEq,Nat.reduceEqDiff,Nat.reduceLT,Nat.reduceAdd,Int.reduceNeg]
  (repeat (refine And.intro (by first|omega|decide) ?_))
  refine Bv (k+1) [0,1] (by show k+1+1≤_;omega) (by show c.ps.l.length - (k+1) < c.ps.l.length - k;omega) ?_
  simp (maxSteps:=10^6) only[e1,push_cast,↓reduceIte,reduceCtorEq,Nat.reduceEqDiff,Nat.reduceLT,Nat.reduceAdd]
  done
 ·obtain rfl:k=c.ps.l.length - 1:=by omega
  have eb:=A08 c.ps.l
  have bl:=Re c.ps.l _ (show c.ps.l.length - 1 < c.ps.l.length by omega)
  have bb:=fun j=>Rf c.ps.l j _ (show c.ps.l.length - 1 < c.ps.l.length by omega)
  rw[eb] at bl bb
  simp (maxSteps:=10^6) only[hlt,eb,undef,push_cast,↓reduceIte,reduceCtorEq,Nat.reduceEqDiff,Nat.reduceLT,Nat.reduceAdd]
  refine B9 (ι:=Nat) (fun i=>⟨[(1,.x (.a (.p 0 0))),(3,.x (.a (.o 1))),(31,.x (.a (.v (.slice c.ps.A c.ps.l.length c.ps.c)))),(32,.x (.a (.v (.int .i64 c.ps.l.length)))),(33,.x (.a (.v (.int .i64 i))))],
   [.blk 38 (.c [.v (.int .i64 c.dim),.v (.slice c.ps.A c.ps.l.length c.ps.c),.v (.slice c.gs.A c.gs.l.length c.gs.c),.v (.int .i64 c.least),.v (.int .i64 c.term)]),.own 3 (.i64 (beF c.ps.l))]⟩) (fun i=>i≤c.ps.l.length∧q=Kn c.cf (beF c.ps.l) (c.ps.l.length - i) i) (fun i=>c.ps.l.length - i) 0 [0,1] ⟨Nat.zero_le _,hq⟩ ?_ ?_
  ·simp (maxSteps:=10^6) only[push_cast,↓Int.cast_ofNat_Int,Int.cast_ofNat_Int,↓reduceIte,reduceCtorEq,Nat.reduceEqDiff,Nat.reduceLT,Nat.reduceAdd]
  rintro i ⟨hi,hg⟩
  by_cases hlt2:(i:Int) < c.ps.l.length
  ·have hil:i < c.ps.l.length:=by omega
   have i0:(0:Int)≤i:=by omega
   obtain⟨w1,w2⟩:=F.whole i hil
   rw[show c.ps.l.length - i=(c.ps.l.length - (i+1))+1 by omega,Kn] at hg
   rw[show c.cf.places=c.ps.l from rfl,show c.cf.groups=c.gs.l.map GrR.gr from rfl] at hg
   generalize ix c.ps.l i=p at*
   have w1:C1 w (Aj c.ps.A (i*3)) 3 0=[.v (.int .i64 p.parent),.v (.int .i64 p.spare),.v (.int .i64 p.need)]:=w1
   have cK:∀hp,Cf hp[2]?=some (3,.c [.v (.int .i64 (i:Int))])→Ai Tryz.prog w No 143 [.x (.a (.v (.slice c.gs.A c.gs.l.length c.gs.c))),.f (.func 144) [.p 2 0]] hp (.x (.a (.v (.bool (atF (c.gs.l.map GrR.gr) i))))) hp:=fun hp h=>Bq fun γ w' hS=>A07 c.gs.l c.gs.A c.gs.c _ i w' hgf hgl (Dn hc.grd hS) (A05.pure (Fz (vs:=[.int .i64 (i:Int)]) hS h rfl))
   have I1:(i:Int) < (beF c.ps.l).length:=by omega
   have nx:(i:Int)+1≤9223372036854775807:=by omega
   simp (maxSteps:=10^6) only[hlt2,i0,w1,w2,hA,By,undef,push_cast,↓Int.toNat_natCast,↓reduceIte,reduceCtorEq,Nat.reduceEqDiff,Nat.reduceLT,Nat.reduceAdd]
   (repeat (refine And.intro (by first|omega|decide) ?_))
   refine Al rfl Ax0 rfl (cK _ rfl) (Ae rfl) ?_
   cases hat:atF (c.gs.l.map GrR.gr) i with
   |true=>
    rw[hat] at hg
    by_cases hb:0 < ix (beF c.ps.l) i
    ·rw[if_pos (by rw[decide_eq_true hb])] at hg
     simp (maxSteps:=10^6) only[hb,hg,I1,i0,undef,push_cast,↓Int.toNat_natCast,↓reduceIte,Nat.reduceEqDiff,Nat.reduceLT,Nat.reduceAdd]
     all_goals omega
    ·rw[if_neg (by rw[decide_eq_false hb];decide),if_pos rfl] at hg
     simp (maxSteps:=10^6) only[hb,I1,i0,undef,push_cast,↓Int.toNat_natCast,↓reduceIte,reduceCtorEq,Nat.reduceEqDiff,Nat.reduceLT,Nat.reduceAdd]
     (repeat (refine And.intro (by first|omega|decide) ?_))
     refine Al rfl Hq rfl (Hx _ _ _) (Ae rfl) ?_
     cases hw:wiF p.need 1 1 with
     |true=>
      rw[hw,if_pos rfl] at hg
      simp (maxSteps:=10^6) only[nx,push_cast,↓reduceIte,Nat.reduceEqDiff,Nat.reduceLT,Nat.reduceAdd,Int.reduceNeg]
      (repeat (refine And.intro (by first|omega|decide) ?_))
      refine Bv (i+1) [0,1] ⟨by omega,hg⟩ (by omega) ?_
      simp (maxSteps:=10^6) only[push_cast,↓reduceIte,reduceCtorEq,Nat.reduceEqDiff,Nat.reduceLT,Nat.reduceAdd]
      done
     |false=>
      rw[hw,if_neg (by decide)] at hg
      simp (maxSteps:=10^6) only[hg,push_cast,↓reduceIte,Nat.reduceLT,Nat.reduceAdd]
      done
   |false=>
    rw[hat] at hg
    by_cases hb:0 < ix (beF c.ps.l) i
    ·rw[if_neg (by rw[decide_eq_true hb];decide)] at hg
     simp only[Bool.false_eq_true,↓reduceIte] at hg
     simp (maxSteps:=10^6) only[hb,I1,i0,undef,push_cast,↓Int.toNat_natCast,↓reduceIte,reduceCtorEq,Nat.reduceEqDiff,Nat.reduceLT,Nat.reduceAdd]
     (repeat (refine And.intro (by first|omega|decide) ?_))
     refine Al rfl Hq rfl (Hx _ _ _) (Ae rfl) ?_
     cases hw:wiF p.need 1 (ix (beF c.ps.l) i) with
     |true=>
      rw[hw,if_pos rfl] at hg
      simp (maxSteps:=10^6) only[nx,push_cast,↓reduceIte,Nat.reduceEqDiff,Nat.reduceLT,Nat.reduceAdd,Int.reduceNeg]
      (repeat (refine And.intro (by first|omega|decide) ?_))
      refine Bv (i+1) [0,1] ⟨by omega,hg⟩ (by omega) ?_
      simp (maxSteps:=10^6) only[push_cast,↓reduceIte,reduceCtorEq,Nat.reduceEqDiff,Nat.reduceLT,Nat.reduceAdd]
      done
     |false=>
      rw[hw,if_neg (by decide)] at hg
      simp (maxSteps:=10^6) only[hg,push_cast,↓reduceIte,Nat.reduceLT,Nat.reduceAdd]
      done
    ·rw[if_pos (by rw[decide_eq_false hb])] at hg
     simp (maxSteps:=10^6) only[hb,hg,I1,i0,undef,push_cast,↓Int.toNat_natCast,↓reduceIte,Nat.reduceEqDiff,Nat.reduceLT,Nat.reduceAdd]
     all_goals omega
  ·obtain rfl:i=c.ps.l.length:=by omega
   rw[Nat.sub_self,Kn] at hg
   simp (maxSteps:=10^6) only[hlt2,hg,push_cast,↓reduceIte,Nat.reduceEqDiff,Nat.reduceLT,Nat.reduceAdd]
   done
end
end Go.Proofs.YtedaafmfjhjfmaaGreatDoor
/- Layer 21: conf.Check, Clients. -/
namespace Go.Proofs.YtedaafmfjhjfmaaGreatDoor
open Go.RowKit
set_option linter.unusedSimpArgs false
set_option linter.unusedVariables false
attribute [local irreducible] Ah Ai Am Bc A7 Ay Ap A6
attribute [local irreducible] wiF stF grF neF okV Aai cfF
section
theorem A1a {w0:World} {hp:List Res} (c:CfR) (hc:c.Ok w0):Ai Tryz.prog w0 No 105 [.x (.a (.v (.slice c.ps.A c.ps.l.length c.ps.c)))] hp (.x (.a (.v (.bool (stF c.ps.l))))) hp:=Bq fun γ w hS=>A0y c.ps.l c.ps.A c.ps.c w hc.pfew (Dn hc.prd hS)
theorem A1b {w0:World} {hp:List Res} (c:CfR) (hc:c.Ok w0):Ai Tryz.prog w0 No 106 [.x (.g [.v (.int .i64 c.dim),.v (.slice c.ps.A c.ps.l.length c.ps.c),.v (.slice c.gs.A c.gs.l.length c.gs.c),.v (.int .i64 c.least),.v (.int .i64 c.term)])] hp (.x (.a (.v (.bool (grF c.cf))))) hp:=Bq fun γ w hS=>A04 c w (hc.later hS)
theorem A1c {w0:World} {hp:List Res} (c:CfR) (hc:c.Ok w0) (hst:StOk c.ps.l):Ai Tryz.prog w0 No 107 [.x (.g [.v (.int .i64 c.dim),.v (.slice c.ps.A c.ps.l.length c.ps.c),.v (.slice c.gs.A c.gs.l.length c.gs.c),.v (.int .i64 c.least),.v (.int .i64 c.term)])] hp (.x (.a (.v (.bool (neF c.cf))))) hp:=Bq fun γ w hS=>A09 c w (hc.later hS) hst
set_option maxRecDepth 100000 in
theorem Aa5 (c:CfR) (w:World) (hc:c.Ok w):Calls Tryz.prog 49 #[.agg (cfV c).toArray] w fun e w'=>e=.returned (okV (cfF c.cf) 1)∧Below w.heap.size w w':=by
 refine Bm (n:=29) Tryz.func49 rfl Tryz.ntmps49 [.x (.g [.v (.int .i64 c.dim),.v (.slice c.ps.A c.ps.l.length c.ps.c),.v (.slice c.gs.A c.gs.l.length c.gs.c),.v (.int .i64 c.least),.v (.int .i64 c.term)])] (by simp) (.x (.a (.v (okV (cfF c.cf) 1)))) (fun _=>rfl) ?_
 have hq:cfF c.cf=(wiF c.dim 1 32&&wiF c.term 1 1000&&stF c.ps.l&&grF c.cf&&neF c.cf):=by unfold cfF;rfl
 have hT:=Do 1
 have hF:=Il 1
 simp (maxSteps:=10^6) only[undef,push_cast,↓reduceIte,reduceCtorEq,Nat.reduceEqDiff,Nat.reduceLT,Nat.reduceAdd]
 (repeat (refine And.intro (by first|omega|decide) ?_))
 refine Al rfl Hq rfl (Hx _ _ _) (Ae rfl) ?_
 cases h1:wiF c.dim 1 32 with
 |false=>
  rw[h1] at hq
  simp only[Bool.false_and] at hq
  simp (maxSteps:=10^6) only[hq,hF,undef,push_cast,↓reduceIte,Nat.reduceEqDiff,Nat.reduceLT]
  done
 |true=>
  rw[h1,Bool.true_and] at hq
  simp (maxSteps:=10^6) only[undef,push_cast,↓reduceIte,reduceCtorEq,Nat.reduceEqDiff,Nat.reduceLT,Nat.reduceAdd]
  (repeat (refine And.intro (by first|omega|decide) ?_))
  refine Al rfl Hq rfl (Hx _ _ _) (Ae rfl) ?_
  cases h2:wiF c.term 1 1000 with
  |false=>
   rw[h2] at hq
   simp only[Bool.false_and] at hq
   simp (maxSteps:=10^6) only[hq,hF,push_cast,↓reduceIte,Nat.reduceEqDiff,Nat.reduceLT]
   done
  |true=>
   rw[h2,Bool.true_and] at hq
   simp (maxSteps:=10^6) only[undef,push_cast,↓reduceIte,reduceCtorEq,Nat.reduceEqDiff,Nat.reduceLT,Nat.reduceAdd]
   (repeat (refine And.intro (by first|omega|decide) ?_))
   refine Al rfl Axm rfl (A1a c hc) (Ae rfl) ?_
   cases h3:stF c.ps.l with
   |false=>
    rw[h3] at hq
    simp only[Bool.false_and] at hq
    simp (maxSteps:=10^6) only[hq,hF,undef,push_cast,↓reduceIte,Nat.reduceEqDiff,Nat.reduceLT]
    done
   |true=>
    rw[h3,Bool.true_and] at hq
    simp (maxSteps:=10^6) only[push_cast,↓reduceIte,Nat.reduceEqDiff,Nat.reduceLT,Nat.reduceAdd]
    (repeat (refine And.intro (by first|omega|decide) ?_))
    refine Al rfl Axn rfl (A1b c hc) (Ae rfl) ?_
    cases h4:grF c.cf with
    |false=>
     rw[h4] at hq
     simp only[Bool.false_and] at hq
     simp (maxSteps:=10^6) only[hq,hF,undef,push_cast,↓reduceIte,Nat.reduceEqDiff,Nat.reduceLT]
     done
    |true=>
     rw[h4,Bool.true_and] at hq
     simp (maxSteps:=10^6) only[push_cast,↓reduceIte,Nat.reduceEqDiff,Nat.reduceLT,Nat.reduceAdd]
     (repeat (refine And.intro (by first|omega|decide) ?_))
     refine Al rfl Axo rfl (A1c c hc (Aam h3)) (Ae rfl) ?_
     cases h5:neF c.cf with
     |false=>
      rw[h5] at hq
      simp (maxSteps:=10^6) only[hq,hF,push_cast,↓reduceIte,Nat.reduceEqDiff,Nat.reduceLT]
      done
     |true=>
      rw[h5] at hq
      simp (maxSteps:=10^6) only[hq,hT,push_cast,↓reduceIte,Nat.reduceEqDiff,Nat.reduceLT]
      done
theorem A1d {w0:World} {hp:List Res} (c:CfR) (hc:c.Ok w0):Ai Tryz.prog w0 No 49 [.x (.g [.v (.int .i64 c.dim),.v (.slice c.ps.A c.ps.l.length c.ps.c),.v (.slice c.gs.A c.gs.l.length c.gs.c),.v (.int .i64 c.least),.v (.int .i64 c.term)])] hp (.x (.a (.v (okV (cfF c.cf) 1)))) hp:=Bq fun γ w hS=>Aa5 c w (hc.later hS)
theorem A1e {w0:World} {hp:List Res} {s:Sv} {c:CfS} (h:Jq w0 hp s c):Ai Tryz.prog w0 No 49 [s] hp (.x (.a (.v (okV (cfF c) 1)))) hp:=Bq fun γ w hS=>by
 obtain⟨a,e,h1,rfl⟩:=h γ w hS
 show Calls _ _ #[s.val γ] w _
 rw[e]
 exact Aa5 a w h1
def A1f (gs:List GrS) (k:Nat):List Int:=(gs.take k).foldl (fun s g=>Bj s g.ids) []
theorem Vs {α β:Type} [Inhabited α] [Inhabited β] (f:α→β) (l:List α) {i:Nat} (h:i < l.length):ix (l.map f) i=f (ix l i):=by
 rw[ix,ix,List.getD_eq_getElem?_getD,List.getD_eq_getElem?_getD,List.getElem?_map,List.getElem?_eq_getElem h]
 rfl
attribute [local irreducible] A1f Vd Bj
end
end Go.Proofs.YtedaafmfjhjfmaaGreatDoor
