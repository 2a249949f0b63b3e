import Derived.Test.YtedaafmfjhjfmaaGreatDoorCf3
/- Layer 21: conf.needed. -/
namespace Go.Proofs.YtedaafmfjhjfmaaGreatDoor
open Go.RowKit
set_option linter.unusedSimpArgs false
set_option linter.unusedVariables false
def D1 (l:List PlS) (k:Nat):List Int:=((l.drop 1).take k).foldl Y4 (List.replicate l.length 0)
theorem Uf (l:List PlS):D1 l 0=List.replicate l.length 0:=rfl
theorem Ug {l:List PlS} {k:Nat} (h:k+1 < l.length):D1 l (k+1)=(D1 l k).set (ix l (k+1)).parent.toNat (ix (D1 l k) (ix l (k+1)).parent.toNat+1):=by
 unfold D1
 rw[List.take_add_one,List.getElem?_drop,Nat.add_comm 1 k,List.getElem?_eq_getElem h,Option.toList_some,List.foldl_append,List.foldl_cons,List.foldl_nil,ix,List.getD_eq_getElem?_getD,List.getElem?_eq_getElem h]
 rfl
theorem Azw (l:List PlS):D1 l (l.length - 1)=beF l:=by
 unfold D1 beF
 rw[List.take_of_length_le (by simp)]
theorem Qd (l:List PlS):∀k,k < l.length→(D1 l k).length=l.length
 |0,_=>by rw[Uf];simp
 |k+1,h=>by rw[Ug h,List.length_set,Qd l k (by omega)]
theorem Qe (l:List PlS) (j:Nat):∀k,k < l.length→0≤ix (D1 l k) j∧ix (D1 l k) j≤k
 |0,_=>by rw[Uf,Z2];decide
 |k+1,h=>by
  rw[Ug h]
  have h1:=Qe l j k (by omega)
  have hl:=Qd l k (by omega)
  by_cases e:(ix l (k+1)).parent.toNat=j
  ·subst e
   have h2:=Qe l (ix l (k+1)).parent.toNat k (by omega)
   by_cases hb:(ix l (k+1)).parent.toNat < (D1 l k).length
   ·rw[Z0 hb];omega
   ·rw[List.set_eq_of_length_le (by omega)];omega
  ·rw[Z1 e];omega
attribute [local irreducible] Ad Ae Ah Ar Ak Am Ai Al
attribute [local irreducible] wiF eqI B2 atF D1 Jr
section
set_option maxRecDepth 100000 in
set_option maxHeartbeats 1000000 in
theorem Azx (c:CfR) (w:World) (hc:c.Ok w) (hst:StOk c.ps.l):Calls Tryz.prog 107 #[.agg (cfV c).toArray] w fun e w'=>e=.returned (.bool (neF c.cf))∧Below w.heap.size w w':=by
 have F:=FLm.of Jz (by decide) hc.prd
 have hgf:=hc.gfew
 have hgl:=hc.glen
 have hpl:=hc.plen
 have n2:=hst.least
 have n16:=hst.most
 refine Ba (n:=60) Tryz.func107 rfl Tryz.ntmps107 [.x (.g [.v (.int .i64 c.dim),.v (.slice c.ps.A c.ps.l.length c.ps.c),.v (.slice c.gs.A c.gs.l.length c.gs.c),.v (.int .i64 c.least),.v (.int .i64 c.term)])] (by simp) (.x (.a (.v (.bool (neF c.cf))))) (fun _=>rfl) ?_
 obtain⟨q,hq⟩:∃q,q=neF c.cf:=⟨_,rfl⟩
 rw[←hq]
 have hq:q=Jr c.cf (beF c.ps.l) c.ps.l.length 0:=hq
 have hA:=F.some_ (by omega)
 have k1:(c.ps.l.length:Int)≤2 ^ 63 - 1:=by omega
 have k2:c.ps.l.length≤2 ^ 63 - 1:=by omega
 have k3:c.ps.l.length*8≤140737488355328:=by omega
 have l1:(1:Int)≤c.ps.l.length:=by omega
 have l2:(c.ps.l.length:Int)≤c.ps.c:=by omega
 have hcut:Vs c.ps.A 1 c.ps.c 3=Ag c.ps.A 3:=if_neg (by omega)
 have lc:(((c.ps.l.length - 1:Nat)):Int)=(c.ps.l.length:Int) - 1:=by omega
 simp (maxSteps:=10^6) only[l1,l2,hcut,undef,push_cast,↓Int.toNat_natCast,↓Int.cast_ofNat_Int,Int.cast_ofNat_Int,↓reduceIte,reduceCtorEq,Nat.reduceEqDiff,Nat.reduceLT,Nat.reduceAdd,Int.reduceLE,Int.reduceToNat]
 (repeat (refine And.intro (by first|omega|decide) ?_))
 refine Bh (ι:=Nat) (fun k=>⟨[(1,.x (.a (.p 0 0))),(3,.x (.a (.o 1))),(16,.x (.a (.v (.slice (Ag c.ps.A 3) (c.ps.l.length - 1) (c.ps.c - 1))))),(17,.x (.a (.v (.int .i64 ((c.ps.l.length - 1:Nat):Int))))),(18,.x (.a (.v (.int .i64 k))))],
   [.blk 38 (.c [.v (.int .i64 c.dim),.v (.slice c.ps.A c.ps.l.length c.ps.c),.v (.slice c.gs.A c.gs.l.length c.gs.c),.v (.int .i64 c.least),.v (.int .i64 c.term)]),.own 3 (.i64 (D1 c.ps.l k))]⟩) (fun k=>k+1≤c.ps.l.length) (fun k=>c.ps.l.length - k) 0 [0,1] (by omega) ?_ ?_
 ·have e0:=Uf c.ps.l
  simp (maxSteps:=10^6) only[e0,push_cast,↓Int.cast_ofNat_Int,Int.cast_ofNat_Int,↓reduceIte,reduceCtorEq,Nat.reduceEqDiff,Nat.reduceLT,Nat.reduceAdd]
 intro k hk
 by_cases hlt:(k:Int) < ((c.ps.l.length - 1:Nat):Int)
 ·have hkl:k+1 < c.ps.l.length:=by omega
  have i0:(0:Int)≤k:=by omega
  obtain⟨w1,w2⟩:=F.whole (k+1) hkl
  rw[show (k+1)*3=3+k*3 by omega] at w1 w2
  have hup:=hst.up (k+1) (by omega) hkl
  have e1:=Ug hkl
  have el:=Qd c.ps.l k (by omega)
  generalize ix c.ps.l (k+1)=p at*
  have w1:Cc w (Ag c.ps.A (3+k*3)) 3 0=[.v (.int .i64 p.parent),.v (.int .i64 p.spare),.v (.int .i64 p.need)]:=w1
  obtain⟨P,hP⟩:∃P:Nat,p.parent=P:=⟨p.parent.toNat,by omega⟩
  have eb:=Qe c.ps.l P k (by omega)
  rw[hP,Int.toNat_natCast] at e1
  rw[hP] at hup w1
  have P0:(0:Int)≤P:=by omega
  have P1:(P:Int) < (D1 c.ps.l k).length:=by omega
  have vP:-9223372036854775808≤ix (D1 c.ps.l k) P+1∧ix (D1 c.ps.l k) P+1≤9223372036854775807:=by omega
  have nx:(k:Int)+1≤9223372036854775807:=by omega
  simp (maxSteps:=10^6) only[hlt,i0,w1,w2,hA,B4,Bl,P0,P1,vP,undef,push_cast,↓Int.toNat_natCast,↓reduceIte,reduceCtorEq,Nat.reduceEqDiff,Nat.reduceLT,Nat.reduceAdd,Int.reduceNeg]
  (repeat (refine And.intro (by first|omega|decide) ?_))
  refine Be (k+1) [0,1] (by show k+1+1≤_;omega) (by show c.ps.l.length - (k+1) < c.ps.l.length - k;omega) ?_
  simp (maxSteps:=10^6) only[e1,push_cast,↓reduceIte,reduceCtorEq,Nat.reduceEqDiff,Nat.reduceLT,Nat.reduceAdd]
  done
 ·obtain rfl:k=c.ps.l.length - 1:=by omega
  have eb:=Azw c.ps.l
  have bl:=Qd c.ps.l _ (show c.ps.l.length - 1 < c.ps.l.length by omega)
  have bb:=fun j=>Qe c.ps.l j _ (show c.ps.l.length - 1 < c.ps.l.length by omega)
  rw[eb] at bl bb
  simp (maxSteps:=10^6) only[hlt,eb,undef,push_cast,↓reduceIte,reduceCtorEq,Nat.reduceEqDiff,Nat.reduceLT,Nat.reduceAdd]
  refine Bh (ι:=Nat) (fun i=>⟨[(1,.x (.a (.p 0 0))),(3,.x (.a (.o 1))),(31,.x (.a (.v (.slice c.ps.A c.ps.l.length c.ps.c)))),(32,.x (.a (.v (.int .i64 c.ps.l.length)))),(33,.x (.a (.v (.int .i64 i))))],
   [.blk 38 (.c [.v (.int .i64 c.dim),.v (.slice c.ps.A c.ps.l.length c.ps.c),.v (.slice c.gs.A c.gs.l.length c.gs.c),.v (.int .i64 c.least),.v (.int .i64 c.term)]),.own 3 (.i64 (beF c.ps.l))]⟩) (fun i=>i≤c.ps.l.length∧q=Jr c.cf (beF c.ps.l) (c.ps.l.length - i) i) (fun i=>c.ps.l.length - i) 0 [0,1] ⟨Nat.zero_le _,hq⟩ ?_ ?_
  ·simp (maxSteps:=10^6) only[push_cast,↓Int.cast_ofNat_Int,Int.cast_ofNat_Int,↓reduceIte,reduceCtorEq,Nat.reduceEqDiff,Nat.reduceLT,Nat.reduceAdd]
  rintro i ⟨hi,hg⟩
  by_cases hlt2:(i:Int) < c.ps.l.length
  ·have hil:i < c.ps.l.length:=by omega
   have i0:(0:Int)≤i:=by omega
   obtain⟨w1,w2⟩:=F.whole i hil
   rw[show c.ps.l.length - i=(c.ps.l.length - (i+1))+1 by omega,Jr] at hg
   rw[show c.cf.places=c.ps.l from rfl,show c.cf.groups=c.gs.l.map GrR.gr from rfl] at hg
   generalize ix c.ps.l i=p at*
   have w1:Cc w (Ag c.ps.A (i*3)) 3 0=[.v (.int .i64 p.parent),.v (.int .i64 p.spare),.v (.int .i64 p.need)]:=w1
   have cK:∀hp,Cw hp[2]?=some (3,.c [.v (.int .i64 (i:Int))])→Ae Tryz.prog w No 143 [.x (.a (.v (.slice c.gs.A c.gs.l.length c.gs.c))),.f (.func 144) [.p 2 0]] hp (.x (.a (.v (.bool (atF (c.gs.l.map GrR.gr) i))))) hp:=fun hp h=>A8 fun γ w' hS=>Azv c.gs.l c.gs.A c.gs.c _ i w' hgf hgl (Cn hc.grd hS) (Azt.pure (K9 (vs:=[.int .i64 (i:Int)]) hS h rfl))
   have I1:(i:Int) < (beF c.ps.l).length:=by omega
   have nx:(i:Int)+1≤9223372036854775807:=by omega
   simp (maxSteps:=10^6) only[hlt2,i0,w1,w2,hA,Bl,undef,push_cast,↓Int.toNat_natCast,↓reduceIte,reduceCtorEq,Nat.reduceEqDiff,Nat.reduceLT,Nat.reduceAdd]
   (repeat (refine And.intro (by first|omega|decide) ?_))
   refine Aq rfl Awm rfl (cK _ rfl) (Af rfl) ?_
   cases hat:atF (c.gs.l.map GrR.gr) i with
   |true=>
    rw[hat] at hg
    by_cases hb:0 < ix (beF c.ps.l) i
    ·rw[if_pos (by rw[decide_eq_true hb])] at hg
     simp (maxSteps:=10^6) only[hb,hg,I1,i0,undef,push_cast,↓Int.toNat_natCast,↓reduceIte,Nat.reduceEqDiff,Nat.reduceLT,Nat.reduceAdd]
     all_goals omega
    ·rw[if_neg (by rw[decide_eq_false hb];decide),if_pos rfl] at hg
     simp (maxSteps:=10^6) only[hb,I1,i0,undef,push_cast,↓Int.toNat_natCast,↓reduceIte,reduceCtorEq,Nat.reduceEqDiff,Nat.reduceLT,Nat.reduceAdd]
     (repeat (refine And.intro (by first|omega|decide) ?_))
     refine Aq rfl Gn rfl (Gy _ _ _) (Af rfl) ?_
     cases hw:wiF p.need 1 1 with
     |true=>
      rw[hw,if_pos rfl] at hg
      simp (maxSteps:=10^6) only[nx,push_cast,↓reduceIte,Nat.reduceEqDiff,Nat.reduceLT,Nat.reduceAdd,Int.reduceNeg]
      (repeat (refine And.intro (by first|omega|decide) ?_))
      refine Be (i+1) [0,1] ⟨by omega,hg⟩ (by omega) ?_
      simp (maxSteps:=10^6) only[push_cast,↓reduceIte,reduceCtorEq,Nat.reduceEqDiff,Nat.reduceLT,Nat.reduceAdd]
      done
     |false=>
      rw[hw,if_neg (by decide)] at hg
      simp (maxSteps:=10^6) only[hg,push_cast,↓reduceIte,Nat.reduceLT,Nat.reduceAdd]
      done
   |false=>
    rw[hat] at hg
    by_cases hb:0 < ix (beF c.ps.l) i
    ·rw[if_neg (by rw[decide_eq_true hb];decide)] at hg
     simp only[Bool.false_eq_true,↓reduceIte] at hg
     simp (maxSteps:=10^6) only[hb,I1,i0,undef,push_cast,↓Int.toNat_natCast,↓reduceIte,reduceCtorEq,Nat.reduceEqDiff,Nat.reduceLT,Nat.reduceAdd]
     (repeat (refine And.intro (by first|omega|decide) ?_))
     refine Aq rfl Gn rfl (Gy _ _ _) (Af rfl) ?_
     cases hw:wiF p.need 1 (ix (beF c.ps.l) i) with
     |true=>
      rw[hw,if_pos rfl] at hg
      simp (maxSteps:=10^6) only[nx,push_cast,↓reduceIte,Nat.reduceEqDiff,Nat.reduceLT,Nat.reduceAdd,Int.reduceNeg]
      (repeat (refine And.intro (by first|omega|decide) ?_))
      refine Be (i+1) [0,1] ⟨by omega,hg⟩ (by omega) ?_
      simp (maxSteps:=10^6) only[push_cast,↓reduceIte,reduceCtorEq,Nat.reduceEqDiff,Nat.reduceLT,Nat.reduceAdd]
      done
     |false=>
      rw[hw,if_neg (by decide)] at hg
      simp (maxSteps:=10^6) only[hg,push_cast,↓reduceIte,Nat.reduceLT,Nat.reduceAdd]
      done
    ·rw[if_pos (by rw[decide_eq_false hb])] at hg
     simp (maxSteps:=10^6) only[hb,hg,I1,i0,undef,push_cast,↓Int.toNat_natCast,↓reduceIte,Nat.reduceEqDiff,Nat.reduceLT,Nat.reduceAdd]
     all_goals omega
  ·obtain rfl:i=c.ps.l.length:=by omega
   rw[Nat.sub_self,Jr] at hg
   simp (maxSteps:=10^6) only[hlt2,hg,push_cast,↓reduceIte,Nat.reduceEqDiff,Nat.reduceLT,Nat.reduceAdd]
   done
end
end Go.Proofs.YtedaafmfjhjfmaaGreatDoor
/- Layer 21: conf.Check, Clients. -/
namespace Go.Proofs.YtedaafmfjhjfmaaGreatDoor
open Go.RowKit
set_option linter.unusedSimpArgs false
set_option linter.unusedVariables false
attribute [local irreducible] Ad Ae Ah Ar Ak Am Ai Al
attribute [local irreducible] wiF stF grF neF okV Y5 cfF
section
theorem Azy {w0:World} {hp:List Res} (c:CfR) (hc:c.Ok w0):Ae Tryz.prog w0 No 105 [.x (.a (.v (.slice c.ps.A c.ps.l.length c.ps.c)))] hp (.x (.a (.v (.bool (stF c.ps.l))))) hp:=A8 fun γ w hS=>Azn c.ps.l c.ps.A c.ps.c w hc.pfew (Cn hc.prd hS)
theorem Azz {w0:World} {hp:List Res} (c:CfR) (hc:c.Ok w0):Ae Tryz.prog w0 No 106 [.x (.g [.v (.int .i64 c.dim),.v (.slice c.ps.A c.ps.l.length c.ps.c),.v (.slice c.gs.A c.gs.l.length c.gs.c),.v (.int .i64 c.least),.v (.int .i64 c.term)])] hp (.x (.a (.v (.bool (grF c.cf))))) hp:=A8 fun γ w hS=>Azs c w (hc.later hS)
theorem Az0 {w0:World} {hp:List Res} (c:CfR) (hc:c.Ok w0) (hst:StOk c.ps.l):Ae Tryz.prog w0 No 107 [.x (.g [.v (.int .i64 c.dim),.v (.slice c.ps.A c.ps.l.length c.ps.c),.v (.slice c.gs.A c.gs.l.length c.gs.c),.v (.int .i64 c.least),.v (.int .i64 c.term)])] hp (.x (.a (.v (.bool (neF c.cf))))) hp:=A8 fun γ w hS=>Azx c w (hc.later hS) hst
set_option maxRecDepth 100000 in
theorem Z7 (c:CfR) (w:World) (hc:c.Ok w):Calls Tryz.prog 49 #[.agg (cfV c).toArray] w fun e w'=>e=.returned (okV (cfF c.cf) 1)∧Below w.heap.size w w':=by
 refine Ba (n:=29) Tryz.func49 rfl Tryz.ntmps49 [.x (.g [.v (.int .i64 c.dim),.v (.slice c.ps.A c.ps.l.length c.ps.c),.v (.slice c.gs.A c.gs.l.length c.gs.c),.v (.int .i64 c.least),.v (.int .i64 c.term)])] (by simp) (.x (.a (.v (okV (cfF c.cf) 1)))) (fun _=>rfl) ?_
 have hq:cfF c.cf=(wiF c.dim 1 32&&wiF c.term 1 1000&&stF c.ps.l&&grF c.cf&&neF c.cf):=by unfold cfF;rfl
 have hT:=Hl 1
 have hF:=Hm 1
 simp (maxSteps:=10^6) only[undef,push_cast,↓reduceIte,reduceCtorEq,Nat.reduceEqDiff,Nat.reduceLT,Nat.reduceAdd]
 (repeat (refine And.intro (by first|omega|decide) ?_))
 refine Aq rfl Gn rfl (Gy _ _ _) (Af rfl) ?_
 cases h1:wiF c.dim 1 32 with
 |false=>
  rw[h1] at hq
  simp only[Bool.false_and] at hq
  simp (maxSteps:=10^6) only[hq,hF,undef,push_cast,↓reduceIte,Nat.reduceEqDiff,Nat.reduceLT]
  done
 |true=>
  rw[h1,Bool.true_and] at hq
  simp (maxSteps:=10^6) only[undef,push_cast,↓reduceIte,reduceCtorEq,Nat.reduceEqDiff,Nat.reduceLT,Nat.reduceAdd]
  (repeat (refine And.intro (by first|omega|decide) ?_))
  refine Aq rfl Gn rfl (Gy _ _ _) (Af rfl) ?_
  cases h2:wiF c.term 1 1000 with
  |false=>
   rw[h2] at hq
   simp only[Bool.false_and] at hq
   simp (maxSteps:=10^6) only[hq,hF,push_cast,↓reduceIte,Nat.reduceEqDiff,Nat.reduceLT]
   done
  |true=>
   rw[h2,Bool.true_and] at hq
   simp (maxSteps:=10^6) only[undef,push_cast,↓reduceIte,reduceCtorEq,Nat.reduceEqDiff,Nat.reduceLT,Nat.reduceAdd]
   (repeat (refine And.intro (by first|omega|decide) ?_))
   refine Aq rfl Awb rfl (Azy c hc) (Af rfl) ?_
   cases h3:stF c.ps.l with
   |false=>
    rw[h3] at hq
    simp only[Bool.false_and] at hq
    simp (maxSteps:=10^6) only[hq,hF,undef,push_cast,↓reduceIte,Nat.reduceEqDiff,Nat.reduceLT]
    done
   |true=>
    rw[h3,Bool.true_and] at hq
    simp (maxSteps:=10^6) only[push_cast,↓reduceIte,Nat.reduceEqDiff,Nat.reduceLT,Nat.reduceAdd]
    (repeat (refine And.intro (by first|omega|decide) ?_))
    refine Aq rfl Awc rfl (Azz c hc) (Af rfl) ?_
    cases h4:grF c.cf with
    |false=>
     rw[h4] at hq
     simp only[Bool.false_and] at hq
     simp (maxSteps:=10^6) only[hq,hF,undef,push_cast,↓reduceIte,Nat.reduceEqDiff,Nat.reduceLT]
     done
    |true=>
     rw[h4,Bool.true_and] at hq
     simp (maxSteps:=10^6) only[push_cast,↓reduceIte,Nat.reduceEqDiff,Nat.reduceLT,Nat.reduceAdd]
     (repeat (refine And.intro (by first|omega|decide) ?_))
     refine Aq rfl Awd rfl (Az0 c hc (Y9 h3)) (Af rfl) ?_
     cases h5:neF c.cf with
     |false=>
      rw[h5] at hq
      simp (maxSteps:=10^6) only[hq,hF,push_cast,↓reduceIte,Nat.reduceEqDiff,Nat.reduceLT]
      done
     |true=>
      rw[h5] at hq
      simp (maxSteps:=10^6) only[hq,hT,push_cast,↓reduceIte,Nat.reduceEqDiff,Nat.reduceLT]
      done
theorem Az1 {w0:World} {hp:List Res} (c:CfR) (hc:c.Ok w0):Ae Tryz.prog w0 No 49 [.x (.g [.v (.int .i64 c.dim),.v (.slice c.ps.A c.ps.l.length c.ps.c),.v (.slice c.gs.A c.gs.l.length c.gs.c),.v (.int .i64 c.least),.v (.int .i64 c.term)])] hp (.x (.a (.v (okV (cfF c.cf) 1)))) hp:=A8 fun γ w hS=>Z7 c w (hc.later hS)
theorem Az2 {w0:World} {hp:List Res} {s:Sv} {c:CfS} (h:Iv w0 hp s c):Ae Tryz.prog w0 No 49 [s] hp (.x (.a (.v (okV (cfF c) 1)))) hp:=A8 fun γ w hS=>by
 obtain⟨a,e,h1,rfl⟩:=h γ w hS
 show Calls _ _ #[s.val γ] w _
 rw[e]
 exact Z7 a w h1
def Az3 (gs:List GrS) (k:Nat):List Int:=(gs.take k).foldl (fun s g=>Ay s g.ids) []
theorem Az4 {α β:Type} [Inhabited α] [Inhabited β] (f:α→β) (l:List α) {i:Nat} (h:i < l.length):ix (l.map f) i=f (ix l i):=by
 rw[ix,ix,List.getD_eq_getElem?_getD,List.getD_eq_getElem?_getD,List.getElem?_map,List.getElem?_eq_getElem h]
 rfl
attribute [local irreducible] Az3 T3 Ay
end
end Go.Proofs.YtedaafmfjhjfmaaGreatDoor
