import Derived.Test.YtedaafmfjhjfmaaGreatDoorDrT
import Derived.Test.YtedaafmfjhjfmaaGreatDoorPt7
import Derived.Test.YtedaafmfjhjfmaaGreatDoorTs1
/- The document's sets, and who stands below a place. -/
namespace Go.Proofs.YtedaafmfjhjfmaaGreatDoor
open Go.RowKit
set_option linter.unusedSimpArgs false
set_option linter.unusedVariables false
def Ab4 (c:CfS) (p:Int) (g:GrS):Bool:=decide (g.place=p)||decide (p∈abF c.places g.place.toNat)
def Ro (c:CfS) (p:Int):List Int:=c.groups.flatMap fun g=>if Ab4 c p g=true then g.ids else []
def Rp (l:List Int) (n:Nat):Bool:=decide ((n:Int)∈l)
def A56 (how:Int) (x y:Bool):Bool:=(decide (how=0)&&(x||y))||(decide (how=1)&&(x&&y))||(decide (how=2)&&(x&&!y))
def Rq (how:Int) (a b:List Int) (k:Nat):List Int:=((List.range k).filter fun n=>A56 how (Rp a n) (Rp b n)).map Int.ofNat
theorem Rr {α:Type} [Inhabited α] {l:List α} {i:Nat} (h:i < l.length):ix l i=l[i]:=by simp [ix,List.getD_eq_getElem?_getD,List.getElem?_eq_getElem h]
attribute [local irreducible] Ad Ae Ah Ar Ak Am Ai Al
attribute [local irreducible] B1 okV Ay cfF tcF isP ofP abF C3 B2 Ca Rp Rq Ro
section
end
section
variable (c:CfR) (w:World)
end
end Go.Proofs.YtedaafmfjhjfmaaGreatDoor
/- The plain law of PartApart: whoever is in stands below the place. No program in sight. -/
namespace Go.Proofs.YtedaafmfjhjfmaaGreatDoor
set_option linter.unusedVariables false
theorem A57 (c:CfS) (p:Int):(Sms.new c p).spots.length=c.places.length:=by
 show ((List.range c.places.length).map (Hx c)).length=_
 rw[List.length_map,List.length_range]
end Go.Proofs.YtedaafmfjhjfmaaGreatDoor
/- Law 22's giveConf, bigConf. -/
namespace Go.Proofs.YtedaafmfjhjfmaaGreatDoor
open Go.RowKit
set_option linter.unusedSimpArgs false
set_option linter.unusedVariables false
structure CfR.Wide (c:CfR) (w:World):Prop where
 plen:c.ps.l.length≤c.ps.c
 pw:c.ps.l.length*24≤140737488351232
 prd:RdV w w.heap.size c.ps.A (c.ps.l.flatMap plV)
 glen:c.gs.l.length≤c.gs.c
 gw:c.gs.l.length*40≤140737488351232
 grd:RdV w w.heap.size c.gs.A (c.gs.l.flatMap grV)
 ids:∀g∈c.gs.l,g.ids.l.length≤g.ids.c∧g.ids.l.length*8≤140737488351232∧RdV w w.heap.size g.ids.A (g.ids.l.map (Value.int .i64))
def Fh (c:CfR) (i:Nat):List Value:=(c.ps.l.take i).flatMap plV
theorem A58 {c:CfR} {i:Nat} (h:i < c.ps.l.length):vC (Fh c (i+1))=vC (Fh c i)++[.v (.int .i64 (ix c.ps.l i).parent),.v (.int .i64 (ix c.ps.l i).spare),.v (.int .i64 (ix c.ps.l i).need)]:=by
 unfold Fh
 rw[List.take_add_one,List.getElem?_eq_getElem h,Option.toList_some,List.flatMap_append,Lb,List.flatMap_cons,List.flatMap_nil,List.append_nil,ix,List.getD_eq_getElem?_getD,List.getElem?_eq_getElem h]
 rfl
theorem A59 {c:CfR} {i:Nat} (h:i≤c.ps.l.length):(Fh c i).length=i*3:=by
 unfold Fh
 rw[Cd Jz,List.length_take,Nat.min_eq_left h]
theorem A6a (c:CfR):Fh c c.ps.l.length=c.ps.l.flatMap plV:=by unfold Fh;rw[List.take_length]
attribute [local irreducible] Ad Ae Ah Ar Ak Am Ai Al
attribute [local irreducible] Fh vC
section
end
end Go.Proofs.YtedaafmfjhjfmaaGreatDoor
/- Who stands below a place, as the document has it. -/
namespace Go.Proofs.YtedaafmfjhjfmaaGreatDoor
open Go.RowKit
set_option linter.unusedSimpArgs false
set_option linter.unusedVariables false
def A6b (c:CfS) (p:Int) (i:Nat):List Int:=(c.groups.take i).flatMap fun g=>if Ab4 c p g=true then g.ids else []
attribute [local irreducible] Ad Ae Ah Ar Ak Am Ai Al
attribute [local irreducible] B1 okV Ay cfF tcF isP ofP abF C3 B2 Ca Rp Rq Ro A6b
section
variable (c:CfR) (w:World)
end
end Go.Proofs.YtedaafmfjhjfmaaGreatDoor
/- Law 22's giveConf as its caller sees it, bigConf. -/
namespace Go.Proofs.YtedaafmfjhjfmaaGreatDoor
open Go.RowKit
set_option linter.unusedSimpArgs false
set_option linter.unusedVariables false
theorem CfR.Wide.later {w0 w:World} {c:CfR} {γ:List Nm} {hp:List Res} (h:c.Wide w0) (hS:Sat w0 No γ hp w):c.Wide w:=
 ⟨h.plen,h.pw,Cn h.prd hS,h.glen,h.gw,Cn h.grd hS,fun g hg=>⟨(h.ids g hg).1,(h.ids g hg).2.1,Cn (h.ids g hg).2.2 hS⟩⟩
theorem A6c {w0:World} {hp:List Res} {dim least term:Int} {ps:List PlS} {gs:List GrS} {j k:Nat} {e:TypeId} (hj:hp[j]?=some (.onn e 3 (.c (vC (ps.flatMap plV))))) (hk:hp[k]?=some (.abs (De gs))) (h1:ps.length≤1000000) (h2:gs.length≤1000000) (h3:∀g∈gs,g.ids.length≤1000000):
  Iv w0 hp (.x (.g [.v (.int .i64 dim),.o j,.o k,.v (.int .i64 least),.v (.int .i64 term)])) ⟨dim,ps,gs,least,term⟩:=fun γ w hS=>by
 obtain⟨A,cap,e1,e2,e3⟩:=Ld (n:=ps.length) hS hj (Lc γ _) (by rw[Cd Jz])
 have e4:=e3.rd rfl fun b hb=>(hS.mine j _ b hj hb).2
 obtain⟨_,hlt,gR,A2,cap2,rfl,f1,f2,f3⟩:=hS.holds k _ hk
 rw[f1] at f2
 have f4:=f2.rd rfl hlt
 rw[List.length_map] at h2
 refine⟨⟨dim,⟨A,cap,ps⟩,⟨A2,cap2,gR⟩,least,term⟩,?_,⟨e4.1,h1,e4.2,f4.1,h2,f4.2,fun g hg=>?_⟩,rfl⟩
 ·show Value.agg [_,nmS γ j,nmS γ k,_,_].toArray=_
  rw[e1,f1]
  rfl
 ·have:=(f3 g hg).rd (A:=g.ids.A) (c:=g.ids.c) rfl hlt
  exact⟨this.1,h3 g.gr (List.mem_map_of_mem hg),this.2⟩
def G5 (c:CfS):Bool:=decide (30 < c.places.length)||(decide (30 < c.groups.length)||c.groups.any fun g=>decide (30 < g.ids.length))
theorem A6d {c:CfS} (h:G5 c=false):c.places.length≤30∧c.groups.length≤30∧∀g∈c.groups,g.ids.length≤30:=by
 unfold G5 at h
 rw[Bool.or_eq_false_iff,Bool.or_eq_false_iff,List.any_eq_false] at h
 obtain⟨h1,h2,h3⟩:=h
 have h1:=of_decide_eq_false h1
 have h2:=of_decide_eq_false h2
 refine⟨by omega,by omega,fun g hg=>?_⟩
 have:=h3 g hg
 simp only[decide_eq_true_eq] at this
 omega
attribute [local irreducible] Ad Ae Ah Ar Ak Am Ai Al
attribute [local irreducible] vC
section
end
end Go.Proofs.YtedaafmfjhjfmaaGreatDoor
/- Law 29: giveConf, bigConf. -/
namespace Go.Proofs.YtedaafmfjhjfmaaGreatDoor
open Go.RowKit
set_option linter.unusedSimpArgs false
set_option linter.unusedVariables false
attribute [local irreducible] Ad Ae Ah Ar Ak Am Ai Al
attribute [local irreducible] Fh vC
set_option maxRecDepth 100000 in
set_option maxHeartbeats 1000000 in
theorem A6e (c:CfR) (w:World) (hc:c.Wide w):Calls Tryz.prog 22 #[.agg (cfV c).toArray] w fun e w'=>∃γ1,e=.returned ((Sv.x (.g [.v (.int .i64 c.dim),.o 0,.o 1,.v (.int .i64 c.least),.v (.int .i64 c.term)])).val γ1)∧Sat w No γ1 [.onn 98 3 (.c (vC (c.ps.l.flatMap plV))),.abs (De (c.gs.l.map GrR.gr))] w':=by
 have F:=FLm.of Jz (by decide) hc.prd
 have G:=FLm.of Iu (by decide) hc.grd
 have hpw:=hc.pw
 have hgw:=hc.gw
 refine Kx Tryz.func22 rfl Tryz.ntmps22 [.x (.g [.v (.int .i64 c.dim),.v (.slice c.ps.A c.ps.l.length c.ps.c),.v (.slice c.gs.A c.gs.l.length c.gs.c),.v (.int .i64 c.least),.v (.int .i64 c.term)])] (Sat.init w No) (by simp) (fun sv hp=>∃(gR:List GrR) (Fs:List Fct),gR.map GrR.gr=c.gs.l.map GrR.gr∧(∀g∈gR,Qh g∈Fs)∧Mg (.x (.g [.v (.int .i64 c.dim),.o 0,.o 1,.v (.int .i64 c.least),.v (.int .i64 c.term)])) [.onn 98 3 (.c (vC (c.ps.l.flatMap plV))),.onn 96 3 (.c (vC (gR.flatMap grV))),.abs (Aa Fs)] sv hp) (fun γ sv hp' w' hS ⟨gR,Fs,h1,h2,ρ,h3,h4,h5,h6⟩=>?_) ?_
 ·obtain⟨hS2,hρ⟩:=hS.sel h4 h5 h6.2
  obtain⟨γ',e1,e2,hS3⟩:=A0s hS2 h2
  rw[h1] at hS3
  refine⟨γ',?_,hS3⟩
  have e:sv=(Sv.x (.g [.v (.int .i64 c.dim),.o 0,.o 1,.v (.int .i64 c.least),.v (.int .i64 c.term)])).ren ρ:=by
   have:=h3.1
   simp only[Fr.get,if_true,Option.some.injEq] at this
   exact this
  have hlen:ρ.length=3:=(If h4).1
  have hv:=Sv.re hρ (x:=.x (.g [.v (.int .i64 c.dim),.o 0,.o 1,.v (.int .i64 c.least),.v (.int .i64 c.term)])) (by rw[hlen];simp only[push_cast,Nat.reduceLT])
  rw[e,←hv]
  show Ending.returned (Value.agg [_,nmS _ 0,nmS _ 1,_,_].toArray)=Ending.returned (Value.agg [_,nmS γ' 0,nmS γ' 1,_,_].toArray)
  rw[e1,e2]
  rfl
 simp (maxSteps:=10^6) only[undef,push_cast,↓reduceIte,reduceCtorEq,Nat.reduceEqDiff,Nat.reduceLT,Nat.reduceAdd]
 refine Qg 2 1 38 98 3 _ (.c []) (by omega) rfl rfl rfl (by simp (maxSteps:=10^6) only[push_cast,Nat.reduceLT,Nat.reduceAdd]) ?_
 simp (maxSteps:=10^6) only[push_cast,Nat.reduceAdd]
 refine Bh (ι:=Nat) (fun i=>⟨[(1,.x (.a (.p 0 0))),(2,.x (.a (.p 1 0))),(3,.x (.a (.p 2 0))),(4,.x (.a (.v (.int .i64 i))))],[.blk 25 (.c [.v (.int .i64 c.dim),.v (.slice c.ps.A c.ps.l.length c.ps.c),.v (.slice c.gs.A c.gs.l.length c.gs.c),.v (.int .i64 c.least),.v (.int .i64 c.term)]),.blk 38 (.c [.v (.int .i64 0),.v (.slice none 0 0),.v (.slice none 0 0),.v (.int .i64 0),.v (.int .i64 0)]),.blk 38 (.c [.v (.int .i64 c.dim),.o 3,.v (.slice none 0 0),.v (.int .i64 c.least),.v (.int .i64 c.term)]),.onn 98 3 (.c (vC (Fh c i)))]⟩) (fun i=>i≤c.ps.l.length) (fun i=>c.ps.l.length - i) 0 [0,1,2,3] (Nat.zero_le _) ?_ ?_
 ·have e0:vC (Fh c 0)=[]:=by unfold vC Fh;rfl
  simp (maxSteps:=10^6) only[e0,push_cast,↓Int.cast_ofNat_Int,Int.cast_ofNat_Int,↓reduceIte,reduceCtorEq,Nat.reduceEqDiff,Nat.reduceLT,Nat.reduceAdd]
  done
 intro i hi
 by_cases hlt:(i:Int) < c.ps.l.length
 ·have hil:i < c.ps.l.length:=by omega
  have i0:(0:Int)≤i:=by omega
  obtain⟨w1,w2⟩:=F.whole i hil
  have hA:=F.some_ (by omega)
  have hs:=A58 hil
  have hl:=A59 (c:=c) hi
  have e3:i*3 / 3=i:=Nat.mul_div_cancel _ (by omega)
  have b1:(i+1)*24≤140737488355328:=by omega
  have b2:i+1≤2 ^ 63 - 1:=by omega
  generalize ix c.ps.l i=x at*
  have w1:Cc w (Ag c.ps.A (i*3)) 3 0=[.v (.int .i64 x.parent),.v (.int .i64 x.spare),.v (.int .i64 x.need)]:=w1
  simp (maxSteps:=10^6) only[hlt,undef,push_cast,↓reduceIte,reduceCtorEq,Nat.reduceEqDiff,Nat.reduceLT,Nat.reduceAdd]
  (repeat (refine And.intro (by first|omega|decide) ?_))
  refine Mw 4 [3] 10 (.rd 0 (.rd 1 (.rd 2 (.rd 3 (.rd 4 (.rd 5 (.rd 6 (.wr 7 (.wr 8 (.rd 9 .nil)))))))))) ⟨[(1,.x (.a (.p 0 0))),(2,.x (.a (.p 1 0))),(3,.x (.a (.p 2 0))),(4,.x (.a (.v (.int .i64 i)))),(28,.x (.a (.o 4))),(29,.x (.a (.p 2 1)))],[.blk 25 (.c [.v (.int .i64 c.dim),.v (.slice c.ps.A c.ps.l.length c.ps.c),.v (.slice c.gs.A c.gs.l.length c.gs.c),.v (.int .i64 c.least),.v (.int .i64 c.term)]),.blk 38 (.c [.v (.int .i64 0),.v (.slice none 0 0),.v (.slice none 0 0),.v (.int .i64 0),.v (.int .i64 0)]),.blk 38 (.c [.v (.int .i64 c.dim),.o 3,.v (.slice none 0 0),.v (.int .i64 c.least),.v (.int .i64 c.term)]),.gone,.onn 98 3 (.c (vC (Fh c i)++[.v (.int .i64 x.parent),.v (.int .i64 x.spare),.v (.int .i64 x.need)]))]⟩ (by kernel_rfl) (by kernel_rfl) (Nat.le_refl 4) ?_ ?_
  ·simp (maxSteps:=10^6) only[hlt,i0,w1,w2,hA,hl,e3,b1,b2,Bl,undef,push_cast,↓Int.toNat_natCast,↓reduceIte,reduceCtorEq,Nat.reduceEqDiff,Nat.reduceLT,Nat.reduceLeDiff,Nat.reduceAdd,Nat.reduceSub,Nat.reduceMul]
   (repeat (refine And.intro (by first|omega|decide) ?_))
   refine Fc [0,1,2,3,5] ?_
   simp (maxSteps:=10^6) only[push_cast,↓reduceIte,reduceCtorEq,Nat.reduceEqDiff,Nat.reduceLT,Nat.reduceAdd]
   done
  ·simp (maxSteps:=10^6) only[undef,push_cast,↓reduceIte,Nat.reduceEqDiff,Nat.reduceLT,Nat.reduceAdd,Int.reduceNeg]
   (repeat (refine And.intro (by first|omega|decide) ?_))
   refine Be (i+1) [0,1,2,4] (by show i+1≤_;omega) (by show c.ps.l.length - (i+1) < c.ps.l.length - i;omega) ?_
   simp (maxSteps:=10^6) only[hs,push_cast,↓reduceIte,reduceCtorEq,Nat.reduceEqDiff,Nat.reduceLT,Nat.reduceAdd]
   done
 obtain rfl:i=c.ps.l.length:=by omega
 simp (maxSteps:=10^6) only[hlt,A6a,undef,push_cast,↓reduceIte,reduceCtorEq,Nat.reduceEqDiff,Nat.reduceLT,Nat.reduceAdd]
 refine Qg 2 2 38 96 3 _ (.c []) (by omega) rfl rfl rfl (by simp (maxSteps:=10^6) only[push_cast,Nat.reduceLT,Nat.reduceAdd]) ?_
 simp (maxSteps:=10^6) only[push_cast,Nat.reduceAdd]
 refine Axp (by simp (maxSteps:=10^6) only[push_cast,Nat.reduceLT,Nat.reduceAdd]) ?_
 simp (maxSteps:=10^6) only[push_cast]
 refine Bh (ι:=Nat×List GrR×List Fct) (fun x=>⟨[(1,.x (.a (.p 0 0))),(2,.x (.a (.p 1 0))),(3,.x (.a (.p 2 0))),(5,.x (.a (.v (.int .i64 (x.1:Nat)))))],[.blk 25 (.c [.v (.int .i64 c.dim),.v (.slice c.ps.A c.ps.l.length c.ps.c),.v (.slice c.gs.A c.gs.l.length c.gs.c),.v (.int .i64 c.least),.v (.int .i64 c.term)]),.blk 38 (.c [.v (.int .i64 0),.v (.slice none 0 0),.v (.slice none 0 0),.v (.int .i64 0),.v (.int .i64 0)]),.blk 38 (.c [.v (.int .i64 c.dim),.o 3,.o 4,.v (.int .i64 c.least),.v (.int .i64 c.term)]),.onn 98 3 (.c (vC (c.ps.l.flatMap plV))),.onn 96 3 (.c (vC (x.2.1.flatMap grV))),.abs (Aa x.2.2)]⟩)
  (fun x=>x.1≤c.gs.l.length∧x.2.1.length=x.1∧x.2.1.map GrR.gr=(c.gs.l.take x.1).map GrR.gr∧∀g∈x.2.1,Qh g∈x.2.2) (fun x=>c.gs.l.length - x.1) (0,[],[]) [0,1,2,3,4,5] ⟨Nat.zero_le _,rfl,rfl,fun g hg=>by cases hg⟩ ?_ ?_
 ·have e0:vC (([]:List GrR).flatMap grV)=[]:=by unfold vC;rfl
  simp (maxSteps:=10^6) only[e0,push_cast,↓Int.cast_ofNat_Int,Int.cast_ofNat_Int,↓reduceIte,reduceCtorEq,Nat.reduceEqDiff,Nat.reduceLT,Nat.reduceAdd]
  done
 rintro⟨i,gR,Fs⟩ ⟨hi,hgl,hgr,hF⟩
 dsimp only at hi hgl hgr hF
 by_cases hlt:(i:Int) < c.gs.l.length
 ·have hil:i < c.gs.l.length:=by omega
  have i0:(0:Int)≤i:=by omega
  have hA:=G.some_ (by omega)
  have ht:(c.gs.l.take (i+1)).map GrR.gr=(c.gs.l.take i).map GrR.gr++[(ix c.gs.l i).gr]:=by
   rw[List.take_add_one,List.getElem?_eq_getElem hil,Option.toList_some,List.map_append,ix,List.getD_eq_getElem?_getD,List.getElem?_eq_getElem hil]
   rfl
  obtain⟨k1,k2,k3⟩:=hc.ids _ (Dr hil)
  obtain⟨c0,o0⟩:=G.cell i 0 _ hil rfl
  obtain⟨c1,o1⟩:=G.cell i 1 _ hil rfl
  obtain⟨c2,o2⟩:=G.cell i 2 _ hil rfl
  rw[Nat.add_zero] at c0 o0
  generalize ix c.gs.l i=g at*
  have c1:Az w (Ag c.gs.A (i*3+1))=.slice g.ids.A g.ids.l.length g.ids.c:=c1
  obtain⟨r1,r2⟩:=Tg (FV.no k3)
  have e3:i*3 / 3=i:=Nat.mul_div_cancel _ (by omega)
  have hvl:(gR.flatMap grV).length=i*3:=by rw[Cd Iu,hgl]
  have b1:(i+1)*40≤140737488355328:=by omega
  have b2:i+1≤2 ^ 63 - 1:=by omega
  have b3:g.ids.l.length*8≤140737488355328:=by omega
  have b4:g.ids.l.length≤2 ^ 63 - 1:=by omega
  simp (maxSteps:=10^6) only[hlt,undef,push_cast,↓reduceIte,reduceCtorEq,Nat.reduceEqDiff,Nat.reduceLT,Nat.reduceAdd]
  (repeat (refine And.intro (by first|omega|decide) ?_))
  refine Mw 6 [4] 26 (.rd 0 (.rd 1 (.rd 2 (.rd 3 (.rd 4 (.rd 5 (.rd 6 (.rd 7 (.rd 9 (.rd 10 (.rd 11 (.rd 12 (.rd 13 (.rd 14 (.rd 16 (.rd 17 (.rd 18 (.rd 19 (.rd 20 (.rd 21 (.wr 8 (.wr 15 (.wr 22 (.wr 23 (.wr 24 (.rd 25 .nil)))))))))))))))))))))))))) ⟨[(1,.x (.a (.p 0 0))),(2,.x (.a (.p 1 0))),(3,.x (.a (.p 2 0))),(5,.x (.a (.v (.int .i64 i)))),(61,.x (.a (.o 7))),(62,.x (.a (.p 2 2)))],[.blk 25 (.c [.v (.int .i64 c.dim),.v (.slice c.ps.A c.ps.l.length c.ps.c),.v (.slice c.gs.A c.gs.l.length c.gs.c),.v (.int .i64 c.least),.v (.int .i64 c.term)]),.blk 38 (.c [.v (.int .i64 0),.v (.slice none 0 0),.v (.slice none 0 0),.v (.int .i64 0),.v (.int .i64 0)]),.blk 38 (.c [.v (.int .i64 c.dim),.o 3,.o 4,.v (.int .i64 c.least),.v (.int .i64 c.term)]),.onn 98 3 (.c (vC (c.ps.l.flatMap plV))),.gone,.abs (Aa Fs),.own 3 (.i64 g.ids.l),.onn 96 3 (.c (vC (gR.flatMap grV)++[.v (.int .i64 g.place),.o 6,.v (.int .i64 g.need)]))]⟩ (by kernel_rfl) (by kernel_rfl) (Nat.le_refl 6) ?_ ?_
  ·simp (maxSteps:=10^6) only[hlt,i0,c0,o0,c1,o1,c2,o2,hA,hvl,e3,r1,r2,b1,b2,b3,b4,B4,Bl,undef,push_cast,↓Int.toNat_natCast,↓reduceIte,reduceCtorEq,Nat.reduceEqDiff,Nat.reduceLT,Nat.reduceLeDiff,Nat.reduceAdd,Nat.reduceSub,Nat.reduceMul]
   (repeat (refine And.intro (by first|omega|decide) ?_))
   refine Fc [0,1,2,3,4,5,7,9] ?_
   simp (maxSteps:=10^6) only[push_cast,↓reduceIte,reduceCtorEq,Nat.reduceEqDiff,Nat.reduceLT,Nat.reduceAdd]
   done
  ·simp (maxSteps:=10^6) only[undef,push_cast,↓reduceIte,Nat.reduceEqDiff,Nat.reduceLT,Nat.reduceAdd,Int.reduceNeg]
   (repeat (refine And.intro (by first|omega|decide) ?_))
   refine Axo 6 5 (vs:=g.ids.l.map (Value.int .i64)) rfl (fun _=>rfl) rfl (by decide) fun A1 cap1 h1 h2=>?_
   rw[List.length_map]
   obtain⟨g',hg'⟩:∃g':GrR,g'=⟨g.place,⟨A1,cap1,g.ids.l⟩,g.need⟩:=⟨_,rfl⟩
   have hap:vC ((gR++[g']).flatMap grV)=vC (gR.flatMap grV)++[.v (.int .i64 g.place),.v (.slice A1 g.ids.l.length cap1),.v (.int .i64 g.need)]:=by
    rw[List.flatMap_append,Lb,hg'];unfold vC;rfl
   refine Be (i+1,gR++[g'],Fs++[⟨.slice A1 g.ids.l.length cap1,g.ids.l.length,g.ids.l.map (Value.int .i64)⟩]) [0,1,2,3,7,5] ⟨by show i+1≤_;omega,by show (gR++[_]).length=_;rw[List.length_append,hgl];rfl,?_,fun x hx=>?_⟩ (by show c.gs.l.length - (i+1) < c.gs.l.length - i;omega) ?_
   ·show (gR++[_]).map GrR.gr=_
    rw[List.map_append,hgr,ht,hg']
    rfl
   ·rcases List.mem_append.1 hx with hx|hx
    ·exact List.mem_append_left _ (hF x hx)
    ·rw[List.mem_singleton.1 hx,hg']
     exact List.mem_append_right _ (List.mem_singleton.2 rfl)
   ·simp (maxSteps:=10^6) only[hap,push_cast,↓reduceIte,reduceCtorEq,Nat.reduceEqDiff,Nat.reduceLT,Nat.reduceAdd]
    done
 obtain rfl:i=c.gs.l.length:=by omega
 rw[List.take_length] at hgr
 simp (maxSteps:=10^6) only[hlt,undef,push_cast,↓reduceIte,reduceCtorEq,Nat.reduceEqDiff,Nat.reduceLT,Nat.reduceAdd]
 refine⟨gR,Fs,hgr,hF,?_⟩
 refine Fp [3,4,5] ?_
 simp (maxSteps:=10^6) only[push_cast,↓reduceIte,Nat.reduceEqDiff,Nat.reduceLT,Nat.reduceAdd]
 done
theorem Vf {w0:World} {hp:List Res} (c:CfR) (hc:c.Wide w0) (hbr:∀r∈hp,Res.bnd hp.length r):
  Ae Tryz.prog w0 No 22 [.x (.g [.v (.int .i64 c.dim),.v (.slice c.ps.A c.ps.l.length c.ps.c),.v (.slice c.gs.A c.gs.l.length c.gs.c),.v (.int .i64 c.least),.v (.int .i64 c.term)])] hp (.x (.g [.v (.int .i64 c.dim),.o hp.length,.o (hp.length+1),.v (.int .i64 c.least),.v (.int .i64 c.term)])) (hp++[.onn 98 3 (.c (vC (c.ps.l.flatMap plV))),.abs (De (c.gs.l.map GrR.gr))]):=by
 have:=Ym (P:=Tryz.prog) (w0:=w0) (ow:=No) (f:=22) (svs:=[.x (.g [.v (.int .i64 c.dim),.v (.slice c.ps.A c.ps.l.length c.ps.c),.v (.slice c.gs.A c.gs.l.length c.gs.c),.v (.int .i64 c.least),.v (.int .i64 c.term)])]) (hp:=hp) (sv1:=.x (.g [.v (.int .i64 c.dim),.o 0,.o 1,.v (.int .i64 c.least),.v (.int .i64 c.term)])) (hp1:=[.onn 98 3 (.c (vC (c.ps.l.flatMap plV))),.abs (De (c.gs.l.map GrR.gr))]) [] hbr
  (by simp only[push_cast,Nat.reduceAdd]) (by simp only[push_cast,Nat.reduceLT,Nat.reduceAdd]) fun γ w hS=>⟨No,fun b h=>h.elim,A6e c w (hc.later hS)⟩
 have e:Cont.ren (Bw hp.length 2) (.c (vC (c.ps.l.flatMap plV)))=.c (vC (c.ps.l.flatMap plV)):=by show Cont.c _=_;rw[Ul]
 have e2:Da [] hp++List.map (Res.ren (Bw hp.length 2)) [.onn 98 3 (.c (vC (c.ps.l.flatMap plV))),.abs (De (c.gs.l.map GrR.gr))]=hp++[.onn 98 3 (.c (vC (c.ps.l.flatMap plV))),.abs (De (c.gs.l.map GrR.gr))]:=by
  show hp++[Res.onn _ 3 (Cont.ren _ _),Res.abs _]=_
  rw[e]
 rw[show ([.onn 98 3 (.c (vC (c.ps.l.flatMap plV))),.abs (De (c.gs.l.map GrR.gr))]:List Res).length=2 from rfl,e2] at this
 exact this
set_option maxRecDepth 100000 in
theorem A6f (c:CfR) (w:World) (hc:c.Wide w):Calls Tryz.prog 19 #[.agg (cfV c).toArray] w fun e w'=>e=.returned (.bool (G5 c.cf))∧Below w.heap.size w w':=by
 have G:=FLm.of Iu (by decide) hc.grd
 refine Ba (n:=29) Tryz.func19 rfl Tryz.ntmps19 [.x (.g [.v (.int .i64 c.dim),.v (.slice c.ps.A c.ps.l.length c.ps.c),.v (.slice c.gs.A c.gs.l.length c.gs.c),.v (.int .i64 c.least),.v (.int .i64 c.term)])] (by simp) (.x (.a (.v (.bool (G5 c.cf))))) (fun _=>rfl) ?_
 obtain⟨q,hq⟩:∃q,q=G5 c.cf:=⟨_,rfl⟩
 rw[←hq]
 have hq:q=(decide (30 < c.ps.l.length)||(decide (30 < (c.gs.l.map GrR.gr).length)||(c.gs.l.map GrR.gr).any fun g=>decide (30 < g.ids.length))):=hq
 rw[List.length_map] at hq
 by_cases h1:(30:Int) < c.ps.l.length
 ·rw[decide_eq_true (show 30 < c.ps.l.length by omega),Bool.true_or] at hq
  simp (maxSteps:=10^6) only[h1,hq,undef,push_cast,↓reduceIte,reduceCtorEq,Nat.reduceEqDiff,Nat.reduceLT,Nat.reduceAdd]
  done
 rw[decide_eq_false (show ¬30 < c.ps.l.length by omega),Bool.false_or] at hq
 by_cases h2:(30:Int) < c.gs.l.length
 ·rw[decide_eq_true (show 30 < c.gs.l.length by omega),Bool.true_or] at hq
  simp (maxSteps:=10^6) only[h1,h2,hq,undef,push_cast,↓reduceIte,reduceCtorEq,Nat.reduceEqDiff,Nat.reduceLT,Nat.reduceAdd]
  done
 rw[decide_eq_false (show ¬30 < c.gs.l.length by omega),Bool.false_or] at hq
 simp (maxSteps:=10^6) only[h1,h2,undef,push_cast,↓reduceIte,reduceCtorEq,Nat.reduceEqDiff,Nat.reduceLT,Nat.reduceAdd]
 refine Bh (ι:=Nat) (fun i=>⟨[(1,.x (.a (.p 0 0))),(3,.x (.a (.v (.int .i64 i))))],[.blk 25 (.c [.v (.int .i64 c.dim),.v (.slice c.ps.A c.ps.l.length c.ps.c),.v (.slice c.gs.A c.gs.l.length c.gs.c),.v (.int .i64 c.least),.v (.int .i64 c.term)])]⟩) (fun i=>i≤c.gs.l.length∧q=((c.gs.l.drop i).map GrR.gr).any fun g=>decide (30 < g.ids.length)) (fun i=>c.gs.l.length - i) 0 [0] ⟨Nat.zero_le _,hq⟩ ?_ ?_
 ·simp (maxSteps:=10^6) only[push_cast,↓Int.cast_ofNat_Int,Int.cast_ofNat_Int,↓reduceIte,Nat.reduceEqDiff,Nat.reduceLT]
 rintro i ⟨hi,hg⟩
 by_cases hlt:(i:Int) < c.gs.l.length
 ·have hil:i < c.gs.l.length:=by omega
  have i0:(0:Int)≤i:=by omega
  have hA:=G.some_ (by omega)
  obtain⟨c1,o1⟩:=G.cell i 1 _ hil rfl
  have hd:c.gs.l.drop i=ix c.gs.l i::c.gs.l.drop (i+1):=by
   rw[List.drop_eq_getElem_cons hil,ix,List.getD_eq_getElem?_getD,List.getElem?_eq_getElem hil];rfl
  rw[hd,List.map_cons,List.any_cons] at hg
  generalize ix c.gs.l i=g at*
  have c1:Az w (Ag c.gs.A (i*3+1))=.slice g.ids.A g.ids.l.length g.ids.c:=c1
  by_cases h3:(30:Int) < g.ids.l.length
  ·rw[decide_eq_true (show 30 < g.gr.ids.length by show 30 < g.ids.l.length;omega),Bool.true_or] at hg
   simp (maxSteps:=10^6) only[hlt,i0,c1,o1,hA,h3,hg,B4,Bl,undef,push_cast,↓Int.toNat_natCast,↓reduceIte,reduceCtorEq,Nat.reduceEqDiff,Nat.reduceLT,Nat.reduceAdd]
   done
  ·rw[decide_eq_false (show ¬30 < g.gr.ids.length by show ¬30 < g.ids.l.length;omega),Bool.false_or] at hg
   simp (maxSteps:=10^6) only[hlt,i0,c1,o1,hA,h3,B4,Bl,undef,push_cast,↓Int.toNat_natCast,↓reduceIte,reduceCtorEq,Nat.reduceEqDiff,Nat.reduceLT,Nat.reduceAdd,Int.reduceNeg]
   (repeat (refine And.intro (by first|omega|decide) ?_))
   refine Be (i+1) [0] ⟨by omega,hg⟩ (by omega) ?_
   simp (maxSteps:=10^6) only[push_cast,↓reduceIte,Nat.reduceEqDiff,Nat.reduceLT]
   done
 ·obtain rfl:i=c.gs.l.length:=by omega
  rw[List.drop_length,List.map_nil,List.any_nil] at hg
  simp (maxSteps:=10^6) only[hlt,hg,undef,push_cast,↓reduceIte,reduceCtorEq,Nat.reduceEqDiff,Nat.reduceLT,Nat.reduceAdd]
  done
theorem A6g {w0:World} {hp:List Res} (c:CfR) (hc:c.Wide w0):Ae Tryz.prog w0 No 19 [.x (.g [.v (.int .i64 c.dim),.v (.slice c.ps.A c.ps.l.length c.ps.c),.v (.slice c.gs.A c.gs.l.length c.gs.c),.v (.int .i64 c.least),.v (.int .i64 c.term)])] hp (.x (.a (.v (.bool (G5 c.cf))))) hp:=A8 fun γ w hS=>A6f c w (hc.later hS)
end Go.Proofs.YtedaafmfjhjfmaaGreatDoor
