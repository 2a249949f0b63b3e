import Derived.Test.YtedaafmfjhjfmaaGreatDoorDrT
/- The document's sets, and who stands below a place. -/
namespace Go.Proofs.YtedaafmfjhjfmaaGreatDoor
open Go.RowKit
set_option linter.unusedSimpArgs false
set_option linter.unusedVariables false
def I3 (c:CfS) (p:Int) (g:GrS):Bool:=decide (g.place=p)||decide (p∈abF c.places g.place.toNat)
def Dq (c:CfS) (p:Int):List Int:=c.groups.flatMap fun g=>if I3 c p g=true then g.ids else []
def hasR (l:List Int) (n:Nat):Bool:=decide ((n:Int)∈l)
def Ln (how:Int) (x y:Bool):Bool:=(decide (how=0)&&(x||y))||(decide (how=1)&&(x&&y))||(decide (how=2)&&(x&&!y))
def someR (how:Int) (a b:List Int) (k:Nat):List Int:=((List.range k).filter fun n=>Ln how (hasR a n) (hasR b n)).map Int.ofNat
theorem A6m (how:Int) (a b:List Int) (k:Nat):someR how a b (k+1)=someR how a b k++(if Ln how (hasR a k) (hasR b k)=true then [(k:Int)] else []):=by
 unfold someR
 rw[List.range_succ,List.filter_append,List.map_append]
 congr 1
 by_cases h:Ln how (hasR a k) (hasR b k)=true
 ·simp [h]
 ·simp [h]
theorem Ab3 (how:Int) (a b:List Int) (k:Nat):(someR how a b k).length≤k:=by
 unfold someR
 rw[List.length_map]
 have:=List.length_filter_le (fun n=>Ln how (hasR a n) (hasR b n)) (List.range k)
 simpa using this
theorem Rq {α:Type} [Inhabited α] {l:List α} {i:Nat} (h:i < l.length):ix l i=l[i]:=by simp [ix,List.getD_eq_getElem?_getD,List.getElem?_eq_getElem h]
theorem Ab4 {l:List Int} {i:Nat} {n:Int} (h:i < l.length):n∈l.take (i+1)↔n∈l.take i∨ix l i=n:=by
 rw[List.take_add_one,List.getElem?_eq_getElem h,Option.toList_some,List.mem_append,List.mem_singleton,Rq h]
 exact or_congr Iff.rfl eq_comm
attribute [local irreducible] Ad Ae Ah Au Am Ap Ai Ao
attribute [local irreducible] B4 okV Aw cfF tcF isP ofP abF Df Bn B5 hasR someR Dq
section
set_option maxRecDepth 100000 in
theorem A6n (l:List Int) (n:Nat) (hn:n < 64) (A:Option Addr) (c:Nat) (w:World) (hm:l.length≤1000000) (hR:RdV w w.heap.size A (l.map (Value.int .i64))):
  Calls Tryz.prog 87 #[.slice A l.length c,.int .i64 n] w fun e w'=>e=.returned (.bool (hasR l n))∧Below w.heap.size w w':=by
 have F:=FM.of hR
 refine Bb (n:=31) Tryz.func87 rfl Tryz.ntmps87 [.x (.a (.v (.slice A l.length c))),.x (.a (.v (.int .i64 n)))] (by simp) (.x (.a (.v (.bool (hasR l n))))) (fun _=>rfl) ?_
 have n0:(0:Int)≤n:=by omega
 have n1:(n:Int)≤63:=by omega
 simp (maxSteps:=10^6) only[push_cast,↓reduceIte,Nat.reduceLT]
 refine Bc (ι:=Nat) (fun i=>⟨[(0,.x (.a (.v (.slice A l.length c)))),(1,.x (.a (.v (.int .i64 n)))),(5,.x (.a (.v (.bool (decide ((n:Int)∈l.take i)))))),(6,.x (.a (.v (.int .i64 i))))],[]⟩) (fun i=>i≤l.length) (fun i=>l.length - i) 0 [] (Nat.zero_le _) ?_ ?_
 ·have e0:decide ((n:Int)∈l.take 0)=false:=by simp
  simp (maxSteps:=10^6) only[push_cast,↓Int.cast_ofNat_Int,Int.cast_ofNat_Int,↓reduceIte,reduceCtorEq,Nat.reduceEqDiff]
 intro i hi
 by_cases hlt:(i:Int) < l.length
 ·have hil:i < l.length:=by omega
  have i0:(0:Int)≤i:=by omega
  have c0:=F.cell i hil
  have o0:=F.ok i hil
  have hA:=F.some_ (by omega)
  have nx:(i:Int)+1≤9223372036854775807:=by omega
  have ht:=Ab4 (n:=(n:Int)) hil
  by_cases hin:(n:Int)∈l.take i
  ·have h1:=decide_eq_true hin
   have h2:decide ((n:Int)∈l.take (i+1))=true:=decide_eq_true (ht.2 (.inl hin))
   simp (maxSteps:=10^6) only[hlt,h1,undef,push_cast,↓reduceIte,reduceCtorEq,Nat.reduceEqDiff,Nat.reduceLT,Int.reduceNeg]
   (repeat (refine And.intro (by first|omega|decide) ?_))
   refine Ay (i+1) [] (by omega) (by omega) ?_
   simp (maxSteps:=10^6) only[h2,push_cast,↓reduceIte,reduceCtorEq,Nat.reduceEqDiff]
   done
  ·have h1:=decide_eq_false hin
   by_cases he:ix l i=n
   ·have h2:decide ((n:Int)∈l.take (i+1))=true:=decide_eq_true (ht.2 (.inr he))
    simp (maxSteps:=10^6) only[hlt,i0,h1,c0,o0,hA,he,push_cast,↓Int.toNat_natCast,↓reduceIte,reduceCtorEq,Nat.reduceEqDiff,Nat.reduceLT,Int.reduceNeg]
    (repeat (refine And.intro (by first|omega|decide) ?_))
    refine Ay (i+1) [] (by omega) (by omega) ?_
    simp (maxSteps:=10^6) only[h2,push_cast,↓reduceIte,reduceCtorEq,Nat.reduceEqDiff]
    done
   ·have h2:decide ((n:Int)∈l.take (i+1))=false:=decide_eq_false fun h=>(ht.1 h).elim hin he
    simp (maxSteps:=10^6) only[hlt,i0,h1,c0,o0,hA,he,push_cast,↓Int.toNat_natCast,↓reduceIte,reduceCtorEq,Nat.reduceEqDiff,Nat.reduceLT,Int.reduceNeg]
    (repeat (refine And.intro (by first|omega|decide) ?_))
    refine Ay (i+1) [] (by omega) (by omega) ?_
    simp (maxSteps:=10^6) only[h2,push_cast,↓reduceIte,reduceCtorEq,Nat.reduceEqDiff]
    done
 ·obtain rfl:i=l.length:=by omega
  have hh:decide ((n:Int)∈l.take l.length)=hasR l n:=by
   rw[List.take_length]
   unfold hasR
   rfl
  rw[hh]
  cases hb:hasR l n
  ·simp (maxSteps:=10^6) only[hlt,undef,push_cast,↓reduceIte,reduceCtorEq,Nat.reduceEqDiff,Nat.reduceLT]
   done
  ·simp (maxSteps:=10^6) only[hlt,n0,n1,push_cast,↓reduceIte,reduceCtorEq,Nat.reduceEqDiff,Nat.reduceLT]
   done
theorem Ab5 {w0:World} {ow:Nat→Prop} {hp:List Res} {sv:Sv} {l:List Int} (n:Nat) (hn:n < 64) (hm:l.length≤1000000) (h:A6 w0 ow hp sv (l.map (Value.int .i64))):Ae Tryz.prog w0 ow 87 [sv,.x (.a (.v (.int .i64 n)))] hp (.x (.a (.v (.bool (hasR l n))))) hp:=Ba fun γ w hS=>by
 obtain⟨A,c,e1,b1,r1⟩:=h γ w hS
 rw[List.length_map] at e1
 show Calls _ _ #[sv.val γ,_] w _
 rw[e1]
 exact A6n l n hn A c w hm r1
set_option maxRecDepth 100000 in
theorem A6o (how:Int) (hh:how=0∨how=2) (a b:List Int) (A A2:Option Addr) (c c2:Nat) (w:World) (ha:a.length≤1000000) (hb:b.length≤1000000) (hc:a.length≤c) (hc2:b.length≤c2) (hR:RdV w w.heap.size A (a.map (Value.int .i64))) (hR2:RdV w w.heap.size A2 (b.map (Value.int .i64))):
  Calls Tryz.prog 32 #[.slice A a.length c,.slice A2 b.length c2,.int .i64 how] w fun e w'=>∃x,e=.returned x∧Own w' w.heap.size 3 x ((someR how a b 64).map (Value.int .i64))∧Below w.heap.size w w':=by
 refine Fu (n:=55) Tryz.func32 rfl Tryz.ntmps32 [.x (.a (.v (.slice A a.length c))),.x (.a (.v (.slice A2 b.length c2))),.x (.a (.v (.int .i64 how)))] (by simp) 3 (.i64 (someR how a b 64)) (fun _=>rfl) ?_
 simp (maxSteps:=10^6) only[push_cast,↓reduceIte,Nat.reduceLT,Nat.reduceAdd]
 refine Ij 7 3 (.i64 []) rfl rfl trivial (by simp (maxSteps:=10^6) only[push_cast]) ?_
 simp (maxSteps:=10^6) only[push_cast]
 refine Bc (ι:=Nat) (fun i=>⟨[(0,.x (.a (.v (.slice A a.length c)))),(1,.x (.a (.v (.slice A2 b.length c2)))),(2,.x (.a (.v (.int .i64 how)))),(7,.x (.a (.o 0))),(8,.x (.a (.v (.int .i64 i))))],[.own 3 (.i64 (someR how a b i))]⟩) (fun i=>i≤64) (fun i=>64 - i) 0 [0] (Nat.zero_le _) ?_ ?_
 ·have e0:someR how a b 0=[]:=by unfold someR;rfl
  simp (maxSteps:=10^6) only[e0,push_cast,↓Int.cast_ofNat_Int,Int.cast_ofNat_Int,↓reduceIte,reduceCtorEq,Nat.reduceEqDiff,Nat.reduceLT]
 intro i hi
 by_cases hlt:(i:Int) < 64
 ·have i0:(0:Int)≤i:=by omega
  have hs:=A6m how a b i
  have hl:=Ab3 how a b i
  have b1:((someR how a b i).length+1)*8≤140737488355328:=by omega
  have b2:(someR how a b i).length+1≤2 ^ 63 - 1:=by omega
  have nx:(i:Int)+1≤9223372036854775807:=by omega
  simp (maxSteps:=10^6) only[hlt,push_cast,↓reduceIte,reduceCtorEq,Nat.reduceEqDiff,Nat.reduceLT]
  (repeat (refine And.intro (by first|omega|decide) ?_))
  refine Ar rfl Xz rfl (Ab5 i (by omega) ha (Bt hR _ _ (by simp) hc)) (Af rfl) ?_
  simp (maxSteps:=10^6) only[push_cast,↓reduceIte,reduceCtorEq,Nat.reduceEqDiff,Nat.reduceLT]
  (repeat (refine And.intro (by first|omega|decide) ?_))
  refine Ar rfl Xz rfl (Ab5 i (by omega) hb (Bt hR2 _ _ (by simp) hc2)) (Af rfl) ?_
  generalize hasR a i=x at*
  generalize hasR b i=y at*
  rcases hh with rfl|rfl
  all_goals cases x
  all_goals cases y
  all_goals
   (first
    |(have hs:=hs.trans (congrArg _ (if_pos rfl))
      simp (maxSteps:=10^6) only[b1,b2,nx,undef,push_cast,↓reduceIte,reduceCtorEq,Nat.reduceEqDiff,Nat.reduceLT,Nat.reduceLeDiff,Nat.reduceAdd,Int.reduceNeg,Int.reduceEq]
      (repeat (refine And.intro (by first|omega|decide) ?_))
      refine Ay (i+1) [2] (by omega) (by omega) ?_
      simp (maxSteps:=10^6) only[hs,push_cast,↓reduceIte,reduceCtorEq,Nat.reduceEqDiff,Nat.reduceLT]
      done)
    |(have hs:=hs.trans ((congrArg _ (if_neg (by decide))).trans (List.append_nil _))
      simp (maxSteps:=10^6) only[nx,undef,push_cast,↓reduceIte,reduceCtorEq,Nat.reduceEqDiff,Nat.reduceLT,Int.reduceNeg,Int.reduceEq]
      (repeat (refine And.intro (by first|omega|decide) ?_))
      refine Ay (i+1) [0] (by omega) (by omega) ?_
      simp (maxSteps:=10^6) only[hs,push_cast,↓reduceIte,reduceCtorEq,Nat.reduceEqDiff,Nat.reduceLT]
      done))
 ·obtain rfl:i=64:=by omega
  simp (maxSteps:=10^6) only[push_cast,↓Int.cast_ofNat_Int,Int.cast_ofNat_Int,↓reduceIte,reduceCtorEq,Nat.reduceEqDiff,Nat.reduceLT,Int.reduceLT]
  done
theorem Ab6 {w0:World} {ow:Nat→Prop} {hp:List Res} {s1 s2:Sv} {a b:List Int} (how:Int) (hh:how=0∨how=2) (ha:a.length≤1000000) (hb:b.length≤1000000) (h1:A6 w0 ow hp s1 (a.map (Value.int .i64))) (h2:A6 w0 ow hp s2 (b.map (Value.int .i64))) (hbr:∀r∈hp,Res.bnd hp.length r):
  Ae Tryz.prog w0 ow 32 [s1,s2,.x (.a (.v (.int .i64 how)))] hp (.x (.a (.o hp.length))) (hp++[.own 3 (.i64 (someR how a b 64))]):=
 Ga hbr trivial fun γ w hS=>by
  obtain⟨A,c,e1,b1,r1⟩:=h1 γ w hS
  obtain⟨A2,c2,e2,b2,r2⟩:=h2 γ w hS
  rw[List.length_map] at e1 e2 b1 b2
  show Calls _ _ #[s1.val γ,s2.val γ,_] w _
  rw[e1,e2]
  exact A6o how hh a b A A2 c c2 w ha hb b1 b2 r1 r2
set_option maxRecDepth 100000 in
theorem A6p (l:List Int) (A:Option Addr) (c:Nat) (w:World) (hm:l.length≤1000000) (hc:l.length≤c) (hR:RdV w w.heap.size A (l.map (Value.int .i64))) (hd:l.Nodup) (hr:∀x∈l,0≤x∧x < 64):
  Calls Tryz.prog 89 #[.slice A l.length c] w fun e w'=>∃x,e=.returned (.tuple #[x,.bool true])∧Own w' w.heap.size 3 x ((someR 0 l [] 64).map (Value.int .i64))∧Below w.heap.size w w':=by
 have F:=FM.of hR
 refine Ma (n:=40) Tryz.func89 rfl Tryz.ntmps89 [.x (.a (.v (.slice A l.length c)))] (by simp) 3 (.i64 (someR 0 l [] 64)) (.bool true) (fun _=>rfl) ?_
 simp (maxSteps:=10^6) only[push_cast,↓reduceIte,Nat.reduceLT]
 refine Bc (ι:=Nat) (fun i=>⟨[(0,.x (.a (.v (.slice A l.length c)))),(4,.x (.a (.v (.int .i64 i))))],[]⟩) (fun i=>i≤l.length) (fun i=>l.length - i) 0 [] (Nat.zero_le _) ?_ ?_
 ·simp (maxSteps:=10^6) only[push_cast,↓Int.cast_ofNat_Int,Int.cast_ofNat_Int,↓reduceIte,reduceCtorEq]
 intro i hi
 by_cases hlt:(i:Int) < l.length
 ·have hil:i < l.length:=by omega
  have i0:(0:Int)≤i:=by omega
  have c0:=F.cell i hil
  have o0:=F.ok i hil
  have hA:=F.some_ (by omega)
  have nx:(i:Int)+1≤9223372036854775807:=by omega
  have hx:=hr _ (C4 hil)
  have x0:¬ix l i < 0:=by omega
  have x1:¬63 < ix l i:=by omega
  simp (maxSteps:=10^6) only[hlt,i0,c0,o0,hA,x0,x1,push_cast,↓Int.toNat_natCast,↓reduceIte,reduceCtorEq,Nat.reduceEqDiff,Nat.reduceLT]
  (repeat (refine And.intro (by first|omega|decide) ?_))
  refine Bc (ι:=Nat) (fun k=>⟨[(0,.x (.a (.v (.slice A l.length c)))),(4,.x (.a (.v (.int .i64 (i:Nat))))),(5,.x (.a (.v (.int .i64 k))))],[]⟩) (fun k=>k≤i) (fun k=>i - k) 0 [] (Nat.zero_le _) ?_ ?_
  ·simp (maxSteps:=10^6) only[push_cast,↓Int.cast_ofNat_Int,Int.cast_ofNat_Int,↓reduceIte,reduceCtorEq,Nat.reduceEqDiff]
  intro k hk
  by_cases hkl:(k:Int) < i
  ·have hkl':(k:Int) < l.length:=by omega
   have d0:=F.cell k (by omega)
   have p0:=F.ok k (by omega)
   have ne:¬ix l k=ix l i:=fun e=>by
    rw[Rq (by omega),Rq hil] at e
    have:=(List.getElem_inj hd).1 e
    omega
   have k0:(0:Int)≤k:=by omega
   have kx:(k:Int)+1≤9223372036854775807:=by omega
   simp (maxSteps:=10^6) only[hkl,push_cast,↓reduceIte,reduceCtorEq,Nat.reduceEqDiff,Nat.reduceLT]
   (repeat (refine And.intro (by first|omega|decide) ?_))
   refine Cy [(0,true),(1,true),(2,true),(3,true),(4,true),(5,true),(6,true),(7,true),(8,true)] (by kernel_rfl) (by kernel_rfl) rfl (by kernel_rfl) ?_
   simp (maxSteps:=10^6) only[hlt,i0,k0,hkl',c0,o0,d0,p0,hA,ne,kx,push_cast,↓Int.toNat_natCast,↓reduceIte,reduceCtorEq,Nat.reduceEqDiff,Nat.reduceLT,Int.reduceNeg]
   (repeat (refine And.intro (by first|omega|decide) ?_))
   refine Ay (k+1) [] (by omega) (by omega) ?_
   simp (maxSteps:=10^6) only[push_cast,↓reduceIte,reduceCtorEq,Nat.reduceEqDiff]
   done
  ·simp (maxSteps:=10^6) only[hkl,nx,push_cast,↓reduceIte,reduceCtorEq,Nat.reduceEqDiff,Nat.reduceLT,Int.reduceNeg]
   (repeat (refine And.intro (by first|omega|decide) ?_))
   refine Ay (i+1) [] (show i+1≤l.length by omega) (show l.length - (i+1) < l.length - i by omega) ?_
   simp (maxSteps:=10^6) only[push_cast,↓reduceIte,reduceCtorEq]
   done
 ·have hn:RdV w w.heap.size none (([]:List Int).map (Value.int .i64)):=RdV.nil_
  simp (maxSteps:=10^6) only[hlt,push_cast,↓reduceIte,reduceCtorEq,Nat.reduceEqDiff,Nat.reduceLT]
  (repeat (refine And.intro (by first|omega|decide) ?_))
  refine Dx rfl Xv rfl (Ab6 (b:=[]) 0 (.inl rfl) hm (by simp) (Bt hR _ _ (by simp) hc) (Bt hn 0 0 rfl (Nat.le_refl _)) (by simp (maxSteps:=10^6) only[push_cast])) (Af rfl) (by simp (maxSteps:=10^6) only[push_cast]) ?_
  simp (maxSteps:=10^6) only[push_cast,↓reduceIte,Nat.reduceEqDiff,Nat.reduceLT]
  done
end
section
variable (c:CfR) (w:World)
set_option maxRecDepth 100000 in
theorem A6q (p:Nat) (hc:c.Ok w) (hst:StOk c.ps.l) (hp:p < c.ps.l.length):Calls Tryz.prog 134 #[.agg (cfV c).toArray,.int .i64 p] w fun e w'=>∃x,e=.returned x∧Own w' w.heap.size 3 x ((abF c.ps.l p).map (Value.int .i64))∧Below w.heap.size w w':=by
 have F:=FLm.of Iv (by decide) hc.prd
 have hm:=hst.most
 refine Fu (n:=26) Tryz.func134 rfl Tryz.ntmps134 [.x (.g [.v (.int .i64 c.dim),.v (.slice c.ps.A c.ps.l.length c.ps.c),.v (.slice c.gs.A c.gs.l.length c.gs.c),.v (.int .i64 c.least),.v (.int .i64 c.term)]),.x (.a (.v (.int .i64 p)))] (by simp) 3 (.i64 (abF c.ps.l p)) (fun _=>rfl) ?_
 have hA:=F.some_ (by omega)
 simp (maxSteps:=10^6) only[push_cast,↓reduceIte,reduceCtorEq,Nat.reduceEqDiff,Nat.reduceLT]
 refine Ij 5 3 (.i64 []) rfl rfl trivial (by simp (maxSteps:=10^6) only[push_cast,Nat.reduceLT]) ?_
 simp (maxSteps:=10^6) only[push_cast]
 refine Bc (ι:=Nat×List Int) (fun x=>⟨[(2,.x (.a (.p 0 0))),(5,.x (.a (.o 1))),(6,.x (.a (.v (.int .i64 (x.1:Nat)))))],[.blk 25 (.c [.v (.int .i64 c.dim),.v (.slice c.ps.A c.ps.l.length c.ps.c),.v (.slice c.gs.A c.gs.l.length c.gs.c),.v (.int .i64 c.least),.v (.int .i64 c.term)]),.own 3 (.i64 x.2)]⟩)
  (fun x=>x.1 < c.ps.l.length∧x.2++abF c.ps.l x.1=abF c.ps.l p) (fun x=>x.1) (p,[]) [0,1] ⟨hp,rfl⟩ ?_ ?_
 ·simp (maxSteps:=10^6) only[push_cast,↓reduceIte,reduceCtorEq,Nat.reduceEqDiff,Nat.reduceLT,Nat.reduceAdd]
 rintro⟨q,acc⟩ ⟨hq,he⟩
 dsimp only at hq he
 have len_:∀(q:Nat),q < c.ps.l.length→(abF c.ps.l q).length≤16:=fun q hq=>by
  rw[Uf hst hq]
  by_cases e:q=0
  ·subst e
   rw[hst.root,Mz (by omega)]
   exact Nat.zero_le _
  ·have:=hst.up q (by omega) hq
   have:=Qi hst c.ps.l.length (ix c.ps.l q).parent (by omega) (by omega)
   omega
 by_cases h0:(0:Int) < q
 ·obtain⟨d0,e0⟩:=F.cell q 0 _ hq rfl
  rw[Nat.add_zero] at d0 e0
  have hu:=hst.up q (by omega) hq
  obtain⟨r,hr⟩:=Int.eq_ofNat_of_zero_le hu.1
  have hs:=Y2 hst (p:=q) (by omega) hq
  rw[hr,Int.toNat_natCast] at hs
  have hl1:acc.length+(abF c.ps.l q).length=(abF c.ps.l p).length:=by rw[←he,List.length_append]
  have hl2:=len_ p hp
  have b1:(acc.length+1)*8≤140737488355328:=by omega
  have b2:acc.length+1≤2 ^ 63 - 1:=by omega
  have q0:(0:Int)≤q:=by omega
  have q1:(q:Int) < c.ps.l.length:=by omega
  rw[hr] at d0
  simp (maxSteps:=10^6) only[h0,q0,q1,hA,d0,e0,b1,b2,Cb,Bf,undef,push_cast,↓Int.toNat_natCast,↓reduceIte,reduceCtorEq,Nat.reduceEqDiff,Nat.reduceLT,Nat.reduceLeDiff,Nat.reduceAdd]
  (repeat (refine And.intro (by first|omega|decide) ?_))
  refine Ay (r,acc++[(r:Int)]) [0,3] ⟨by show r < _;omega,by show (acc++[(r:Int)])++_=_;rw[List.append_assoc,List.singleton_append,←hs];exact he⟩ (by show r < q;omega) ?_
  simp (maxSteps:=10^6) only[push_cast,↓reduceIte,reduceCtorEq,Nat.reduceEqDiff,Nat.reduceLT,Nat.reduceAdd]
  done
 ·obtain rfl:q=0:=by omega
  rw[Y1 hst,List.append_nil] at he
  simp (maxSteps:=10^6) only[he,push_cast,↓Int.cast_ofNat_Int,Int.cast_ofNat_Int,↓reduceIte,Nat.reduceEqDiff,Nat.reduceLT,Nat.reduceAdd,Int.reduceLT]
  done
theorem A6r {w0:World} {hp:List Res} (p:Nat) (hc:c.Ok w0) (hst:StOk c.ps.l) (hp':p < c.ps.l.length) (hbr:∀r∈hp,Res.bnd hp.length r):Ae Tryz.prog w0 No 134 [.x (.g [.v (.int .i64 c.dim),.v (.slice c.ps.A c.ps.l.length c.ps.c),.v (.slice c.gs.A c.gs.l.length c.gs.c),.v (.int .i64 c.least),.v (.int .i64 c.term)]),.x (.a (.v (.int .i64 p)))] hp (.x (.a (.o hp.length))) (hp++[.own 3 (.i64 (abF c.ps.l p))]):=
 Ga hbr trivial fun γ w hS=>A6q c w p (hc.later hS) hst hp'
set_option maxRecDepth 100000 in
theorem A6s (p:Nat) (q:Int) (hc:c.Ok w) (hst:StOk c.ps.l) (hp:p < c.ps.l.length):Calls Tryz.prog 88 #[.agg (cfV c).toArray,.int .i64 p,.int .i64 q] w fun e w'=>e=.returned (.bool (decide ((p:Int)=q)||decide (q∈abF c.ps.l p)))∧Below w.heap.size w w':=by
 refine Bb (n:=27) Tryz.func88 rfl Tryz.ntmps88 [.x (.g [.v (.int .i64 c.dim),.v (.slice c.ps.A c.ps.l.length c.ps.c),.v (.slice c.gs.A c.gs.l.length c.gs.c),.v (.int .i64 c.least),.v (.int .i64 c.term)]),.x (.a (.v (.int .i64 p))),.x (.a (.v (.int .i64 q)))] (by simp) (.x (.a (.v (.bool (decide ((p:Int)=q)||decide (q∈abF c.ps.l p)))))) (fun _=>rfl) ?_
 by_cases h:(p:Int)=q
 ·have hd:(decide ((p:Int)=q)||decide (q∈abF c.ps.l p))=true:=by rw[decide_eq_true h];rfl
  rw[hd]
  simp (maxSteps:=10^6) only[h,push_cast,↓reduceIte,reduceCtorEq,Nat.reduceEqDiff,Nat.reduceLT,Nat.reduceAdd]
  done
 rw[decide_eq_false h,Bool.false_or]
 simp (maxSteps:=10^6) only[h,push_cast,↓reduceIte,reduceCtorEq,Nat.reduceEqDiff,Nat.reduceLT,Nat.reduceAdd]
 (repeat (refine And.intro (by first|omega|decide) ?_))
 refine Dx rfl Awu rfl (A6r c p hc hst hp (by simp (maxSteps:=10^6) only[push_cast])) (Af rfl) (by simp (maxSteps:=10^6) only[push_cast,Nat.reduceLT]) ?_
 obtain⟨L,hL⟩:∃L,L=abF c.ps.l p:=⟨_,rfl⟩
 rw[←hL]
 simp (maxSteps:=10^6) only[push_cast,↓reduceIte,Nat.reduceLT,Nat.reduceAdd]
 (repeat (refine And.intro (by first|omega|decide) ?_))
 refine Bc (ι:=Nat) (fun i=>⟨[(2,.x (.a (.v (.int .i64 q)))),(7,.x (.a (.o 1))),(8,.x (.a (.v (.int .i64 i))))],[.blk 25 (.c [.v (.int .i64 c.dim),.v (.slice c.ps.A c.ps.l.length c.ps.c),.v (.slice c.gs.A c.gs.l.length c.gs.c),.v (.int .i64 c.least),.v (.int .i64 c.term)]),.own 3 (.i64 L)]⟩) (fun i=>i≤L.length∧q∉L.take i) (fun i=>L.length - i) 0 [0,1] ⟨Nat.zero_le _,by simp⟩ ?_ ?_
 ·simp (maxSteps:=10^6) only[push_cast,↓Int.cast_ofNat_Int,Int.cast_ofNat_Int,↓reduceIte,reduceCtorEq,Nat.reduceEqDiff,Nat.reduceLT,Nat.reduceAdd]
 rintro i ⟨hi,hni⟩
 have hL16:L.length≤16:=by
  rw[hL,Uf hst hp]
  have hm:=hst.most
  by_cases e:p=0
  ·subst e
   rw[hst.root,Mz (by omega)]
   exact Nat.zero_le _
  ·have:=hst.up p (by omega) hp
   have:=Qi hst c.ps.l.length (ix c.ps.l p).parent (by omega) (by omega)
   omega
 by_cases hlt:(i:Int) < L.length
 ·have hil:i < L.length:=by omega
  have i0:(0:Int)≤i:=by omega
  have nx:(i:Int)+1≤9223372036854775807:=by omega
  have ht:=Ab4 (n:=q) hil
  by_cases he:ix L i=q
  ·have hin:q∈L:=by rw[←he];exact C4 hil
   have hd:=decide_eq_true hin
   simp (maxSteps:=10^6) only[hlt,i0,hil,he,hd,push_cast,↓Int.toNat_natCast,↓reduceIte,Nat.reduceEqDiff,Nat.reduceLT,Nat.reduceAdd]
   done
  ·simp (maxSteps:=10^6) only[hlt,i0,hil,he,nx,push_cast,↓Int.toNat_natCast,↓reduceIte,Nat.reduceEqDiff,Nat.reduceLT,Nat.reduceAdd,Int.reduceNeg]
   (repeat (refine And.intro (by first|omega|decide) ?_))
   refine Ay (i+1) [0,1] ⟨by omega,fun h=>(ht.1 h).elim hni he⟩ (by omega) ?_
   simp (maxSteps:=10^6) only[push_cast,↓reduceIte,reduceCtorEq,Nat.reduceEqDiff,Nat.reduceLT,Nat.reduceAdd]
   done
 ·obtain rfl:i=L.length:=by omega
  rw[List.take_length] at hni
  have hd:=decide_eq_false hni
  simp (maxSteps:=10^6) only[hlt,hd,push_cast,↓reduceIte,Nat.reduceEqDiff,Nat.reduceLT,Nat.reduceAdd]
  done
end
end Go.Proofs.YtedaafmfjhjfmaaGreatDoor
