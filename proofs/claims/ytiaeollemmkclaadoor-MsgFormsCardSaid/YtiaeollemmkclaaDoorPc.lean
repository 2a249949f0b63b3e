import Derived.Test.YtiaeollemmkclaaDoorShA
import Derived.Test.YtiaeollemmkclaaDoorOpn
import Derived.Test.YtiaeollemmkclaaDoorSetA
/- Peers as rows of two cells: may they be (layer 9), by the program and by the document; given as the program's (law 16). -/
namespace Go.Proofs.YtiaeollemmkclaaDoor
open Go.RowKit
set_option linter.unusedSimpArgs false
set_option linter.unusedVariables false
def fpP:UInt64:=2305843009213693951
attribute [local irreducible] Af Ad Av Bh Bf A6 Aw A9
abbrev Pr:=Int×UInt64
def pv (p:Pr):List Value:=[.int .i64 p.1,vU64 p.2]
theorem Jc (p:Pr):(pv p).length=2:=rfl
def pvs (l:List Pr):List Value:=l.flatMap pv
theorem O5 (l:List Pr):(pvs l).length=l.length*2:=O1 Jc l
structure FP (w0:World) (A:Option Addr) (l:List Pr):Prop where
 some_:0 < l.length→A.isSome=true
 c0:∀i,i < l.length→B2 w0 (Ar A (i*2))=.int .i64 (ix l i).1
 c1:∀i,i < l.length→B2 w0 (Ar A (i*2+1))=vU64 (ix l i).2
 ok0:∀i,i < l.length→C8 w0 No (Ar A (i*2))
 ok1:∀i,i < l.length→C8 w0 No (Ar A (i*2+1))
theorem FP.of {w0:World} {A:Option Addr} {l:List Pr} (hR:RdV w0 w0.heap.size A (pvs l)):FP w0 A l:=by
 have h:=FV.no hR
 have g0:∀i,i < l.length→(pvs l)[i*2]?=some (.int .i64 (ix l i).1):=fun i hi=>Lo Jc l i 0 hi (by omega)
 have g1:∀i,i < l.length→(pvs l)[i*2+1]?=some (vU64 (ix l i).2):=fun i hi=>Lo Jc l i 1 hi (by omega)
 exact⟨fun hp=>h.some_ (by rw[O5];omega),fun i hi=>(h.cell (g0 i hi)).1,fun i hi=>(h.cell (g1 i hi)).1,fun i hi=>(h.cell (g0 i hi)).2,fun i hi=>(h.cell (g1 i hi)).2⟩
def Hv (l:List Pr):Nat→Int
 |0=>-1
 |i+1=>(ix l i).1
theorem A1o (l:List Pr):Hv l 0=-1:=rfl
theorem A1p (l:List Pr) (i:Nat):Hv l (i+1)=(ix l i).1:=rfl
def Hd (l:List Pr) (i:Nat):Prop:=Hv l i < (ix l i).1∧(ix l i).1 < 64∧(ix l i).2≠0∧(ix l i).2 < fpP
instance (l:List Pr) (i:Nat):Decidable (Hd l i):=by unfold Hd;exact inferInstance
def may (l:List Pr):Bool:=(List.range l.length).all fun i=>decide (Hd l i)
theorem M5 {l:List Pr}:may l=true↔∀i,i < l.length→Hd l i:=by
 unfold may
 simp [List.all_eq_true]
theorem Hw {l:List Pr} {i:Nat} (hi:i < l.length) (h:¬Hd l i):may l=false:=by
 cases hm:may l
 ·rfl
 ·exact absurd (M5.1 hm i hi) h
theorem V2 {l:List Pr} (i:Nat) (h:∀j,j < i→Hd l j):(i:Int) - 1≤Hv l i:=by
 induction i with
 |zero=>simp [Hv]
 |succ i ih=>
  have h1:=ih fun j hj=>h j (by omega)
  have h2:=(h i (by omega)).1
  simp only[Hv]
  omega
theorem V3 {l:List Pr} (h:may l=true):l.length≤64:=by
 cases hl:l.length with
 |zero=>omega
 |succ n=>
  have h0:=M5.1 h
  have h1:=V2 (l:=l) (n+1) fun j hj=>h0 j (by omega)
  have h2:=(h0 n (by omega)).2.1
  simp only[Hv] at h1
  omega
def Fi (l:List Pr):Value:=if may l=true then .nilIface else .iface 137 (.int .i64 1)
theorem M6 {l:List Pr} (h:may l=false):Fi l=.iface 137 (.int .i64 1):=by unfold Fi;rw[h];rfl
theorem Abn {l:List Pr} (h:may l=true):Fi l=.nilIface:=by unfold Fi;rw[h];rfl
theorem M7 {a b:UInt64}:¬a≤b↔b < a:=by rw[UInt64.le_iff_toNat_le,UInt64.lt_iff_toNat_lt];omega
set_option maxRecDepth 100000 in
theorem A1q (l:List Pr) (A:Option Addr) (c:Nat) (w:World) (hR:RdV w w.heap.size A (pvs l)):Calls Tryd.prog 137 #[.slice A l.length c] w fun e w'=>e=.returned (Fi l)∧Below w.heap.size w w':=by
 have F:=FP.of hR
 refine By (n:=39) Tryd.func137 rfl Tryd.ntmps137 [.x (.a (.v (.slice A l.length c)))] (by simp) (.x (.a (.v (Fi l)))) (fun _=>rfl) ?_
 by_cases h64:(64:Int) < l.length
 ·have hm:may l=false:=by
   cases hm:may l
   ·rfl
   ·have:=V3 hm;omega
  simp only[h64,M6 hm,push_cast,↓reduceIte,reduceCtorEq,Nat.reduceLT,Int.reduceNeg]
 simp only[h64,push_cast,↓reduceIte,reduceCtorEq,Nat.reduceLT,Int.reduceNeg]
 refine Bu (ι:=Nat) (fun i=>⟨[(3,.x (.a (.v (.int .i64 (Hv l i))))),(10,.x (.a (.v (.slice A l.length c)))),(11,.x (.a (.v (.int .i64 l.length)))),(12,.x (.a (.v (.int .i64 i))))],[]⟩) (fun i=>i≤l.length∧∀j,j < i→Hd l j) (fun i=>l.length - i) 0 [] ⟨by omega,fun j h=>by omega⟩ ?_ ?_
 ·simp only[A1o,push_cast,↓Int.cast_ofNat_Int,Int.cast_ofNat_Int,↓reduceIte,Nat.reduceEqDiff,Int.reduceNeg]
 ·rintro i ⟨hi,hj⟩
  by_cases hlt:(i:Int) < l.length
  ·have i0:(0:Int)≤i:=by omega
   have c0:=F.c0 i (by omega)
   have c1:=F.c1 i (by omega)
   have o0:=F.ok0 i (by omega)
   have o1:=F.ok1 i (by omega)
   have hA:=F.some_ (by omega)
   by_cases h1:(ix l i).1≤Hv l i
   ·have hm:=Hw (l:=l) (i:=i) (by omega) (fun h=>by have:=h.1;omega)
    simp only[hlt,i0,c0,c1,o0,o1,hA,h1,M6 hm,Cg,Dl,Db,undef,push_cast,↓Int.toNat_natCast,↓reduceIte,reduceCtorEq,Nat.reduceEqDiff,Nat.reduceLT,Nat.reduceAdd]
   by_cases h2:(64:Int)≤(ix l i).1
   ·have hm:=Hw (l:=l) (i:=i) (by omega) (fun h=>by have:=h.2.1;omega)
    simp only[hlt,i0,c0,c1,o0,o1,hA,h1,h2,M6 hm,Cg,Dl,Db,undef,push_cast,↓Int.toNat_natCast,↓reduceIte,reduceCtorEq,Nat.reduceEqDiff,Nat.reduceLT,Nat.reduceAdd]
   by_cases h3:(ix l i).2=0
   ·have hm:=Hw (l:=l) (i:=i) (by omega) (fun h=>h.2.2.1 h3)
    simp only[hlt,i0,c0,c1,o0,o1,hA,h1,h2,h3,M6 hm,Cg,Dl,Db,undef,push_cast,↓Int.toNat_natCast,↓reduceIte,reduceCtorEq,Nat.reduceEqDiff,Nat.reduceLT,Nat.reduceAdd]
   by_cases h4:(2305843009213693951:UInt64)≤(ix l i).2
   ·have hm:=Hw (l:=l) (i:=i) (by omega) (fun h=>M7.2 h.2.2.2 h4)
    simp only[hlt,i0,c0,c1,o0,o1,hA,h1,h2,h3,h4,M6 hm,Cg,Dl,Db,undef,push_cast,↓Int.toNat_natCast,↓reduceIte,reduceCtorEq,Nat.reduceEqDiff,Nat.reduceLT,Nat.reduceAdd]
   have hg:Hd l i:=⟨by omega,by omega,h3,M7.1 h4⟩
   simp only[hlt,i0,c0,c1,o0,o1,hA,h1,h2,h3,h4,Cg,Dl,Db,undef,push_cast,↓Int.toNat_natCast,↓reduceIte,reduceCtorEq,Nat.reduceEqDiff,Nat.reduceLT,Nat.reduceAdd,Int.reduceNeg]
   (repeat (refine And.intro (by first|omega|decide) ?_))
   refine Bd (i+1) [] ⟨by omega,fun j hjl=>?_⟩ (by omega) ?_
   ·by_cases e:j=i
    ·rw[e];exact hg
    ·exact hj j (by omega)
   ·simp only[A1p,push_cast,↓reduceIte,Nat.reduceEqDiff]
  ·have hm:may l=true:=M5.2 fun j h=>hj j (by omega)
   simp only[hlt,Abn hm,push_cast,↓reduceIte,Nat.reduceEqDiff,Nat.reduceLT]
set_option maxHeartbeats 8000000 in
set_option maxRecDepth 100000 in
theorem A1r (l:List Pr) (A:Option Addr) (c:Nat) (w:World) (hl:l.length≤1000000) (hR:RdV w w.heap.size A (pvs l)):Calls Tryd.prog 131 #[.slice A l.length c] w fun e w'=>e=.returned (.bool (may l))∧Below w.heap.size w w':=by
 have F:=FP.of hR
 refine By (n:=58) Tryd.func131 rfl Tryd.ntmps131 [.x (.a (.v (.slice A l.length c)))] (by simp) (.x (.a (.v (.bool (may l))))) (fun _=>rfl) ?_
 simp only[push_cast,↓reduceIte,Nat.reduceLT]
 refine Bu (ι:=Nat) (fun i=>⟨[(0,.x (.a (.v (.slice A l.length c)))),(3,.x (.a (.v (.int .i64 i))))],[]⟩) (fun i=>i≤l.length∧∀j,j < i→Hd l j) (fun i=>l.length - i) 0 [] ⟨by omega,fun j h=>by omega⟩ ?_ ?_
 ·simp only[push_cast,↓Int.cast_ofNat_Int,Int.cast_ofNat_Int,↓reduceIte,reduceCtorEq]
 ·rintro i ⟨hi,hj⟩
  have hge:=V2 i hj
  by_cases hlt:(i:Int) < l.length
  ·have i0:(0:Int)≤i:=by omega
   have c0:=F.c0 i (by omega)
   have c1:=F.c1 i (by omega)
   have o0:=F.ok0 i (by omega)
   have o1:=F.ok1 i (by omega)
   have hA:=F.some_ (by omega)
   simp only[hlt,push_cast,↓reduceIte,reduceCtorEq,Nat.reduceEqDiff,Nat.reduceLT]
   refine Ew ((0,true)::(1,true)::(2,true)::(3,true)::(4,true)::(5,true)::(6,true)::(7,true)::(8,true)::(9,true)::(10,true)::(11,true)::(12,true)::(13,true)::(14,true)::(15,true)::(16,true)::(17,true)::(18,true)::(19,true)::(20,true)::(21,true)::(22,true)::(23,true)::(24,true)::(25,true)::(26,true)::(27,true)::(28,true)::(29,true)::(30,true)::(31,true)::(32,true)::(33,true)::(34,true)::(35,true)::(36,true)::(37,true)::(38,true)::(39,true)::(40,true)::(41,true)::(42,true)::(43,true)::(44,true)::(45,true)::(46,true)::(47,true)::[]) (by kernel_rfl) (by kernel_rfl) rfl (by kernel_rfl) ?_
   by_cases h1:(ix l i).1 < 0
   ·have hm:=Hw (l:=l) (i:=i) (by omega) (fun h=>by have:=h.1;omega)
    simp (maxSteps:=10^7) only[hlt,i0,c0,o0,hA,h1,hm,Cg,Db,undef,push_cast,↓Int.toNat_natCast,↓reduceIte,reduceCtorEq,Nat.reduceEqDiff,Nat.reduceLT]
   by_cases h2:(63:Int) < (ix l i).1
   ·have hm:=Hw (l:=l) (i:=i) (by omega) (fun h=>by have:=h.2.1;omega)
    simp (maxSteps:=10^7) only[hlt,i0,c0,o0,hA,h1,h2,hm,Cg,Db,undef,push_cast,↓Int.toNat_natCast,↓reduceIte,reduceCtorEq,Nat.reduceEqDiff,Nat.reduceLT]
   by_cases h0:(0:Int) < i
   ·have e0:=F.c0 (i - 1) (by omega)
    have p0:=F.ok0 (i - 1) (by omega)
    have hk:((i:Int) - 1).toNat=i - 1:=by omega
    have hk2:(0:Int)≤(i:Int) - 1:=by omega
    have hk3:(i:Int) - 1 < l.length:=by omega
    have hla:Hv l i=(ix l (i - 1)).1:=by
     obtain⟨k,rfl⟩:∃k,i=k+1:=⟨i - 1,by omega⟩
     rfl
    by_cases h5:(ix l i).1≤(ix l (i - 1)).1
    ·have hm:=Hw (l:=l) (i:=i) (by omega) (fun h=>by have:=h.1;omega)
     simp (maxSteps:=10^7) only[hlt,i0,c0,o0,e0,p0,hk,hk2,hk3,hA,h1,h2,h0,h5,hm,Cg,Db,undef,push_cast,↓Int.toNat_natCast,↓reduceIte,reduceCtorEq,Nat.reduceEqDiff,Nat.reduceLT,Int.reduceNeg]
     all_goals omega
    by_cases h3:(ix l i).2=0
    ·have hm:=Hw (l:=l) (i:=i) (by omega) (fun h=>h.2.2.1 h3)
     simp (maxSteps:=10^7) only[hlt,i0,c0,c1,o0,o1,e0,p0,hk,hk2,hk3,hA,h1,h2,h0,h5,h3,hm,Cg,Dl,Db,undef,push_cast,↓Int.toNat_natCast,↓reduceIte,reduceCtorEq,Nat.reduceEqDiff,Nat.reduceLT,Int.reduceNeg]
     all_goals omega
    by_cases h4:(2305843009213693951:UInt64)≤(ix l i).2
    ·have hm:=Hw (l:=l) (i:=i) (by omega) (fun h=>M7.2 h.2.2.2 h4)
     simp (maxSteps:=10^7) only[hlt,i0,c0,c1,o0,o1,e0,p0,hk,hk2,hk3,hA,h1,h2,h0,h5,h3,h4,hm,Cg,Dl,Db,push_cast,↓Int.toNat_natCast,↓reduceIte,reduceCtorEq,Nat.reduceEqDiff,Nat.reduceLT,Int.reduceNeg]
     all_goals omega
    have hg:Hd l i:=⟨by omega,by omega,h3,M7.1 h4⟩
    simp (maxSteps:=10^7) only[hlt,i0,c0,c1,o0,o1,e0,p0,hk,hk2,hk3,hA,h1,h2,h0,h5,h3,h4,Cg,Dl,Db,push_cast,↓Int.toNat_natCast,↓reduceIte,reduceCtorEq,Nat.reduceEqDiff,Nat.reduceLT,Int.reduceNeg]
    (repeat (refine And.intro (by first|omega|decide) ?_))
    refine Bd (i+1) [] ⟨by omega,fun j hjl=>?_⟩ (by omega) ?_
    ·by_cases e:j=i
     ·rw[e];exact hg
     ·exact hj j (by omega)
    ·simp only[push_cast,↓reduceIte,reduceCtorEq]
   ·have hi0:i=0:=by omega
    have hla:Hv l i=-1:=by rw[hi0];rfl
    by_cases h3:(ix l i).2=0
    ·have hm:=Hw (l:=l) (i:=i) (by omega) (fun h=>h.2.2.1 h3)
     simp (maxSteps:=10^7) only[hlt,i0,c0,c1,o0,o1,hA,h1,h2,h0,h3,hm,Cg,Dl,Db,undef,push_cast,↓Int.toNat_natCast,↓reduceIte,reduceCtorEq,Nat.reduceEqDiff,Nat.reduceLT]
    by_cases h4:(2305843009213693951:UInt64)≤(ix l i).2
    ·have hm:=Hw (l:=l) (i:=i) (by omega) (fun h=>M7.2 h.2.2.2 h4)
     simp (maxSteps:=10^7) only[hlt,i0,c0,c1,o0,o1,hA,h1,h2,h0,h3,h4,hm,Cg,Dl,Db,undef,push_cast,↓Int.toNat_natCast,↓reduceIte,reduceCtorEq,Nat.reduceEqDiff,Nat.reduceLT]
    have hg:Hd l i:=⟨by omega,by omega,h3,M7.1 h4⟩
    simp (maxSteps:=10^7) only[hlt,i0,c0,c1,o0,o1,hA,h1,h2,h0,h3,h4,Cg,Dl,Db,undef,push_cast,↓Int.toNat_natCast,↓reduceIte,reduceCtorEq,Nat.reduceEqDiff,Nat.reduceLT,Int.reduceNeg]
    (repeat (refine And.intro (by first|omega|decide) ?_))
    refine Bd (i+1) [] ⟨by omega,fun j hjl=>?_⟩ (by omega) ?_
    ·by_cases e:j=i
     ·rw[e];exact hg
     ·exact hj j (by omega)
    ·simp only[push_cast,↓reduceIte,reduceCtorEq]
  ·have hm:may l=true:=M5.2 fun j h=>hj j (by omega)
   simp only[hlt,hm,push_cast,↓reduceIte,reduceCtorEq,Nat.reduceEqDiff,Nat.reduceLT]
section
variable {w0:World} {hp:List Res} {sv:Sv} {l:List Pr}
theorem A1s (h:Kb w0 No hp sv l.length (pvs l)):Ad Tryd.prog w0 No 137 [sv] hp (.x (.a (.v (Fi l)))) hp:=Ca fun γ w hS=>by
 obtain⟨A,c,e1,_,r1⟩:=h γ w hS
 show Calls _ _ #[sv.val γ] w _
 rw[e1]
 exact A1q l A c w r1
theorem A1t (hl:l.length≤1000000) (h:Kb w0 No hp sv l.length (pvs l)):Ad Tryd.prog w0 No 131 [sv] hp (.x (.a (.v (.bool (may l))))) hp:=Ca fun γ w hS=>by
 obtain⟨A,c,e1,_,r1⟩:=h γ w hS
 show Calls _ _ #[sv.val γ] w _
 rw[e1]
 exact A1r l A c w hl r1
end
def pcs (l:List Pr):List At:=l.flatMap fun p=>[.v (.int .i64 p.1),.v (vU64 p.2)]
theorem Jd:pcs []=[]:=rfl
theorem Ip (p:Pr) (l:List Pr):pcs (p::l)=.v (.int .i64 p.1):: .v (vU64 p.2)::pcs l:=rfl
theorem V4 (l m:List Pr):pcs (l++m)=pcs l++pcs m:=by unfold pcs;rw[List.flatMap_append]
theorem Sl (l:List Pr):(pcs l).length=l.length*2:=by
 induction l with
 |nil=>rfl
 |cons p l ih=>rw[Ip];simp only[List.length_cons,ih];omega
theorem V5 (γ:List Nm) (l:List Pr):(pcs l).map (At.val γ)=pvs l:=by
 induction l with
 |nil=>rfl
 |cons p l ih=>rw[Ip,List.map_cons,List.map_cons,ih];rfl
theorem Bq (ρ:List Nat) (l:List Pr):(pcs l).map (At.ren ρ)=pcs l:=by
 induction l with
 |nil=>rfl
 |cons p l ih=>rw[Ip,List.map_cons,List.map_cons,ih];rfl
theorem Ag {Q:At→Prop} (l:List Pr):(∀x∈pcs l,Q x)=∀p∈l,Q (.v (.int .i64 p.1))∧Q (.v (vU64 p.2)):=by
 apply propext
 induction l with
 |nil=>simp [Jd]
 |cons p l ih=>
  rw[Ip,List.forall_mem_cons,List.forall_mem_cons,List.forall_mem_cons,ih,and_assoc]
theorem Abo (l:List Pr) (i:Nat) (h:i < l.length):pcs (l.take i)++[.v (.int .i64 (ix l i).1),.v (vU64 (ix l i).2)]=pcs (l.take (i+1)):=by
 have e:ix l i=l[i]:=by simp [ix,List.getD_eq_getElem?_getD,List.getElem?_eq_getElem h]
 rw[List.take_add_one,List.getElem?_eq_getElem h,Option.toList_some,V4,e]
 rfl
attribute [push_cast] Bq Sl Ag
attribute [irreducible] pcs
theorem Sm {w0:World} {ow:Nat→Prop} {hp:List Res} {k:Nat} {e:TypeId} {l:List Pr} (hr:hp[k]?=some (.onn e 2 (.c (pcs l)))):Kb w0 ow hp (.x (.a (.o k))) l.length (pvs l):=
 A05 hr (fun γ=>V5 γ l) (O5 l)
set_option maxRecDepth 100000 in
theorem A1u (l:List Pr) (A:Option Addr) (c:Nat) (w:World) (hl:l.length≤1000) (hR:RdV w w.heap.size A (pvs l)):Calls Tryd.prog 90 #[.slice A l.length c] w fun e w'=>∃γ1,e=.returned ((Sv.x (.a (.o 0))).val γ1)∧Sat w No γ1 [.onn 160 2 (.c (pcs l))] w':=by
 have F:=FP.of hR
 refine Cy (n:=19) Tryd.func90 rfl Tryd.ntmps90 [.x (.a (.v (.slice A l.length c)))] (Sat.init w No) (by simp) _ _ ?_
 simp only[push_cast,↓reduceIte,Nat.reduceLT]
 refine Aay 3 160 2 (.c []) (by omega) rfl rfl (by simp only[push_cast]) ?_
 refine Bu (ι:=Nat) (fun i=>⟨[(0,.x (.a (.v (.slice A l.length c)))),(3,.x (.a (.o 0))),(4,.x (.a (.v (.int .i64 i))))],[.onn 160 2 (.c (pcs (l.take i)))]⟩) (fun i=>i≤l.length) (fun i=>l.length - i) 0 [0] (by omega) ?_ ?_
 ·simp only[List.take_zero,Jd,push_cast,↓Int.cast_ofNat_Int,Int.cast_ofNat_Int,↓reduceIte,reduceCtorEq,Nat.reduceEqDiff,Nat.reduceLT]
 ·intro i hi
  by_cases hlt:(i:Int) < l.length
  ·have i0:(0:Int)≤i:=by omega
   have c0:=F.c0 i (by omega)
   have c1:=F.c1 i (by omega)
   have o0:=F.ok0 i (by omega)
   have o1:=F.ok1 i (by omega)
   have hA:=F.some_ (by omega)
   have hlen:(l.take i).length=i:=by rw[List.length_take];omega
   have ht:=Abo l i (by omega)
   simp only[hlt,i0,c0,c1,o0,o1,hA,hlen,ht,Cg,Dl,Db,push_cast,↓Int.toNat_natCast,↓reduceIte,reduceCtorEq,Nat.reduceEqDiff,Nat.reduceLT,Nat.reduceLeDiff,Nat.reduceAdd,Nat.reduceMul,Int.reduceNeg]
   (repeat (refine And.intro (by first|omega|decide) ?_))
   refine Bd (i+1) [2] (by omega) (by omega) ?_
   simp only[push_cast,↓reduceIte,reduceCtorEq,Nat.reduceEqDiff,Nat.reduceLT]
  ·have e:i=l.length:=by omega
   subst e
   simp only[hlt,List.take_length,push_cast,↓reduceIte,reduceCtorEq,Nat.reduceEqDiff,Nat.reduceLT]
   refine Bp [0] ?_
   simp only[push_cast,↓reduceIte,Nat.reduceLT]
theorem Abp {w0:World} {hp:List Res} {sv:Sv} {l:List Pr} (hl:l.length≤1000) (h:Kb w0 No hp sv l.length (pvs l)) (hbr:∀r∈hp,Res.bnd hp.length r):
  Ad Tryd.prog w0 No 90 [sv] hp (.x (.a (.o hp.length))) (hp++[.onn 160 2 (.c (pcs l))]):=by
 have:=My (P:=Tryd.prog) (f:=90) (svs:=[sv]) (w0:=w0) (ow:=No) (sv1:=.x (.a (.o 0))) (hp1:=[.onn 160 2 (.c (pcs l))]) [] hbr (by simp only[push_cast]) (by simp only[push_cast,Nat.reduceLT])
  fun γ w hS=>⟨No,fun b h=>h.elim,by
   obtain⟨A,c,e1,b1,r1⟩:=h γ w hS
   show Calls _ _ #[sv.val γ] w _
   rw[e1]
   exact A1u l A c w hl r1⟩
 simp only[goneAll,A7,push_cast] at this
 exact this
end Go.Proofs.YtiaeollemmkclaaDoor
