import Derived.Test.YtedaafmfjhjfmaaGreatDoorShA
import Derived.Test.YtedaafmfjhjfmaaGreatDoorTy
import Derived.Test.YtedaafmfjhjfmaaGreatDoorPk0
/- What came in reads as it did later on. No program in sight. -/
namespace Go.Proofs.YtedaafmfjhjfmaaGreatDoor
open Go.RowKit
set_option linter.unusedSimpArgs false
section
variable {w0:World} {hp:List Res}
theorem Cl {γ:List Nm} {w:World} {A:Option Addr} {vs:List Value} (h:RdV w0 w0.heap.size A vs) (hS:Sat w0 No γ hp w):RdV w w.heap.size A vs:=(h.below (Gv hS.keeps)).more (Gv hS.keeps).size
end
attribute [push_cast] beq_self_eq_true
end Go.Proofs.YtedaafmfjhjfmaaGreatDoor
/- SetA: Bl0, Set0, joined. -/
/- Where something is first in a list. No program in sight. -/
namespace Go.Proofs.YtedaafmfjhjfmaaGreatDoor
open Go.RowKit
set_option linter.unusedSimpArgs false
abbrev A8c (n:Int):Value:=.int .i64 n
theorem C4 {α:Type} [Inhabited α] {l:List α} {i:Nat} (h:i < l.length):ix l i∈l:=by
 simp only[ix,List.getD_eq_getElem?_getD,List.getElem?_eq_getElem h,Option.getD_some]
 exact List.getElem_mem h
def Ax9 (F:Nat→Bool) (n:Nat):Int:=match (List.range n).find? F with|some k=>k|none=>-1
def A8d (l:List Int) (n:Int):Bool:=l.any fun x=>decide (x=n)
def A8e (l:List Int) (n:Int):Int:=Ax9 (fun i=>decide (ix l i=n)) l.length
end Go.Proofs.YtedaafmfjhjfmaaGreatDoor
/- slices.Index, slices.Contains on whole numbers: where a number is first, and whether. -/
namespace Go.Proofs.YtedaafmfjhjfmaaGreatDoor
open Go.RowKit
set_option linter.unusedSimpArgs false
attribute [local irreducible] Ad Ae Ah Au Am Ap Ai Ao
end Go.Proofs.YtedaafmfjhjfmaaGreatDoor
/- Peers as rows of two cells: may they be (layer 9), by the program and by the document; given as the program's (law 16). -/
namespace Go.Proofs.YtedaafmfjhjfmaaGreatDoor
open Go.RowKit
set_option linter.unusedSimpArgs false
set_option linter.unusedVariables false
def fpP:UInt64:=2305843009213693951
attribute [local irreducible] Ad Ae Ah Au Am Ap Ai Ao
abbrev Pr:=Int×UInt64
def pv (p:Pr):List Value:=[.int .i64 p.1,vU64 p.2]
theorem Pu (p:Pr):(pv p).length=2:=rfl
def pvs (l:List Pr):List Value:=l.flatMap pv
theorem Mo (l:List Pr):(pvs l).length=l.length*2:=Cc Pu l
structure FP (w0:World) (A:Option Addr) (l:List Pr):Prop where
 some_:0 < l.length→A.isSome=true
 c0:∀i,i < l.length→Az w0 (Ag A (i*2))=.int .i64 (ix l i).1
 c1:∀i,i < l.length→Az w0 (Ag A (i*2+1))=vU64 (ix l i).2
 ok0:∀i,i < l.length→C6 w0 No (Ag A (i*2))
 ok1:∀i,i < l.length→C6 w0 No (Ag A (i*2+1))
theorem FP.of {w0:World} {A:Option Addr} {l:List Pr} (hR:RdV w0 w0.heap.size A (pvs l)):FP w0 A l:=by
 have h:=FV.no hR
 have g0:∀i,i < l.length→(pvs l)[i*2]?=some (.int .i64 (ix l i).1):=fun i hi=>Im Pu l i 0 hi (by omega)
 have g1:∀i,i < l.length→(pvs l)[i*2+1]?=some (vU64 (ix l i).2):=fun i hi=>Im Pu l i 1 hi (by omega)
 exact⟨fun hp=>h.some_ (by rw[Mo];omega),fun i hi=>(h.cell (g0 i hi)).1,fun i hi=>(h.cell (g1 i hi)).1,fun i hi=>(h.cell (g0 i hi)).2,fun i hi=>(h.cell (g1 i hi)).2⟩
def Hn (l:List Pr):Nat→Int
 |0=>-1
 |i+1=>(ix l i).1
theorem Aya (l:List Pr):Hn l 0=-1:=rfl
theorem Ayb (l:List Pr) (i:Nat):Hn l (i+1)=(ix l i).1:=rfl
def Ho (l:List Pr) (i:Nat):Prop:=Hn l i < (ix l i).1∧(ix l i).1 < 64∧(ix l i).2≠0∧(ix l i).2 < fpP
instance (l:List Pr) (i:Nat):Decidable (Ho l i):=by unfold Ho;exact inferInstance
def may (l:List Pr):Bool:=(List.range l.length).all fun i=>decide (Ho l i)
theorem Mq {l:List Pr}:may l=true↔∀i,i < l.length→Ho l i:=by
 unfold may
 simp [List.all_eq_true]
theorem Pv {l:List Pr} {i:Nat} (hi:i < l.length) (h:¬Ho l i):may l=false:=by
 cases hm:may l
 ·rfl
 ·exact absurd (Mq.1 hm i hi) h
theorem Y3 {l:List Pr} (i:Nat) (h:∀j,j < i→Ho l j):(i:Int) - 1≤Hn l i:=by
 induction i with
 |zero=>simp [Hn]
 |succ i ih=>
  have h1:=ih fun j hj=>h j (by omega)
  have h2:=(h i (by omega)).1
  simp only[Hn]
  omega
theorem Y4 {l:List Pr} (h:may l=true):l.length≤64:=by
 cases hl:l.length with
 |zero=>omega
 |succ n=>
  have h0:=Mq.1 h
  have h1:=Y3 (l:=l) (n+1) fun j hj=>h0 j (by omega)
  have h2:=(h0 n (by omega)).2.1
  simp only[Hn] at h1
  omega
def G7 (l:List Pr):Value:=if may l=true then .nilIface else .iface 91 (.int .i64 1)
theorem Kz {l:List Pr} (h:may l=false):G7 l=.iface 91 (.int .i64 1):=by unfold G7;rw[h];rfl
theorem Y5 {l:List Pr} (h:may l=true):G7 l=.nilIface:=by unfold G7;rw[h];rfl
theorem Y6 {a b:UInt64}:¬a≤b↔b < a:=by rw[UInt64.le_iff_toNat_le,UInt64.lt_iff_toNat_lt];omega
set_option maxRecDepth 100000 in
theorem Ayc (l:List Pr) (A:Option Addr) (c:Nat) (w:World) (hR:RdV w w.heap.size A (pvs l)):Calls Tryz.prog 149 #[.slice A l.length c] w fun e w'=>e=.returned (G7 l)∧Below w.heap.size w w':=by
 have F:=FP.of hR
 refine Bb (n:=39) Tryz.func149 rfl Tryz.ntmps149 [.x (.a (.v (.slice A l.length c)))] (by simp) (.x (.a (.v (G7 l)))) (fun _=>rfl) ?_
 by_cases h64:(64:Int) < l.length
 ·have hm:may l=false:=by
   cases hm:may l
   ·rfl
   ·have:=Y4 hm;omega
  simp only[h64,Kz hm,push_cast,↓reduceIte,reduceCtorEq,Nat.reduceLT,Int.reduceNeg]
 simp only[h64,push_cast,↓reduceIte,reduceCtorEq,Nat.reduceLT,Int.reduceNeg]
 refine Bc (ι:=Nat) (fun i=>⟨[(3,.x (.a (.v (.int .i64 (Hn l i))))),(10,.x (.a (.v (.slice A l.length c)))),(11,.x (.a (.v (.int .i64 l.length)))),(12,.x (.a (.v (.int .i64 i))))],[]⟩) (fun i=>i≤l.length∧∀j,j < i→Ho l j) (fun i=>l.length - i) 0 [] ⟨by omega,fun j h=>by omega⟩ ?_ ?_
 ·simp only[Aya,push_cast,↓Int.cast_ofNat_Int,Int.cast_ofNat_Int,↓reduceIte,Nat.reduceEqDiff,Int.reduceNeg]
 ·rintro i ⟨hi,hj⟩
  by_cases hlt:(i:Int) < l.length
  ·have i0:(0:Int)≤i:=by omega
   have c0:=F.c0 i (by omega)
   have c1:=F.c1 i (by omega)
   have o0:=F.ok0 i (by omega)
   have o1:=F.ok1 i (by omega)
   have hA:=F.some_ (by omega)
   by_cases h1:(ix l i).1≤Hn l i
   ·have hm:=Pv (l:=l) (i:=i) (by omega) (fun h=>by have:=h.1;omega)
    simp only[hlt,i0,c0,c1,o0,o1,hA,h1,Kz hm,Cb,Bu,Bf,undef,push_cast,↓Int.toNat_natCast,↓reduceIte,reduceCtorEq,Nat.reduceEqDiff,Nat.reduceLT,Nat.reduceAdd]
   by_cases h2:(64:Int)≤(ix l i).1
   ·have hm:=Pv (l:=l) (i:=i) (by omega) (fun h=>by have:=h.2.1;omega)
    simp only[hlt,i0,c0,c1,o0,o1,hA,h1,h2,Kz hm,Cb,Bu,Bf,undef,push_cast,↓Int.toNat_natCast,↓reduceIte,reduceCtorEq,Nat.reduceEqDiff,Nat.reduceLT,Nat.reduceAdd]
   by_cases h3:(ix l i).2=0
   ·have hm:=Pv (l:=l) (i:=i) (by omega) (fun h=>h.2.2.1 h3)
    simp only[hlt,i0,c0,c1,o0,o1,hA,h1,h2,h3,Kz hm,Cb,Bu,Bf,undef,push_cast,↓Int.toNat_natCast,↓reduceIte,reduceCtorEq,Nat.reduceEqDiff,Nat.reduceLT,Nat.reduceAdd]
   by_cases h4:(2305843009213693951:UInt64)≤(ix l i).2
   ·have hm:=Pv (l:=l) (i:=i) (by omega) (fun h=>Y6.2 h.2.2.2 h4)
    simp only[hlt,i0,c0,c1,o0,o1,hA,h1,h2,h3,h4,Kz hm,Cb,Bu,Bf,undef,push_cast,↓Int.toNat_natCast,↓reduceIte,reduceCtorEq,Nat.reduceEqDiff,Nat.reduceLT,Nat.reduceAdd]
   have hg:Ho l i:=⟨by omega,by omega,h3,Y6.1 h4⟩
   simp only[hlt,i0,c0,c1,o0,o1,hA,h1,h2,h3,h4,Cb,Bu,Bf,undef,push_cast,↓Int.toNat_natCast,↓reduceIte,reduceCtorEq,Nat.reduceEqDiff,Nat.reduceLT,Nat.reduceAdd,Int.reduceNeg]
   (repeat (refine And.intro (by first|omega|decide) ?_))
   refine Ay (i+1) [] ⟨by omega,fun j hjl=>?_⟩ (by omega) ?_
   ·by_cases e:j=i
    ·rw[e];exact hg
    ·exact hj j (by omega)
   ·simp only[Ayb,push_cast,↓reduceIte,Nat.reduceEqDiff]
  ·have hm:may l=true:=Mq.2 fun j h=>hj j (by omega)
   simp only[hlt,Y5 hm,push_cast,↓reduceIte,Nat.reduceEqDiff,Nat.reduceLT]
section
variable {w0:World} {hp:List Res} {sv:Sv} {l:List Pr}
theorem Ayd (h:Gy w0 No hp sv l.length (pvs l)):Ae Tryz.prog w0 No 149 [sv] hp (.x (.a (.v (G7 l)))) hp:=Ba fun γ w hS=>by
 obtain⟨A,c,e1,_,r1⟩:=h γ w hS
 show Calls _ _ #[sv.val γ] w _
 rw[e1]
 exact Ayc l A c w r1
end
def pcs (l:List Pr):List At:=l.flatMap fun p=>[.v (.int .i64 p.1),.v (vU64 p.2)]
theorem Y7:pcs []=[]:=rfl
theorem Pw (p:Pr) (l:List Pr):pcs (p::l)=.v (.int .i64 p.1):: .v (vU64 p.2)::pcs l:=rfl
theorem Aye (l m:List Pr):pcs (l++m)=pcs l++pcs m:=by unfold pcs;rw[List.flatMap_append]
theorem Ayf (l:List Pr):(pcs l).length=l.length*2:=by
 induction l with
 |nil=>rfl
 |cons p l ih=>rw[Pw];simp only[List.length_cons,ih];omega
theorem T3 (γ:List Nm) (l:List Pr):(pcs l).map (At.val γ)=pvs l:=by
 induction l with
 |nil=>rfl
 |cons p l ih=>rw[Pw,List.map_cons,List.map_cons,ih];rfl
theorem Jx (ρ:List Nat) (l:List Pr):(pcs l).map (At.ren ρ)=pcs l:=by
 induction l with
 |nil=>rfl
 |cons p l ih=>rw[Pw,List.map_cons,List.map_cons,ih];rfl
theorem G8 {Q:At→Prop} (l:List Pr):(∀x∈pcs l,Q x)=∀p∈l,Q (.v (.int .i64 p.1))∧Q (.v (vU64 p.2)):=by
 apply propext
 induction l with
 |nil=>simp [Y7]
 |cons p l ih=>
  rw[Pw,List.forall_mem_cons,List.forall_mem_cons,List.forall_mem_cons,ih,and_assoc]
theorem Ayg (l:List Pr) (i:Nat) (h:i < l.length):pcs (l.take i)++[.v (.int .i64 (ix l i).1),.v (vU64 (ix l i).2)]=pcs (l.take (i+1)):=by
 have e:ix l i=l[i]:=by simp [ix,List.getD_eq_getElem?_getD,List.getElem?_eq_getElem h]
 rw[List.take_add_one,List.getElem?_eq_getElem h,Option.toList_some,Aye,e]
 rfl
attribute [push_cast] Jx Ayf G8
attribute [irreducible] pcs
end Go.Proofs.YtedaafmfjhjfmaaGreatDoor
