import Derived.Test.YtedaafmfjhjfmaaGreatDoorShA
import Derived.Test.YtedaafmfjhjfmaaGreatDoorTy
import Derived.Test.YtedaafmfjhjfmaaGreatDoorOpn
/- What came in reads as it did later on. No program in sight. -/
namespace Go.Proofs.YtedaafmfjhjfmaaGreatDoor
open Go.RowKit
set_option linter.unusedSimpArgs false
section
variable {w0:World} {hp:List Res}
theorem Cn {γ:List Nm} {w:World} {A:Option Addr} {vs:List Value} (h:RdV w0 w0.heap.size A vs) (hS:Sat w0 No γ hp w):RdV w w.heap.size A vs:=(h.below (Gl hS.keeps)).more (Gl hS.keeps).size
end
attribute [push_cast] beq_self_eq_true
end Go.Proofs.YtedaafmfjhjfmaaGreatDoor
/- SetA: Bl0, Set0, joined. -/
/- Where something is first in a list. No program in sight. -/
namespace Go.Proofs.YtedaafmfjhjfmaaGreatDoor
open Go.RowKit
set_option linter.unusedSimpArgs false
abbrev A7o (n:Int):Value:=.int .i64 n
theorem Dr {α:Type} [Inhabited α] {l:List α} {i:Nat} (h:i < l.length):ix l i∈l:=by
 simp only[ix,List.getD_eq_getElem?_getD,List.getElem?_eq_getElem h,Option.getD_some]
 exact List.getElem_mem h
def Ax3 (F:Nat→Bool) (n:Nat):Int:=match (List.range n).find? F with|some k=>k|none=>-1
def A7p (l:List Int) (n:Int):Bool:=l.any fun x=>decide (x=n)
def A7q (l:List Int) (n:Int):Int:=Ax3 (fun i=>decide (ix l i=n)) l.length
end Go.Proofs.YtedaafmfjhjfmaaGreatDoor
/- slices.Index, slices.Contains on whole numbers: where a number is first, and whether. -/
namespace Go.Proofs.YtedaafmfjhjfmaaGreatDoor
open Go.RowKit
set_option linter.unusedSimpArgs false
attribute [local irreducible] Ad Ae Ah Ar Ak Am Ai Al
end Go.Proofs.YtedaafmfjhjfmaaGreatDoor
/- Peers as rows of two cells: may they be (layer 9), by the program and by the document; given as the program's (law 16). -/
namespace Go.Proofs.YtedaafmfjhjfmaaGreatDoor
open Go.RowKit
set_option linter.unusedSimpArgs false
set_option linter.unusedVariables false
def fpP:UInt64:=2305843009213693951
attribute [local irreducible] Ad Ae Ah Ar Ak Am Ai Al
abbrev Pr:=Int×UInt64
def pv (p:Pr):List Value:=[.int .i64 p.1,vU64 p.2]
theorem Po (p:Pr):(pv p).length=2:=rfl
def pvs (l:List Pr):List Value:=l.flatMap pv
theorem Mm (l:List Pr):(pvs l).length=l.length*2:=Cd Po l
structure FP (w0:World) (A:Option Addr) (l:List Pr):Prop where
 some_:0 < l.length→A.isSome=true
 c0:∀i,i < l.length→Az w0 (Ag A (i*2))=.int .i64 (ix l i).1
 c1:∀i,i < l.length→Az w0 (Ag A (i*2+1))=vU64 (ix l i).2
 ok0:∀i,i < l.length→C5 w0 No (Ag A (i*2))
 ok1:∀i,i < l.length→C5 w0 No (Ag A (i*2+1))
theorem FP.of {w0:World} {A:Option Addr} {l:List Pr} (hR:RdV w0 w0.heap.size A (pvs l)):FP w0 A l:=by
 have h:=FV.no hR
 have g0:∀i,i < l.length→(pvs l)[i*2]?=some (.int .i64 (ix l i).1):=fun i hi=>Ik Po l i 0 hi (by omega)
 have g1:∀i,i < l.length→(pvs l)[i*2+1]?=some (vU64 (ix l i).2):=fun i hi=>Ik Po l i 1 hi (by omega)
 exact⟨fun hp=>h.some_ (by rw[Mm];omega),fun i hi=>(h.cell (g0 i hi)).1,fun i hi=>(h.cell (g1 i hi)).1,fun i hi=>(h.cell (g0 i hi)).2,fun i hi=>(h.cell (g1 i hi)).2⟩
def Hi (l:List Pr):Nat→Int
 |0=>-1
 |i+1=>(ix l i).1
theorem Ax4 (l:List Pr):Hi l 0=-1:=rfl
theorem Ax5 (l:List Pr) (i:Nat):Hi l (i+1)=(ix l i).1:=rfl
def Hj (l:List Pr) (i:Nat):Prop:=Hi l i < (ix l i).1∧(ix l i).1 < 64∧(ix l i).2≠0∧(ix l i).2 < fpP
instance (l:List Pr) (i:Nat):Decidable (Hj l i):=by unfold Hj;exact inferInstance
def may (l:List Pr):Bool:=(List.range l.length).all fun i=>decide (Hj l i)
theorem Mn {l:List Pr}:may l=true↔∀i,i < l.length→Hj l i:=by
 unfold may
 simp [List.all_eq_true]
theorem Pp {l:List Pr} {i:Nat} (hi:i < l.length) (h:¬Hj l i):may l=false:=by
 cases hm:may l
 ·rfl
 ·exact absurd (Mn.1 hm i hi) h
theorem Zb {l:List Pr} (i:Nat) (h:∀j,j < i→Hj l j):(i:Int) - 1≤Hi l i:=by
 induction i with
 |zero=>simp [Hi]
 |succ i ih=>
  have h1:=ih fun j hj=>h j (by omega)
  have h2:=(h i (by omega)).1
  simp only[Hi]
  omega
theorem Zc {l:List Pr} (h:may l=true):l.length≤64:=by
 cases hl:l.length with
 |zero=>omega
 |succ n=>
  have h0:=Mn.1 h
  have h1:=Zb (l:=l) (n+1) fun j hj=>h0 j (by omega)
  have h2:=(h0 n (by omega)).2.1
  simp only[Hi] at h1
  omega
def Gv (l:List Pr):Value:=if may l=true then .nilIface else .iface 91 (.int .i64 1)
theorem K5 {l:List Pr} (h:may l=false):Gv l=.iface 91 (.int .i64 1):=by unfold Gv;rw[h];rfl
theorem Zd {l:List Pr} (h:may l=true):Gv l=.nilIface:=by unfold Gv;rw[h];rfl
theorem Ze {a b:UInt64}:¬a≤b↔b < a:=by rw[UInt64.le_iff_toNat_le,UInt64.lt_iff_toNat_lt];omega
set_option maxRecDepth 100000 in
theorem Ax6 (l:List Pr) (A:Option Addr) (c:Nat) (w:World) (hR:RdV w w.heap.size A (pvs l)):Calls Tryz.prog 149 #[.slice A l.length c] w fun e w'=>e=.returned (Gv l)∧Below w.heap.size w w':=by
 have F:=FP.of hR
 refine Ba (n:=39) Tryz.func149 rfl Tryz.ntmps149 [.x (.a (.v (.slice A l.length c)))] (by simp) (.x (.a (.v (Gv l)))) (fun _=>rfl) ?_
 by_cases h64:(64:Int) < l.length
 ·have hm:may l=false:=by
   cases hm:may l
   ·rfl
   ·have:=Zc hm;omega
  simp only[h64,K5 hm,push_cast,↓reduceIte,reduceCtorEq,Nat.reduceLT,Int.reduceNeg]
 simp only[h64,push_cast,↓reduceIte,reduceCtorEq,Nat.reduceLT,Int.reduceNeg]
 refine Bh (ι:=Nat) (fun i=>⟨[(3,.x (.a (.v (.int .i64 (Hi l i))))),(10,.x (.a (.v (.slice A l.length c)))),(11,.x (.a (.v (.int .i64 l.length)))),(12,.x (.a (.v (.int .i64 i))))],[]⟩) (fun i=>i≤l.length∧∀j,j < i→Hj l j) (fun i=>l.length - i) 0 [] ⟨by omega,fun j h=>by omega⟩ ?_ ?_
 ·simp only[Ax4,push_cast,↓Int.cast_ofNat_Int,Int.cast_ofNat_Int,↓reduceIte,Nat.reduceEqDiff,Int.reduceNeg]
 ·rintro i ⟨hi,hj⟩
  by_cases hlt:(i:Int) < l.length
  ·have i0:(0:Int)≤i:=by omega
   have c0:=F.c0 i (by omega)
   have c1:=F.c1 i (by omega)
   have o0:=F.ok0 i (by omega)
   have o1:=F.ok1 i (by omega)
   have hA:=F.some_ (by omega)
   by_cases h1:(ix l i).1≤Hi l i
   ·have hm:=Pp (l:=l) (i:=i) (by omega) (fun h=>by have:=h.1;omega)
    simp only[hlt,i0,c0,c1,o0,o1,hA,h1,K5 hm,Cm,B4,Bl,undef,push_cast,↓Int.toNat_natCast,↓reduceIte,reduceCtorEq,Nat.reduceEqDiff,Nat.reduceLT,Nat.reduceAdd]
   by_cases h2:(64:Int)≤(ix l i).1
   ·have hm:=Pp (l:=l) (i:=i) (by omega) (fun h=>by have:=h.2.1;omega)
    simp only[hlt,i0,c0,c1,o0,o1,hA,h1,h2,K5 hm,Cm,B4,Bl,undef,push_cast,↓Int.toNat_natCast,↓reduceIte,reduceCtorEq,Nat.reduceEqDiff,Nat.reduceLT,Nat.reduceAdd]
   by_cases h3:(ix l i).2=0
   ·have hm:=Pp (l:=l) (i:=i) (by omega) (fun h=>h.2.2.1 h3)
    simp only[hlt,i0,c0,c1,o0,o1,hA,h1,h2,h3,K5 hm,Cm,B4,Bl,undef,push_cast,↓Int.toNat_natCast,↓reduceIte,reduceCtorEq,Nat.reduceEqDiff,Nat.reduceLT,Nat.reduceAdd]
   by_cases h4:(2305843009213693951:UInt64)≤(ix l i).2
   ·have hm:=Pp (l:=l) (i:=i) (by omega) (fun h=>Ze.2 h.2.2.2 h4)
    simp only[hlt,i0,c0,c1,o0,o1,hA,h1,h2,h3,h4,K5 hm,Cm,B4,Bl,undef,push_cast,↓Int.toNat_natCast,↓reduceIte,reduceCtorEq,Nat.reduceEqDiff,Nat.reduceLT,Nat.reduceAdd]
   have hg:Hj l i:=⟨by omega,by omega,h3,Ze.1 h4⟩
   simp only[hlt,i0,c0,c1,o0,o1,hA,h1,h2,h3,h4,Cm,B4,Bl,undef,push_cast,↓Int.toNat_natCast,↓reduceIte,reduceCtorEq,Nat.reduceEqDiff,Nat.reduceLT,Nat.reduceAdd,Int.reduceNeg]
   (repeat (refine And.intro (by first|omega|decide) ?_))
   refine Be (i+1) [] ⟨by omega,fun j hjl=>?_⟩ (by omega) ?_
   ·by_cases e:j=i
    ·rw[e];exact hg
    ·exact hj j (by omega)
   ·simp only[Ax5,push_cast,↓reduceIte,Nat.reduceEqDiff]
  ·have hm:may l=true:=Mn.2 fun j h=>hj j (by omega)
   simp only[hlt,Zd hm,push_cast,↓reduceIte,Nat.reduceEqDiff,Nat.reduceLT]
section
variable {w0:World} {hp:List Res} {sv:Sv} {l:List Pr}
theorem Ax7 (h:Gq w0 No hp sv l.length (pvs l)):Ae Tryz.prog w0 No 149 [sv] hp (.x (.a (.v (Gv l)))) hp:=A8 fun γ w hS=>by
 obtain⟨A,c,e1,_,r1⟩:=h γ w hS
 show Calls _ _ #[sv.val γ] w _
 rw[e1]
 exact Ax6 l A c w r1
end
def pcs (l:List Pr):List At:=l.flatMap fun p=>[.v (.int .i64 p.1),.v (vU64 p.2)]
theorem Zf:pcs []=[]:=rfl
theorem Pq (p:Pr) (l:List Pr):pcs (p::l)=.v (.int .i64 p.1):: .v (vU64 p.2)::pcs l:=rfl
theorem Ax8 (l m:List Pr):pcs (l++m)=pcs l++pcs m:=by unfold pcs;rw[List.flatMap_append]
theorem Ax9 (l:List Pr):(pcs l).length=l.length*2:=by
 induction l with
 |nil=>rfl
 |cons p l ih=>rw[Pq];simp only[List.length_cons,ih];omega
theorem T6 (γ:List Nm) (l:List Pr):(pcs l).map (At.val γ)=pvs l:=by
 induction l with
 |nil=>rfl
 |cons p l ih=>rw[Pq,List.map_cons,List.map_cons,ih];rfl
theorem Jt (ρ:List Nat) (l:List Pr):(pcs l).map (At.ren ρ)=pcs l:=by
 induction l with
 |nil=>rfl
 |cons p l ih=>rw[Pq,List.map_cons,List.map_cons,ih];rfl
theorem Gw {Q:At→Prop} (l:List Pr):(∀x∈pcs l,Q x)=∀p∈l,Q (.v (.int .i64 p.1))∧Q (.v (vU64 p.2)):=by
 apply propext
 induction l with
 |nil=>simp [Zf]
 |cons p l ih=>
  rw[Pq,List.forall_mem_cons,List.forall_mem_cons,List.forall_mem_cons,ih,and_assoc]
theorem Aya (l:List Pr) (i:Nat) (h:i < l.length):pcs (l.take i)++[.v (.int .i64 (ix l i).1),.v (vU64 (ix l i).2)]=pcs (l.take (i+1)):=by
 have e:ix l i=l[i]:=by simp [ix,List.getD_eq_getElem?_getD,List.getElem?_eq_getElem h]
 rw[List.take_add_one,List.getElem?_eq_getElem h,Option.toList_some,Ax8,e]
 rfl
attribute [push_cast] Jt Ax9 Gw
attribute [irreducible] pcs
end Go.Proofs.YtedaafmfjhjfmaaGreatDoor
