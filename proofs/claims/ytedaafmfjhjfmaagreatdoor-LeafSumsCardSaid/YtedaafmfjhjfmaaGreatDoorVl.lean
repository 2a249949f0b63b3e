import Derived.Test.YtedaafmfjhjfmaaGreatDoorDrT
import Derived.Test.YtedaafmfjhjfmaaGreatDoorShA
/- Rows of numbers: vec.Zero, vec.Sum, and the document's sum of two rows. -/
namespace Go.Proofs.YtedaafmfjhjfmaaGreatDoor
open Go.RowKit
set_option linter.unusedSimpArgs false
set_option linter.unusedVariables false
def Ds (F:UInt32→UInt32→UInt32) (a b:List UInt32):Nat→List UInt32
 |0=>[]
 |i+1=>Ds F a b i++[F (ix a i) (ix b i)]
theorem Wg (F:UInt32→UInt32→UInt32) (a b:List UInt32):Ds F a b 0=[]:=rfl
theorem Nz (F:UInt32→UInt32→UInt32) (a b:List UInt32) (i:Nat):Ds F a b (i+1)=Ds F a b i++[F (ix a i) (ix b i)]:=rfl
theorem K4 (F:UInt32→UInt32→UInt32) (a b:List UInt32) (i:Nat):(Ds F a b i).length=i:=by
 induction i with
 |zero=>rfl
 |succ i ih=>simp [Ds,ih]
def Fl (a b:List UInt32):Bool:=decide (a.length≤32)&&decide (a.length=b.length)
def Ir (F:UInt32→UInt32→UInt32) (a b:List UInt32):List UInt32:=if Fl a b=true then Ds F a b a.length else []
theorem Acb {F:UInt32→UInt32→UInt32} {a b:List UInt32} (h:Fl a b=false):Ir F a b=[]:=by unfold Ir;rw[h];rfl
theorem Acc {F:UInt32→UInt32→UInt32} {a b:List UInt32} (h:Fl a b=true):Ir F a b=Ds F a b a.length:=by unfold Ir;rw[h];rfl
def zOk (n:Int):Bool:=decide (0≤n∧n≤32)
def Gj (n:Int):List UInt32:=if zOk n=true then List.replicate n.toNat 0 else []
def G9 (n:Int):Value:=if zOk n=true then .nilIface else .iface 91 (.int .i64 1)
theorem R8 {n:Int} (h:n < 0∨32 < n):zOk n=false:=by unfold zOk;exact decide_eq_false (by omega)
theorem R9 {n:Int} (h:¬n < 0) (h2:¬32 < n):zOk n=true:=by unfold zOk;exact decide_eq_true (by omega)
set_option maxRecDepth 100000 in
theorem A4d (n:Int) (w:World):Calls Tryz.prog 130 #[.int .i64 n] w fun e w'=>∃v,e=.returned (.tuple #[v,G9 n])∧Own w' w.heap.size 111 v ((Gj n).map Ak)∧Below w.heap.size w w':=by
 have h0:=fun h=>Qn (P:=Tryz.prog) (w:=w) (n:=13) Tryz.func130 rfl Tryz.ntmps130 [.x (.a (.v (.int .i64 n)))] (by simp) 111 (.u32 (Gj n)) (G9 n) (vs:=(Gj n).map Ak) (fun _=>rfl) h
 refine h0 ?_
 clear h0
 by_cases h1:n < 0
 ·have e1:Gj n=[]:=by unfold Gj;rw[R8 (.inl h1)];rfl
  have e2:G9 n=.iface 91 (.int .i64 1):=by unfold G9;rw[R8 (.inl h1)];rfl
  rw[e1,e2]
  simp only[h1,undef,Gv,Dh,push_cast,↓reduceIte,reduceCtorEq,Nat.reduceEqDiff,Nat.reduceLT]
 by_cases h2:32 < n
 ·have e1:Gj n=[]:=by unfold Gj;rw[R8 (.inr h2)];rfl
  have e2:G9 n=.iface 91 (.int .i64 1):=by unfold G9;rw[R8 (.inr h2)];rfl
  rw[e1,e2]
  simp only[h1,h2,Gv,Dh,push_cast,↓reduceIte,reduceCtorEq,Nat.reduceEqDiff,Nat.reduceLT]
 have e1:Gj n=List.replicate n.toNat 0:=by unfold Gj;rw[R9 h1 h2];rfl
 have e2:G9 n=.nilIface:=by unfold G9;rw[R9 h1 h2];rfl
 rw[e1,e2]
 simp only[h1,h2,Gv,Dh,push_cast,↓Int.cast_ofNat_Int,Int.cast_ofNat_Int,↓reduceIte,reduceCtorEq,Nat.reduceEqDiff,Nat.reduceLT]
 all_goals omega
theorem A4e {w0:World} {ow:Nat→Prop} {hp:List Res} (n:Int) (hbr:∀r∈hp,Res.bnd hp.length r):
  Ai Tryz.prog w0 ow 130 [.x (.a (.v (.int .i64 n)))] hp (.t [.a (.o hp.length),.a (.v (G9 n))]) (hp++[.own 111 (.u32 (Gj n))]):=Ug hbr trivial fun _ w _=>A4d n w
def Gk (k:UInt64) (x y:UInt32):UInt32:=((x.toUInt64+k*y.toUInt64) % 4294967296).toUInt32
theorem A4f (x y:UInt32):Gk 1 x y=x+y:=by
 unfold Gk
 rw[←UInt32.toNat_inj,UInt64.toNat_toUInt32,UInt64.toNat_mod,UInt64.toNat_add,UInt64.toNat_mul,UInt32.toNat_toUInt64,UInt32.toNat_toUInt64,UInt32.toNat_add]
 have hx:=x.toNat_lt
 have hy:=y.toNat_lt
 show (x.toNat+1*y.toNat % 18446744073709551616) % 18446744073709551616 % 4294967296 % 4294967296=_
 omega
theorem A4g {F G:UInt32→UInt32→UInt32} (h:∀x y,F x y=G x y) (a b:List UInt32) (n:Nat):Ds F a b n=Ds G a b n:=by
 induction n with
 |zero=>rfl
 |succ n ih=>rw[Nz,Nz,ih,h]
attribute [local irreducible] Ds Gk
set_option maxRecDepth 100000 in
theorem A4h (a b:List UInt32) (k:UInt64) (A:Option Addr) (c:Nat) (A2:Option Addr) (c2:Nat) (w:World) (hR:RdV w w.heap.size A (a.map Ak)) (hR2:RdV w w.heap.size A2 (b.map Ak)):
  Calls Tryz.prog 16 #[.slice A a.length c,.slice A2 b.length c2,vU64 k] w fun e w'=>∃v,e=.returned (.tuple #[v,.bool (Fl a b)])∧Own w' w.heap.size 111 v ((Ir (Gk k) a b).map Ak)∧Below w.heap.size w w':=by
 have F:=F32.of (FV.no hR)
 have G:=F32.of (FV.no hR2)
 have h0:=fun h=>Qn (P:=Tryz.prog) (w:=w) (n:=45) Tryz.func16 rfl Tryz.ntmps16 ([.x (.a (.v (.slice A a.length c))),.x (.a (.v (.slice A2 b.length c2)))]++[.x (.a (.v (vU64 k)))]) (by simp) 111 (.u32 (Ir (Gk k) a b)) (.bool (Fl a b)) (vs:=(Ir (Gk k) a b).map Ak) (fun _=>rfl) h
 refine h0 ?_
 clear h0
 by_cases h1:(32:Int) < a.length
 ·have hok:Fl a b=false:=by unfold Fl;rw[decide_eq_false (by omega)];rfl
  rw[Acb hok,hok]
  simp only[h1,undef,Gv,Dh,push_cast,↓reduceIte,reduceCtorEq,Nat.reduceEqDiff,Nat.reduceLT,Nat.reduceAdd]
 by_cases h2:(a.length:Int)=b.length
 ·have hok:Fl a b=true:=by unfold Fl;rw[decide_eq_true (by omega),decide_eq_true (by omega)];rfl
  have h3:¬(32:Int) < b.length:=by omega
  rw[Acc hok,hok]
  simp only[h3,h2,push_cast,↓reduceIte,reduceCtorEq,Nat.reduceEqDiff,Nat.reduceLT,Nat.reduceAdd]
  refine M0 8 111 (.u32 []) rfl rfl trivial (by simp only[push_cast]) ?_
  refine B9 (ι:=Nat) (fun i=>⟨[(0,.x (.a (.v (.slice A a.length c)))),(1,.x (.a (.v (.slice A2 b.length c2)))),(2,.x (.a (.v (vU64 k)))),(8,.x (.a (.o 0))),(9,.x (.a (.v (.int .i64 i))))],[.own 111 (.u32 (Ds (Gk k) a b i))]⟩) (fun i=>i≤b.length) (fun i=>b.length - i) 0 [0] (by omega) ?_ ?_
  ·simp only[Wg,push_cast,↓Int.cast_ofNat_Int,Int.cast_ofNat_Int,↓reduceIte,reduceCtorEq,Nat.reduceEqDiff,Nat.reduceLT]
  ·intro i hi
   have hol:=K4 (Gk k) a b i
   by_cases hlt:(i:Int) < b.length
   ·have i0:(0:Int)≤i:=by omega
    have c0:=F.cell i (by omega)
    have o0:=F.ok i (by omega)
    have d0:=G.cell i (by omega)
    have p0:=G.ok i (by omega)
    have hA:=F.some_ (by omega)
    have hA2:=G.some_ (by omega)
    simp only[h2,hlt,push_cast,↓reduceIte,reduceCtorEq,Nat.reduceEqDiff,Nat.reduceLT]
    (repeat (refine And.intro (by first|omega|decide) ?_))
    refine Fw 17 [(0,true),(1,true),(2,true),(3,true),(4,true),(5,true),(6,true),(7,true),(8,true),(9,true),(10,true),(11,true),(12,true),(13,true),(14,true),(15,true),(16,false)] (by kernel_rfl) (by kernel_rfl) ?_
    simp only[h2,hlt,i0,c0,o0,d0,p0,hA,hA2,hol,undef,push_cast,↓Int.toNat_natCast,↓reduceIte,reduceCtorEq,Nat.reduceEqDiff,Nat.reduceLT,Nat.reduceLeDiff,Nat.reduceAdd,Int.reduceNeg]
    (repeat (refine And.intro (by first|omega|decide) ?_))
    refine Bv (i+1) [2] (by omega) (by omega) ?_
    simp only[push_cast,↓reduceIte,reduceCtorEq,Nat.reduceEqDiff,Nat.reduceLT]
    exact ((Nz (Gk k) a b i).trans (by unfold Gk;rfl)).symm
   ·have e:i=b.length:=by omega
    subst e
    have e2:a.length=b.length:=by omega
    simp only[hlt,e2,Gv,Dh,push_cast,↓reduceIte,reduceCtorEq,Nat.reduceEqDiff,Nat.reduceLT]
 ·have hok:Fl a b=false:=by unfold Fl;rw[decide_eq_false (by omega:¬a.length=b.length),Bool.and_false]
  rw[Acb hok,hok]
  simp only[h1,h2,Gv,Dh,push_cast,↓reduceIte,reduceCtorEq,Nat.reduceEqDiff,Nat.reduceLT,Nat.reduceAdd]
end Go.Proofs.YtedaafmfjhjfmaaGreatDoor
namespace Go.Proofs.YtedaafmfjhjfmaaGreatDoor
open Go.RowKit
set_option linter.unusedSimpArgs false
set_option linter.unusedVariables false
def Bz (n:Nat) (L:List (List UInt32)):Nat→List UInt32
 |0=>List.replicate n 0
 |i+1=>Ds (·+·) (Bz n L i) (ix L i) n
theorem Acd (n:Nat) (L:List (List UInt32)):Bz n L 0=List.replicate n 0:=rfl
theorem Wh (n:Nat) (L:List (List UInt32)) (i:Nat):Bz n L (i+1)=Ds (·+·) (Bz n L i) (ix L i) n:=rfl
theorem Sa (n:Nat) (L:List (List UInt32)) (i:Nat):(Bz n L i).length=n:=by
 cases i with
 |zero=>simp [Bz]
 |succ i=>rw[Wh,K4]
def F6 (a b:List UInt32) (j:Nat):List UInt32:=Ds (·+·) a b j++a.drop j
theorem A4i (a b:List UInt32):F6 a b 0=a:=by simp [F6,Wg]
theorem A4j (a b:List UInt32) (n:Nat) (h:a.length=n):F6 a b n=Ds (·+·) a b n:=by simp [F6,←h]
theorem A4k (a b:List UInt32) (j:Nat) (h:j≤a.length):(F6 a b j).length=a.length:=by
 unfold F6
 rw[List.length_append,K4,List.length_drop];omega
theorem A4l (a b:List UInt32) (j:Nat) (_h:j < a.length):ix (F6 a b j) j=ix a j:=by
 unfold F6 ix
 rw[List.getD_eq_getElem?_getD,List.getElem?_append_right (by rw[K4];omega),K4,Nat.sub_self,List.getElem?_drop,Nat.add_zero,List.getD_eq_getElem?_getD]
theorem A4m (a b:List UInt32) (j:Nat) (h:j < a.length):(F6 a b j).set j (ix a j+ix b j)=F6 a b (j+1):=by
 unfold F6
 rw[List.set_append_right _ _ (by rw[K4];omega),K4,Nat.sub_self,Nz,List.append_assoc]
 congr 1
 rw[List.drop_eq_getElem_cons h]
 rfl
attribute [local irreducible] Ds F6 Bz
attribute [local irreducible] Ah Ai Am Bc A7 Ay Ap A6
set_option maxRecDepth 100000 in
set_option maxHeartbeats 4000000 in
theorem A4n (R:List Rw) (n:Nat) (hn:n≤32) (hRl:R.length≤1000) (A:Option Addr) (c:Nat) (w:World) (hR:RdV w w.heap.size A (R.map Rw.val)) (hr:∀i,i < R.length→(ix R i).l.length=n∧RdV w w.heap.size (ix R i).A ((ix R i).l.map Ak)):
  Calls Tryz.prog 84 #[.slice A R.length c,.int .i64 n] w fun e w'=>∃v,e=.returned (.tuple #[v,.nilIface])∧Own w' w.heap.size 111 v ((Bz n (R.map (·.l)) R.length).map Ak)∧Below w.heap.size w w':=by
 have F:=FM.of hR
 have h0:=fun h=>Qn (P:=Tryz.prog) (w:=w) (n:=48) Tryz.func84 rfl Tryz.ntmps84 [.x (.a (.v (.slice A R.length c))),.x (.a (.v (.int .i64 n)))] (by simp) 111 (.u32 (Bz n (R.map (·.l)) R.length)) .nilIface (vs:=(Bz n (R.map (·.l)) R.length).map Ak) (fun _=>rfl) h
 refine h0 ?_
 clear h0
 have ez:Gj n=Bz n (R.map (·.l)) 0:=by unfold Gj;rw[R9 (by omega) (by omega),Int.toNat_natCast,Acd];rfl
 have eze:G9 n=.nilIface:=by unfold G9;rw[R9 (by omega) (by omega)];rfl
 simp only[push_cast,↓reduceIte,reduceCtorEq,Nat.reduceEqDiff,Nat.reduceLT]
 refine Ig rfl Axx rfl (A4e n (by simp only[push_cast])) (Ae rfl) (by simp only[push_cast]) ?_
 simp only[ez,eze,push_cast,↓reduceIte,reduceCtorEq,Nat.reduceEqDiff,Nat.reduceLT]
 refine B9 (ι:=Nat) (fun i=>⟨[(1,.x (.a (.v (.int .i64 n)))),(6,.x (.a (.o 0))),(20,.x (.a (.v (.slice A R.length c)))),(21,.x (.a (.v (.int .i64 R.length)))),(22,.x (.a (.v (.int .i64 i))))],[.own 111 (.u32 (Bz n (R.map (·.l)) i))]⟩) (fun i=>i≤R.length) (fun i=>R.length - i) 0 [0] (by omega) ?_ ?_
 ·simp only[push_cast,↓Int.cast_ofNat_Int,Int.cast_ofNat_Int,↓reduceIte,reduceCtorEq,Nat.reduceEqDiff,Nat.reduceLT]
 ·intro i hi
  by_cases hlt:(i:Int) < R.length
  ·have hlt':i < R.length:=by omega
   have i0:(0:Int)≤i:=by omega
   have c0:Be w (Aj A i)=.slice (ix R i).A (ix R i).l.length (ix R i).c:=F.cell i hlt'
   have o0:=F.ok i hlt'
   have hA:=F.some_ (by omega)
   obtain⟨hl,hRi⟩:=hr i hlt'
   have G:=FM.of hRi
   have hs:=Sa n (R.map (·.l)) i
   have hsi:=Wh n (R.map (·.l)) i
   have hix:ix (R.map (·.l)) i=(ix R i).l:=by simp [ix,List.getD_eq_getElem?_getD,hlt']
   rw[hix] at hsi
   rw[hl] at c0
   simp only[hlt,i0,c0,o0,hA,push_cast,↓Int.toNat_natCast,↓reduceIte,reduceCtorEq,Nat.reduceEqDiff,Nat.reduceLT]
   (repeat (refine And.intro (by first|omega|decide) ?_))
   refine B9 (ι:=Nat) (fun j=>⟨[(1,.x (.a (.v (.int .i64 n)))),(6,.x (.a (.o 0))),(20,.x (.a (.v (.slice A R.length c)))),(21,.x (.a (.v (.int .i64 R.length)))),(22,.x (.a (.v (.int .i64 i)))),(31,.x (.a (.v (.slice (ix R i).A n (ix R i).c)))),(32,.x (.a (.v (.int .i64 n)))),(33,.x (.a (.v (.int .i64 j))))],[.own 111 (.u32 (F6 (Bz n (R.map (·.l)) i) (ix R i).l j))]⟩) (fun j=>j≤n) (fun j=>n - j) 0 [0] (by omega) ?_ ?_
   ·simp only[A4i,push_cast,↓Int.cast_ofNat_Int,Int.cast_ofNat_Int,↓reduceIte,Nat.reduceEqDiff,Nat.reduceLT]
   ·intro j hj
    by_cases hjt:(j:Int) < n
    ·have j0:(0:Int)≤j:=by omega
     have d0:=G.cell j (by omega)
     have p0:=G.ok j (by omega)
     have hA2:=G.some_ (by omega)
     have hml:=A4k (Bz n (R.map (·.l)) i) (ix R i).l j (by omega)
     have hmg:=A4l (Bz n (R.map (·.l)) i) (ix R i).l j (by omega)
     have hms:=A4m (Bz n (R.map (·.l)) i) (ix R i).l j (by omega)
     simp only[hjt,j0,d0,p0,hA2,hml,hs,hmg,hms,undef,push_cast,↓Int.toNat_natCast,↓reduceIte,reduceCtorEq,Nat.reduceEqDiff,Nat.reduceLT,Int.reduceNeg]
     (repeat (refine And.intro (by first|omega|decide) ?_))
     refine Bv (j+1) [0] (by omega) (by omega) ?_
     simp only[push_cast,↓reduceIte,Nat.reduceEqDiff,Nat.reduceLT]
    ·have e:j=n:=by omega
     subst e
     have hma:=(A4j (Bz j (R.map (·.l)) i) (ix R i).l j (by omega)).trans hsi.symm
     simp only[hjt,hma,push_cast,↓reduceIte,Nat.reduceEqDiff,Nat.reduceLT,Int.reduceNeg]
     (repeat (refine And.intro (by first|omega|decide) ?_))
     refine Bv (i+1) [0] (by omega) (by omega) ?_
     simp only[push_cast,↓reduceIte,Nat.reduceEqDiff,Nat.reduceLT]
  ·have e:i=R.length:=by omega
   subst e
   simp only[hlt,Gv,Dh,push_cast,↓reduceIte,Nat.reduceEqDiff,Nat.reduceLT]
end Go.Proofs.YtedaafmfjhjfmaaGreatDoor
