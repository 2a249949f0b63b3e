import Derived.Test.YtedaafmfjhjfmaaGreatDoorDrT
import Derived.Test.YtedaafmfjhjfmaaGreatDoorShA
/- Rows of numbers: vec.Zero, vec.Sum, and the document's sum of two rows. -/
namespace Go.Proofs.YtedaafmfjhjfmaaGreatDoor
open Go.RowKit
set_option linter.unusedSimpArgs false
set_option linter.unusedVariables false
def Dh (F:UInt32→UInt32→UInt32) (a b:List UInt32):Nat→List UInt32
 |0=>[]
 |i+1=>Dh F a b i++[F (ix a i) (ix b i)]
theorem Up (F:UInt32→UInt32→UInt32) (a b:List UInt32):Dh F a b 0=[]:=rfl
theorem M3 (F:UInt32→UInt32→UInt32) (a b:List UInt32) (i:Nat):Dh F a b (i+1)=Dh F a b i++[F (ix a i) (ix b i)]:=rfl
theorem J3 (F:UInt32→UInt32→UInt32) (a b:List UInt32) (i:Nat):(Dh F a b i).length=i:=by
 induction i with
 |zero=>rfl
 |succ i ih=>simp [Dh,ih]
def E0 (a b:List UInt32):Bool:=decide (a.length≤32)&&decide (a.length=b.length)
def Hz (F:UInt32→UInt32→UInt32) (a b:List UInt32):List UInt32:=if E0 a b=true then Dh F a b a.length else []
theorem Aap {F:UInt32→UInt32→UInt32} {a b:List UInt32} (h:E0 a b=false):Hz F a b=[]:=by unfold Hz;rw[h];rfl
theorem Aaq {F:UInt32→UInt32→UInt32} {a b:List UInt32} (h:E0 a b=true):Hz F a b=Dh F a b a.length:=by unfold Hz;rw[h];rfl
def zOk (n:Int):Bool:=decide (0≤n∧n≤32)
def F0 (n:Int):List UInt32:=if zOk n=true then List.replicate n.toNat 0 else []
def Gg (n:Int):Value:=if zOk n=true then .nilIface else .iface 91 (.int .i64 1)
theorem Q5 {n:Int} (h:n < 0∨32 < n):zOk n=false:=by unfold zOk;exact decide_eq_false (by omega)
theorem Q6 {n:Int} (h:¬n < 0) (h2:¬32 < n):zOk n=true:=by unfold zOk;exact decide_eq_true (by omega)
set_option maxRecDepth 100000 in
theorem A3p (n:Int) (w:World):Calls Tryz.prog 130 #[.int .i64 n] w fun e w'=>∃v,e=.returned (.tuple #[v,Gg n])∧Own w' w.heap.size 111 v ((F0 n).map Aj)∧Below w.heap.size w w':=by
 have h0:=fun h=>Ma (P:=Tryz.prog) (w:=w) (n:=13) Tryz.func130 rfl Tryz.ntmps130 [.x (.a (.v (.int .i64 n)))] (by simp) 111 (.u32 (F0 n)) (Gg n) (vs:=(F0 n).map Aj) (fun _=>rfl) h
 refine h0 ?_
 clear h0
 by_cases h1:n < 0
 ·have e1:F0 n=[]:=by unfold F0;rw[Q5 (.inl h1)];rfl
  have e2:Gg n=.iface 91 (.int .i64 1):=by unfold Gg;rw[Q5 (.inl h1)];rfl
  rw[e1,e2]
  simp only[h1,undef,Gb,Da,push_cast,↓reduceIte,reduceCtorEq,Nat.reduceEqDiff,Nat.reduceLT]
 by_cases h2:32 < n
 ·have e1:F0 n=[]:=by unfold F0;rw[Q5 (.inr h2)];rfl
  have e2:Gg n=.iface 91 (.int .i64 1):=by unfold Gg;rw[Q5 (.inr h2)];rfl
  rw[e1,e2]
  simp only[h1,h2,Gb,Da,push_cast,↓reduceIte,reduceCtorEq,Nat.reduceEqDiff,Nat.reduceLT]
 have e1:F0 n=List.replicate n.toNat 0:=by unfold F0;rw[Q6 h1 h2];rfl
 have e2:Gg n=.nilIface:=by unfold Gg;rw[Q6 h1 h2];rfl
 rw[e1,e2]
 simp only[h1,h2,Gb,Da,push_cast,↓Int.cast_ofNat_Int,Int.cast_ofNat_Int,↓reduceIte,reduceCtorEq,Nat.reduceEqDiff,Nat.reduceLT]
 all_goals omega
theorem A3q {w0:World} {ow:Nat→Prop} {hp:List Res} (n:Int) (hbr:∀r∈hp,Res.bnd hp.length r):
  Ae Tryz.prog w0 ow 130 [.x (.a (.v (.int .i64 n)))] hp (.t [.a (.o hp.length),.a (.v (Gg n))]) (hp++[.own 111 (.u32 (F0 n))]):=S4 hbr trivial fun _ w _=>A3p n w
def F3 (k:UInt64) (x y:UInt32):UInt32:=((x.toUInt64+k*y.toUInt64) % 4294967296).toUInt32
theorem A3r (x y:UInt32):F3 1 x y=x+y:=by
 unfold F3
 rw[←UInt32.toNat_inj,UInt64.toNat_toUInt32,UInt64.toNat_mod,UInt64.toNat_add,UInt64.toNat_mul,UInt32.toNat_toUInt64,UInt32.toNat_toUInt64,UInt32.toNat_add]
 have hx:=x.toNat_lt
 have hy:=y.toNat_lt
 show (x.toNat+1*y.toNat % 18446744073709551616) % 18446744073709551616 % 4294967296 % 4294967296=_
 omega
theorem A3s {F G:UInt32→UInt32→UInt32} (h:∀x y,F x y=G x y) (a b:List UInt32) (n:Nat):Dh F a b n=Dh G a b n:=by
 induction n with
 |zero=>rfl
 |succ n ih=>rw[M3,M3,ih,h]
attribute [local irreducible] Dh F3
set_option maxRecDepth 100000 in
theorem A3t (a b:List UInt32) (k:UInt64) (A:Option Addr) (c:Nat) (A2:Option Addr) (c2:Nat) (w:World) (hR:RdV w w.heap.size A (a.map Aj)) (hR2:RdV w w.heap.size A2 (b.map Aj)):
  Calls Tryz.prog 16 #[.slice A a.length c,.slice A2 b.length c2,vU64 k] w fun e w'=>∃v,e=.returned (.tuple #[v,.bool (E0 a b)])∧Own w' w.heap.size 111 v ((Hz (F3 k) a b).map Aj)∧Below w.heap.size w w':=by
 have F:=F32.of (FV.no hR)
 have G:=F32.of (FV.no hR2)
 have h0:=fun h=>Ma (P:=Tryz.prog) (w:=w) (n:=45) Tryz.func16 rfl Tryz.ntmps16 ([.x (.a (.v (.slice A a.length c))),.x (.a (.v (.slice A2 b.length c2)))]++[.x (.a (.v (vU64 k)))]) (by simp) 111 (.u32 (Hz (F3 k) a b)) (.bool (E0 a b)) (vs:=(Hz (F3 k) a b).map Aj) (fun _=>rfl) h
 refine h0 ?_
 clear h0
 by_cases h1:(32:Int) < a.length
 ·have hok:E0 a b=false:=by unfold E0;rw[decide_eq_false (by omega)];rfl
  rw[Aap hok,hok]
  simp only[h1,undef,Gb,Da,push_cast,↓reduceIte,reduceCtorEq,Nat.reduceEqDiff,Nat.reduceLT,Nat.reduceAdd]
 by_cases h2:(a.length:Int)=b.length
 ·have hok:E0 a b=true:=by unfold E0;rw[decide_eq_true (by omega),decide_eq_true (by omega)];rfl
  have h3:¬(32:Int) < b.length:=by omega
  rw[Aaq hok,hok]
  simp only[h3,h2,push_cast,↓reduceIte,reduceCtorEq,Nat.reduceEqDiff,Nat.reduceLT,Nat.reduceAdd]
  refine Ij 8 111 (.u32 []) rfl rfl trivial (by simp only[push_cast]) ?_
  refine Bc (ι:=Nat) (fun i=>⟨[(0,.x (.a (.v (.slice A a.length c)))),(1,.x (.a (.v (.slice A2 b.length c2)))),(2,.x (.a (.v (vU64 k)))),(8,.x (.a (.o 0))),(9,.x (.a (.v (.int .i64 i))))],[.own 111 (.u32 (Dh (F3 k) a b i))]⟩) (fun i=>i≤b.length) (fun i=>b.length - i) 0 [0] (by omega) ?_ ?_
  ·simp only[Up,push_cast,↓Int.cast_ofNat_Int,Int.cast_ofNat_Int,↓reduceIte,reduceCtorEq,Nat.reduceEqDiff,Nat.reduceLT]
  ·intro i hi
   have hol:=J3 (F3 k) a b i
   by_cases hlt:(i:Int) < b.length
   ·have i0:(0:Int)≤i:=by omega
    have c0:=F.cell i (by omega)
    have o0:=F.ok i (by omega)
    have d0:=G.cell i (by omega)
    have p0:=G.ok i (by omega)
    have hA:=F.some_ (by omega)
    have hA2:=G.some_ (by omega)
    simp only[h2,hlt,push_cast,↓reduceIte,reduceCtorEq,Nat.reduceEqDiff,Nat.reduceLT]
    (repeat (refine And.intro (by first|omega|decide) ?_))
    refine O8 17 [(0,true),(1,true),(2,true),(3,true),(4,true),(5,true),(6,true),(7,true),(8,true),(9,true),(10,true),(11,true),(12,true),(13,true),(14,true),(15,true),(16,false)] (by kernel_rfl) (by kernel_rfl) ?_
    simp only[h2,hlt,i0,c0,o0,d0,p0,hA,hA2,hol,undef,push_cast,↓Int.toNat_natCast,↓reduceIte,reduceCtorEq,Nat.reduceEqDiff,Nat.reduceLT,Nat.reduceLeDiff,Nat.reduceAdd,Int.reduceNeg]
    (repeat (refine And.intro (by first|omega|decide) ?_))
    refine Ay (i+1) [2] (by omega) (by omega) ?_
    simp only[push_cast,↓reduceIte,reduceCtorEq,Nat.reduceEqDiff,Nat.reduceLT]
    exact ((M3 (F3 k) a b i).trans (by unfold F3;rfl)).symm
   ·have e:i=b.length:=by omega
    subst e
    have e2:a.length=b.length:=by omega
    simp only[hlt,e2,Gb,Da,push_cast,↓reduceIte,reduceCtorEq,Nat.reduceEqDiff,Nat.reduceLT]
 ·have hok:E0 a b=false:=by unfold E0;rw[decide_eq_false (by omega:¬a.length=b.length),Bool.and_false]
  rw[Aap hok,hok]
  simp only[h1,h2,Gb,Da,push_cast,↓reduceIte,reduceCtorEq,Nat.reduceEqDiff,Nat.reduceLT,Nat.reduceAdd]
theorem A3u {w0:World} {hp:List Res} {s1 s2:Sv} {a b:List UInt32} (k:UInt64) (h1:A6 w0 No hp s1 (a.map Aj)) (h2:A6 w0 No hp s2 (b.map Aj)) (hbr:∀r∈hp,Res.bnd hp.length r):
  Ae Tryz.prog w0 No 16 [s1,s2,.x (.a (.v (vU64 k)))] hp (.t [.a (.o hp.length),.a (.v (.bool (E0 a b)))]) (hp++[.own 111 (.u32 (Hz (F3 k) a b))]):=S4 hbr trivial fun γ w hS=>by
 obtain⟨A,c,e1,b1,r1⟩:=h1 γ w hS
 obtain⟨A2,c2,e2,b2,r2⟩:=h2 γ w hS
 rw[List.length_map] at e1 e2
 show Calls _ _ #[s1.val γ,s2.val γ,vU64 k] w _
 rw[e1,e2]
 exact A3t a b k A c A2 c2 w r1 r2
end Go.Proofs.YtedaafmfjhjfmaaGreatDoor
namespace Go.Proofs.YtedaafmfjhjfmaaGreatDoor
open Go.RowKit
set_option linter.unusedSimpArgs false
set_option linter.unusedVariables false
def Bl (n:Nat) (L:List (List UInt32)):Nat→List UInt32
 |0=>List.replicate n 0
 |i+1=>Dh (·+·) (Bl n L i) (ix L i) n
theorem Aar (n:Nat) (L:List (List UInt32)):Bl n L 0=List.replicate n 0:=rfl
theorem Uq (n:Nat) (L:List (List UInt32)) (i:Nat):Bl n L (i+1)=Dh (·+·) (Bl n L i) (ix L i) n:=rfl
theorem Aas (n:Nat) (L:List (List UInt32)) (i:Nat):(Bl n L i).length=n:=by
 cases i with
 |zero=>simp [Bl]
 |succ i=>rw[Uq,J3]
def Fk (a b:List UInt32) (j:Nat):List UInt32:=Dh (·+·) a b j++a.drop j
theorem A3v (a b:List UInt32):Fk a b 0=a:=by simp [Fk,Up]
theorem A3w (a b:List UInt32) (n:Nat) (h:a.length=n):Fk a b n=Dh (·+·) a b n:=by simp [Fk,←h]
theorem A3x (a b:List UInt32) (j:Nat) (h:j≤a.length):(Fk a b j).length=a.length:=by
 unfold Fk
 rw[List.length_append,J3,List.length_drop];omega
theorem A3y (a b:List UInt32) (j:Nat) (_h:j < a.length):ix (Fk a b j) j=ix a j:=by
 unfold Fk ix
 rw[List.getD_eq_getElem?_getD,List.getElem?_append_right (by rw[J3];omega),J3,Nat.sub_self,List.getElem?_drop,Nat.add_zero,List.getD_eq_getElem?_getD]
theorem A3z (a b:List UInt32) (j:Nat) (h:j < a.length):(Fk a b j).set j (ix a j+ix b j)=Fk a b (j+1):=by
 unfold Fk
 rw[List.set_append_right _ _ (by rw[J3];omega),J3,Nat.sub_self,M3,List.append_assoc]
 congr 1
 rw[List.drop_eq_getElem_cons h]
 rfl
attribute [local irreducible] Dh Fk Bl
attribute [local irreducible] Ad Ae Ah Au Am Ap Ai Ao
set_option maxRecDepth 100000 in
set_option maxHeartbeats 4000000 in
theorem A30 (R:List Rw) (n:Nat) (hn:n≤32) (hRl:R.length≤1000) (A:Option Addr) (c:Nat) (w:World) (hR:RdV w w.heap.size A (R.map Rw.val)) (hr:∀i,i < R.length→(ix R i).l.length=n∧RdV w w.heap.size (ix R i).A ((ix R i).l.map Aj)):
  Calls Tryz.prog 84 #[.slice A R.length c,.int .i64 n] w fun e w'=>∃v,e=.returned (.tuple #[v,.nilIface])∧Own w' w.heap.size 111 v ((Bl n (R.map (·.l)) R.length).map Aj)∧Below w.heap.size w w':=by
 have F:=FM.of hR
 have h0:=fun h=>Ma (P:=Tryz.prog) (w:=w) (n:=48) Tryz.func84 rfl Tryz.ntmps84 [.x (.a (.v (.slice A R.length c))),.x (.a (.v (.int .i64 n)))] (by simp) 111 (.u32 (Bl n (R.map (·.l)) R.length)) .nilIface (vs:=(Bl n (R.map (·.l)) R.length).map Aj) (fun _=>rfl) h
 refine h0 ?_
 clear h0
 have ez:F0 n=Bl n (R.map (·.l)) 0:=by unfold F0;rw[Q6 (by omega) (by omega),Int.toNat_natCast,Aar];rfl
 have eze:Gg n=.nilIface:=by unfold Gg;rw[Q6 (by omega) (by omega)];rfl
 simp only[push_cast,↓reduceIte,reduceCtorEq,Nat.reduceEqDiff,Nat.reduceLT]
 refine Dx rfl Awt rfl (A3q n (by simp only[push_cast])) (Af rfl) (by simp only[push_cast]) ?_
 simp only[ez,eze,push_cast,↓reduceIte,reduceCtorEq,Nat.reduceEqDiff,Nat.reduceLT]
 refine Bc (ι:=Nat) (fun i=>⟨[(1,.x (.a (.v (.int .i64 n)))),(6,.x (.a (.o 0))),(20,.x (.a (.v (.slice A R.length c)))),(21,.x (.a (.v (.int .i64 R.length)))),(22,.x (.a (.v (.int .i64 i))))],[.own 111 (.u32 (Bl n (R.map (·.l)) i))]⟩) (fun i=>i≤R.length) (fun i=>R.length - i) 0 [0] (by omega) ?_ ?_
 ·simp only[push_cast,↓Int.cast_ofNat_Int,Int.cast_ofNat_Int,↓reduceIte,reduceCtorEq,Nat.reduceEqDiff,Nat.reduceLT]
 ·intro i hi
  by_cases hlt:(i:Int) < R.length
  ·have hlt':i < R.length:=by omega
   have i0:(0:Int)≤i:=by omega
   have c0:Az w (Ag A i)=.slice (ix R i).A (ix R i).l.length (ix R i).c:=F.cell i hlt'
   have o0:=F.ok i hlt'
   have hA:=F.some_ (by omega)
   obtain⟨hl,hRi⟩:=hr i hlt'
   have G:=FM.of hRi
   have hs:=Aas n (R.map (·.l)) i
   have hsi:=Uq n (R.map (·.l)) i
   have hix:ix (R.map (·.l)) i=(ix R i).l:=by simp [ix,List.getD_eq_getElem?_getD,hlt']
   rw[hix] at hsi
   rw[hl] at c0
   simp only[hlt,i0,c0,o0,hA,push_cast,↓Int.toNat_natCast,↓reduceIte,reduceCtorEq,Nat.reduceEqDiff,Nat.reduceLT]
   (repeat (refine And.intro (by first|omega|decide) ?_))
   refine Bc (ι:=Nat) (fun j=>⟨[(1,.x (.a (.v (.int .i64 n)))),(6,.x (.a (.o 0))),(20,.x (.a (.v (.slice A R.length c)))),(21,.x (.a (.v (.int .i64 R.length)))),(22,.x (.a (.v (.int .i64 i)))),(31,.x (.a (.v (.slice (ix R i).A n (ix R i).c)))),(32,.x (.a (.v (.int .i64 n)))),(33,.x (.a (.v (.int .i64 j))))],[.own 111 (.u32 (Fk (Bl n (R.map (·.l)) i) (ix R i).l j))]⟩) (fun j=>j≤n) (fun j=>n - j) 0 [0] (by omega) ?_ ?_
   ·simp only[A3v,push_cast,↓Int.cast_ofNat_Int,Int.cast_ofNat_Int,↓reduceIte,Nat.reduceEqDiff,Nat.reduceLT]
   ·intro j hj
    by_cases hjt:(j:Int) < n
    ·have j0:(0:Int)≤j:=by omega
     have d0:=G.cell j (by omega)
     have p0:=G.ok j (by omega)
     have hA2:=G.some_ (by omega)
     have hml:=A3x (Bl n (R.map (·.l)) i) (ix R i).l j (by omega)
     have hmg:=A3y (Bl n (R.map (·.l)) i) (ix R i).l j (by omega)
     have hms:=A3z (Bl n (R.map (·.l)) i) (ix R i).l j (by omega)
     simp only[hjt,j0,d0,p0,hA2,hml,hs,hmg,hms,undef,push_cast,↓Int.toNat_natCast,↓reduceIte,reduceCtorEq,Nat.reduceEqDiff,Nat.reduceLT,Int.reduceNeg]
     (repeat (refine And.intro (by first|omega|decide) ?_))
     refine Ay (j+1) [0] (by omega) (by omega) ?_
     simp only[push_cast,↓reduceIte,Nat.reduceEqDiff,Nat.reduceLT]
    ·have e:j=n:=by omega
     subst e
     have hma:=(A3w (Bl j (R.map (·.l)) i) (ix R i).l j (by omega)).trans hsi.symm
     simp only[hjt,hma,push_cast,↓reduceIte,Nat.reduceEqDiff,Nat.reduceLT,Int.reduceNeg]
     (repeat (refine And.intro (by first|omega|decide) ?_))
     refine Ay (i+1) [0] (by omega) (by omega) ?_
     simp only[push_cast,↓reduceIte,Nat.reduceEqDiff,Nat.reduceLT]
  ·have e:i=R.length:=by omega
   subst e
   simp only[hlt,Gb,Da,push_cast,↓reduceIte,Nat.reduceEqDiff,Nat.reduceLT]
end Go.Proofs.YtedaafmfjhjfmaaGreatDoor
