import Derived.Test.YtedaafmfjhjfmaaGreatDoorDrT
import Derived.Test.YtedaafmfjhjfmaaGreatDoorShA
import Derived.Test.YtedaafmfjhjfmaaGreatDoorLwA
import Derived.Test.YtedaafmfjhjfmaaGreatDoorLq1
import Derived.Test.YtedaafmfjhjfmaaGreatDoorMg4
/- Rows of numbers: vec.Zero, vec.Sum, and the document's sum of two rows. -/
namespace Go.Proofs.YtedaafmfjhjfmaaGreatDoor
open _root_.Go.Proofs.Tryz
set_option linter.unusedSimpArgs false
set_option linter.unusedVariables false
section
open Go.RowKit
def Dr (F:UInt32→UInt32→UInt32) (a b:List UInt32):Nat→List UInt32
 |0=>[]
 |i+1=>Dr F a b i++[F (ix a i) (ix b i)]
theorem Ws (F:UInt32→UInt32→UInt32) (a b:List UInt32):Dr F a b 0=[]:=rfl
theorem O2 (F:UInt32→UInt32→UInt32) (a b:List UInt32) (i:Nat):Dr F a b (i+1)=Dr F a b i++[F (ix a i) (ix b i)]:=rfl
theorem Lf (F:UInt32→UInt32→UInt32) (a b:List UInt32) (i:Nat):(Dr F a b i).length=i:=by
 induction i with
 |zero=>rfl
 |succ i ih=>simp [Dr,ih]
def Fv (a b:List UInt32):Bool:=decide (a.length≤32)&&decide (a.length=b.length)
def I9 (F:UInt32→UInt32→UInt32) (a b:List UInt32):List UInt32:=if Fv a b=true then Dr F a b a.length else []
theorem Ads {F:UInt32→UInt32→UInt32} {a b:List UInt32} (h:Fv a b=false):I9 F a b=[]:=by unfold I9;rw[h];rfl
theorem Adt {F:UInt32→UInt32→UInt32} {a b:List UInt32} (h:Fv a b=true):I9 F a b=Dr F a b a.length:=by unfold I9;rw[h];rfl
def zOk (n:Int):Bool:=decide (0≤n∧n≤32)
def Gw (n:Int):List UInt32:=if zOk n=true then List.replicate n.toNat 0 else []
def Hf (n:Int):Value:=if zOk n=true then .nilIface else .iface 91 (.int .i64 1)
theorem S7 {n:Int} (h:n < 0∨32 < n):zOk n=false:=by unfold zOk;exact decide_eq_false (by omega)
theorem S8 {n:Int} (h:¬n < 0) (h2:¬32 < n):zOk n=true:=by unfold zOk;exact decide_eq_true (by omega)
set_option maxRecDepth 100000 in
theorem Av1 (n:Int) (w:World):Calls prog 130 #[.int .i64 n] w fun e w'=>∃v,e=.returned (.tuple #[v,Hf n])∧Own w' w.heap.size 111 v ((Gw n).map Ap)∧Below w.heap.size w w':=by
 have h0:=fun h=>Nv (P:=prog) (w:=w) (n:=13) func130 rfl ntmps130 [.x (.a (.v (.int .i64 n)))] (by simp) 111 (.u32 (Gw n)) (Hf n) (vs:=(Gw n).map Ap) (fun _=>rfl) h
 refine h0 ?_
 clear h0
 by_cases h1:n < 0
 ·have e1:Gw n=[]:=by unfold Gw;rw[S7 (.inl h1)];rfl
  have e2:Hf n=.iface 91 (.int .i64 1):=by unfold Hf;rw[S7 (.inl h1)];rfl
  rw[e1,e2]
  simp only[h1,undef,Hb,Dm,push_cast,↓reduceIte,reduceCtorEq,Nat.reduceEqDiff,Nat.reduceLT]
 by_cases h2:32 < n
 ·have e1:Gw n=[]:=by unfold Gw;rw[S7 (.inr h2)];rfl
  have e2:Hf n=.iface 91 (.int .i64 1):=by unfold Hf;rw[S7 (.inr h2)];rfl
  rw[e1,e2]
  simp only[h1,h2,Hb,Dm,push_cast,↓reduceIte,reduceCtorEq,Nat.reduceEqDiff,Nat.reduceLT]
 have e1:Gw n=List.replicate n.toNat 0:=by unfold Gw;rw[S8 h1 h2];rfl
 have e2:Hf n=.nilIface:=by unfold Hf;rw[S8 h1 h2];rfl
 rw[e1,e2]
 simp only[h1,h2,Hb,Dm,push_cast,↓Int.cast_ofNat_Int,Int.cast_ofNat_Int,↓reduceIte,reduceCtorEq,Nat.reduceEqDiff,Nat.reduceLT]
 all_goals omega
theorem Av2 {w0:World} {ow:Nat→Prop} {hp:List Res} (n:Int) (hbr:∀r∈hp,Res.bnd hp.length r):
  Ad prog w0 ow 130 [.x (.a (.v (.int .i64 n)))] hp (.t [.a (.o hp.length),.a (.v (Hf n))]) (hp++[.own 111 (.u32 (Gw n))]):=Q7 hbr trivial fun _ w _=>Av1 n w
def Gx (k:UInt64) (x y:UInt32):UInt32:=((x.toUInt64+k*y.toUInt64) % 4294967296).toUInt32
theorem Av3 (x y:UInt32):Gx 1 x y=x+y:=by
 unfold Gx
 rw[←UInt32.toNat_inj,UInt64.toNat_toUInt32,UInt64.toNat_mod,UInt64.toNat_add,UInt64.toNat_mul,UInt32.toNat_toUInt64,UInt32.toNat_toUInt64,UInt32.toNat_add]
 have hx:=x.toNat_lt
 have hy:=y.toNat_lt
 show (x.toNat+1*y.toNat % 18446744073709551616) % 18446744073709551616 % 4294967296 % 4294967296=_
 omega
theorem Av4 {F G:UInt32→UInt32→UInt32} (h:∀x y,F x y=G x y) (a b:List UInt32) (n:Nat):Dr F a b n=Dr G a b n:=by
 induction n with
 |zero=>rfl
 |succ n ih=>rw[O2,O2,ih,h]
attribute [local irreducible] Dr Gx
set_option maxRecDepth 100000 in
theorem Av5 (a b:List UInt32) (k:UInt64) (A:Option Addr) (c:Nat) (A2:Option Addr) (c2:Nat) (w:World) (hR:RdV w w.heap.size A (a.map Ap)) (hR2:RdV w w.heap.size A2 (b.map Ap)):
  Calls prog 16 #[.slice A a.length c,.slice A2 b.length c2,vU64 k] w fun e w'=>∃v,e=.returned (.tuple #[v,.bool (Fv a b)])∧Own w' w.heap.size 111 v ((I9 (Gx k) a b).map Ap)∧Below w.heap.size w w':=by
 have F:=F32.of (FV.no hR)
 have G:=F32.of (FV.no hR2)
 have h0:=fun h=>Nv (P:=prog) (w:=w) (n:=45) func16 rfl ntmps16 ([.x (.a (.v (.slice A a.length c))),.x (.a (.v (.slice A2 b.length c2)))]++[.x (.a (.v (vU64 k)))]) (by simp) 111 (.u32 (I9 (Gx k) a b)) (.bool (Fv a b)) (vs:=(I9 (Gx k) a b).map Ap) (fun _=>rfl) h
 refine h0 ?_
 clear h0
 by_cases h1:(32:Int) < a.length
 ·have hok:Fv a b=false:=by unfold Fv;rw[decide_eq_false (by omega)];rfl
  rw[Ads hok,hok]
  simp only[h1,undef,Hb,Dm,push_cast,↓reduceIte,reduceCtorEq,Nat.reduceEqDiff,Nat.reduceLT,Nat.reduceAdd]
 by_cases h2:(a.length:Int)=b.length
 ·have hok:Fv a b=true:=by unfold Fv;rw[decide_eq_true (by omega),decide_eq_true (by omega)];rfl
  have h3:¬(32:Int) < b.length:=by omega
  rw[Adt hok,hok]
  simp only[h3,h2,push_cast,↓reduceIte,reduceCtorEq,Nat.reduceEqDiff,Nat.reduceLT,Nat.reduceAdd]
  refine L8 8 111 (.u32 []) rfl rfl trivial (by simp only[push_cast]) ?_
  refine Bj (ι:=Nat) (fun i=>⟨[(0,.x (.a (.v (.slice A a.length c)))),(1,.x (.a (.v (.slice A2 b.length c2)))),(2,.x (.a (.v (vU64 k)))),(8,.x (.a (.o 0))),(9,.x (.a (.v (.int .i64 i))))],[.own 111 (.u32 (Dr (Gx k) a b i))]⟩) (fun i=>i≤b.length) (fun i=>b.length - i) 0 [0] (by omega) ?_ ?_
  ·simp only[Ws,push_cast,↓Int.cast_ofNat_Int,Int.cast_ofNat_Int,↓reduceIte,reduceCtorEq,Nat.reduceEqDiff,Nat.reduceLT]
  ·intro i hi
   have hol:=Lf (Gx k) a b i
   by_cases hlt:(i:Int) < b.length
   ·have i0:(0:Int)≤i:=by omega
    have c0:=F.cell i (by omega)
    have o0:=F.ok i (by omega)
    have d0:=G.cell i (by omega)
    have p0:=G.ok i (by omega)
    have hA:=F.some_ (by omega)
    have hA2:=G.some_ (by omega)
    simp only[h2,hlt,push_cast,↓reduceIte,reduceCtorEq,Nat.reduceEqDiff,Nat.reduceLT]
    (repeat (refine And.intro (by first|omega|decide) ?_))
    refine Ha 17 [(0,true),(1,true),(2,true),(3,true),(4,true),(5,true),(6,true),(7,true),(8,true),(9,true),(10,true),(11,true),(12,true),(13,true),(14,true),(15,true),(16,false)] (by kernel_rfl) (by kernel_rfl) ?_
    simp only[h2,hlt,i0,c0,o0,d0,p0,hA,hA2,hol,undef,push_cast,↓Int.toNat_natCast,↓reduceIte,reduceCtorEq,Nat.reduceEqDiff,Nat.reduceLT,Nat.reduceLeDiff,Nat.reduceAdd,Int.reduceNeg]
    (repeat (refine And.intro (by first|omega|decide) ?_))
    refine Ba (i+1) [2] (by omega) (by omega) ?_
    simp only[push_cast,↓reduceIte,reduceCtorEq,Nat.reduceEqDiff,Nat.reduceLT]
    exact ((O2 (Gx k) a b i).trans (by unfold Gx;rfl)).symm
   ·have e:i=b.length:=by omega
    subst e
    have e2:a.length=b.length:=by omega
    simp only[hlt,e2,Hb,Dm,push_cast,↓reduceIte,reduceCtorEq,Nat.reduceEqDiff,Nat.reduceLT]
 ·have hok:Fv a b=false:=by unfold Fv;rw[decide_eq_false (by omega:¬a.length=b.length),Bool.and_false]
  rw[Ads hok,hok]
  simp only[h1,h2,Hb,Dm,push_cast,↓reduceIte,reduceCtorEq,Nat.reduceEqDiff,Nat.reduceLT,Nat.reduceAdd]
theorem Av6 {w0:World} {hp:List Res} {s1 s2:Sv} {a b:List UInt32} (k:UInt64) (h1:Bg w0 No hp s1 (a.map Ap)) (h2:Bg w0 No hp s2 (b.map Ap)) (hbr:∀r∈hp,Res.bnd hp.length r):
  Ad prog w0 No 16 [s1,s2,.x (.a (.v (vU64 k)))] hp (.t [.a (.o hp.length),.a (.v (.bool (Fv a b)))]) (hp++[.own 111 (.u32 (I9 (Gx k) a b))]):=Q7 hbr trivial fun γ w hS=>by
 obtain⟨A,c,e1,b1,r1⟩:=h1 γ w hS
 obtain⟨A2,c2,e2,b2,r2⟩:=h2 γ w hS
 rw[List.length_map] at e1 e2
 show Calls _ _ #[s1.val γ,s2.val γ,vU64 k] w _
 rw[e1,e2]
 exact Av5 a b k A c A2 c2 w r1 r2
end
section
open Go.RowKit
def B1 (n:Nat) (L:List (List UInt32)):Nat→List UInt32
 |0=>List.replicate n 0
 |i+1=>Dr (·+·) (B1 n L i) (ix L i) n
theorem Adu (n:Nat) (L:List (List UInt32)):B1 n L 0=List.replicate n 0:=rfl
theorem Wt (n:Nat) (L:List (List UInt32)) (i:Nat):B1 n L (i+1)=Dr (·+·) (B1 n L i) (ix L i) n:=rfl
theorem Adv (n:Nat) (L:List (List UInt32)) (i:Nat):(B1 n L i).length=n:=by
 cases i with
 |zero=>simp [B1]
 |succ i=>rw[Wt,Lf]
def Gd (a b:List UInt32) (j:Nat):List UInt32:=Dr (·+·) a b j++a.drop j
theorem Av7 (a b:List UInt32):Gd a b 0=a:=by simp [Gd,Ws]
theorem Av8 (a b:List UInt32) (n:Nat) (h:a.length=n):Gd a b n=Dr (·+·) a b n:=by simp [Gd,←h]
theorem Av9 (a b:List UInt32) (j:Nat) (h:j≤a.length):(Gd a b j).length=a.length:=by
 unfold Gd
 rw[List.length_append,Lf,List.length_drop];omega
theorem Awa (a b:List UInt32) (j:Nat) (_h:j < a.length):ix (Gd a b j) j=ix a j:=by
 unfold Gd ix
 rw[List.getD_eq_getElem?_getD,List.getElem?_append_right (by rw[Lf];omega),Lf,Nat.sub_self,List.getElem?_drop,Nat.add_zero,List.getD_eq_getElem?_getD]
theorem Awb (a b:List UInt32) (j:Nat) (h:j < a.length):(Gd a b j).set j (ix a j+ix b j)=Gd a b (j+1):=by
 unfold Gd
 rw[List.set_append_right _ _ (by rw[Lf];omega),Lf,Nat.sub_self,O2,List.append_assoc]
 congr 1
 rw[List.drop_eq_getElem_cons h]
 rfl
attribute [local irreducible] Dr Gd B1
attribute [local irreducible] Ac Ad Ah Au Ao Aj Ai Al
set_option maxRecDepth 100000 in
set_option maxHeartbeats 4000000 in
theorem Awc (R:List Rw) (n:Nat) (hn:n≤32) (hRl:R.length≤1000) (A:Option Addr) (c:Nat) (w:World) (hR:RdV w w.heap.size A (R.map Rw.val)) (hr:∀i,i < R.length→(ix R i).l.length=n∧RdV w w.heap.size (ix R i).A ((ix R i).l.map Ap)):
  Calls prog 84 #[.slice A R.length c,.int .i64 n] w fun e w'=>∃v,e=.returned (.tuple #[v,.nilIface])∧Own w' w.heap.size 111 v ((B1 n (R.map (·.l)) R.length).map Ap)∧Below w.heap.size w w':=by
 have F:=FM.of hR
 have h0:=fun h=>Nv (P:=prog) (w:=w) (n:=48) func84 rfl ntmps84 [.x (.a (.v (.slice A R.length c))),.x (.a (.v (.int .i64 n)))] (by simp) 111 (.u32 (B1 n (R.map (·.l)) R.length)) .nilIface (vs:=(B1 n (R.map (·.l)) R.length).map Ap) (fun _=>rfl) h
 refine h0 ?_
 clear h0
 have ez:Gw n=B1 n (R.map (·.l)) 0:=by unfold Gw;rw[S8 (by omega) (by omega),Int.toNat_natCast,Adu];rfl
 have eze:Hf n=.nilIface:=by unfold Hf;rw[S8 (by omega) (by omega)];rfl
 simp only[push_cast,↓reduceIte,reduceCtorEq,Nat.reduceEqDiff,Nat.reduceLT]
 refine Gl rfl Ao5 rfl (Av2 n (by simp only[push_cast])) (Aa rfl) (by simp only[push_cast]) ?_
 simp only[ez,eze,push_cast,↓reduceIte,reduceCtorEq,Nat.reduceEqDiff,Nat.reduceLT]
 refine Bj (ι:=Nat) (fun i=>⟨[(1,.x (.a (.v (.int .i64 n)))),(6,.x (.a (.o 0))),(20,.x (.a (.v (.slice A R.length c)))),(21,.x (.a (.v (.int .i64 R.length)))),(22,.x (.a (.v (.int .i64 i))))],[.own 111 (.u32 (B1 n (R.map (·.l)) i))]⟩) (fun i=>i≤R.length) (fun i=>R.length - i) 0 [0] (by omega) ?_ ?_
 ·simp only[push_cast,↓Int.cast_ofNat_Int,Int.cast_ofNat_Int,↓reduceIte,reduceCtorEq,Nat.reduceEqDiff,Nat.reduceLT]
 ·intro i hi
  by_cases hlt:(i:Int) < R.length
  ·have hlt':i < R.length:=by omega
   have i0:(0:Int)≤i:=by omega
   have c0:A7 w (Af A i)=.slice (ix R i).A (ix R i).l.length (ix R i).c:=F.cell i hlt'
   have o0:=F.ok i hlt'
   have hA:=F.some_ (by omega)
   obtain⟨hl,hRi⟩:=hr i hlt'
   have G:=FM.of hRi
   have hs:=Adv n (R.map (·.l)) i
   have hsi:=Wt n (R.map (·.l)) i
   have hix:ix (R.map (·.l)) i=(ix R i).l:=by simp [ix,List.getD_eq_getElem?_getD,hlt']
   rw[hix] at hsi
   rw[hl] at c0
   simp only[hlt,i0,c0,o0,hA,push_cast,↓Int.toNat_natCast,↓reduceIte,reduceCtorEq,Nat.reduceEqDiff,Nat.reduceLT]
   (repeat (refine And.intro (by first|omega|decide) ?_))
   refine Bj (ι:=Nat) (fun j=>⟨[(1,.x (.a (.v (.int .i64 n)))),(6,.x (.a (.o 0))),(20,.x (.a (.v (.slice A R.length c)))),(21,.x (.a (.v (.int .i64 R.length)))),(22,.x (.a (.v (.int .i64 i)))),(31,.x (.a (.v (.slice (ix R i).A n (ix R i).c)))),(32,.x (.a (.v (.int .i64 n)))),(33,.x (.a (.v (.int .i64 j))))],[.own 111 (.u32 (Gd (B1 n (R.map (·.l)) i) (ix R i).l j))]⟩) (fun j=>j≤n) (fun j=>n - j) 0 [0] (by omega) ?_ ?_
   ·simp only[Av7,push_cast,↓Int.cast_ofNat_Int,Int.cast_ofNat_Int,↓reduceIte,Nat.reduceEqDiff,Nat.reduceLT]
   ·intro j hj
    by_cases hjt:(j:Int) < n
    ·have j0:(0:Int)≤j:=by omega
     have d0:=G.cell j (by omega)
     have p0:=G.ok j (by omega)
     have hA2:=G.some_ (by omega)
     have hml:=Av9 (B1 n (R.map (·.l)) i) (ix R i).l j (by omega)
     have hmg:=Awa (B1 n (R.map (·.l)) i) (ix R i).l j (by omega)
     have hms:=Awb (B1 n (R.map (·.l)) i) (ix R i).l j (by omega)
     simp only[hjt,j0,d0,p0,hA2,hml,hs,hmg,hms,undef,push_cast,↓Int.toNat_natCast,↓reduceIte,reduceCtorEq,Nat.reduceEqDiff,Nat.reduceLT,Int.reduceNeg]
     (repeat (refine And.intro (by first|omega|decide) ?_))
     refine Ba (j+1) [0] (by omega) (by omega) ?_
     simp only[push_cast,↓reduceIte,Nat.reduceEqDiff,Nat.reduceLT]
    ·have e:j=n:=by omega
     subst e
     have hma:=(Av8 (B1 j (R.map (·.l)) i) (ix R i).l j (by omega)).trans hsi.symm
     simp only[hjt,hma,push_cast,↓reduceIte,Nat.reduceEqDiff,Nat.reduceLT,Int.reduceNeg]
     (repeat (refine And.intro (by first|omega|decide) ?_))
     refine Ba (i+1) [0] (by omega) (by omega) ?_
     simp only[push_cast,↓reduceIte,Nat.reduceEqDiff,Nat.reduceLT]
  ·have e:i=R.length:=by omega
   subst e
   simp only[hlt,Hb,Dm,push_cast,↓reduceIte,Nat.reduceEqDiff,Nat.reduceLT]
end
section
open Go.RowKit
theorem Adw {a b:List UInt32}:∀{n:Nat},n≤a.length→n≤b.length→Dr (·+·) a b n=List.zipWith (·+·) (a.take n) (b.take n)
 |0,_,_=>by simp [Ws]
 |n+1,ha,hb=>by
  rw[O2,Adw (by omega) (by omega),List.take_add_one,List.take_add_one,List.getElem?_eq_getElem (by omega),List.getElem?_eq_getElem (by omega),Option.toList_some,Option.toList_some,List.zipWith_append (by simp;omega)]
  simp [ix,List.getD_eq_getElem?_getD,List.getElem?_eq_getElem (show n < a.length by omega),List.getElem?_eq_getElem (show n < b.length by omega)]
theorem Adx {a b:List UInt32} {n:Nat} (ha:a.length=n) (hb:b.length=n):Dr (·+·) a b n=Bz a b:=by
 rw[Adw (by omega) (by omega),List.take_of_length_le (by omega),List.take_of_length_le (by omega)]
 rfl
theorem Awd {α β:Type} (f:β→α→β) (b:β) (l:List α) (x:α):(l++[x]).foldl f b=f (l.foldl f b) x:=by rw[List.foldl_append];rfl
theorem Ady (n:Nat) (L:List (List UInt32)) (h:∀r∈L,r.length=n):∀i,i≤L.length→B1 n L i=(L.take i).foldl Bz (List.replicate n 0)
 |0,_=>by rw[Adu,List.take_zero];rfl
 |i+1,hi=>by
  have hii:i < L.length:=by omega
  have e:ix L i=L[i]:=by
   unfold ix
   rw[List.getD_eq_getElem?_getD,List.getElem?_eq_getElem hii]
   rfl
  rw[Wt,Adx (Adv n L i) (by rw[e];exact h _ (List.getElem_mem hii)),Ady n L h i (by omega),List.take_add_one,List.getElem?_eq_getElem hii,Option.toList_some,Awd,e]
attribute [local irreducible] Ac Ad Ah Au Ao Aj Ai Al
attribute [local irreducible] A9 okV Ak erV Tal.can Tal.st B1
def Adz (x:SlV UInt32):Rw:=⟨x.A,x.c,x.l⟩
def A2y (r:LfR) (ids:List Int):List Rw:=ids.map fun id=>Adz ((Az r.rows id).getD default)
def Awe (pl ge:Int) (ids row:Value) (a b:Nat):List At:=mgL (.v (vU8 6)) (.v (.int .i64 pl)) (.v (.int .i64 0)) (.v (.int .i64 0)) (.v (.int .i64 ge)) (.v (vU64 0)) (List.replicate 32 0) (.v ids) (.s a 0 2 2) (.o b) (.v row) (.v (.int .i64 0))
structure SumX where
 A1:Option Addr
 cap1:Nat
 A2:Option Addr
 cap2:Nat
 out:SlV SnR
 G:List Fct
def A2z (r:LfR) (x:SumX):Prop:=x.out.l.map SnR.s=r.s.tell.2∧OutOk x.G x.out
def Awf (r:LfR) (A1:Option Addr) (cap1:Nat) (A2:Option Addr) (cap2:Nat):List Fct:=[⟨.slice A1 r.ty.inn.l.length cap1,r.ty.inn.l.length,r.ty.inn.l.map (Value.int .i64)⟩,⟨.slice A2 (r.s.rowSum r.ty.inn.l).length cap2,(r.s.rowSum r.ty.inn.l).length,(r.s.rowSum r.ty.inn.l).map Ap⟩]
def Awg (r:LfR) (n:Nat) (ph:Int) (m:List At):List At:=.v (.int .i64 r.place):: .v (.int .i64 r.gen):: .v (.int .i64 (n:Int)):: .v (.int .i64 r.term):: .v (.int .i64 r.need):: .v (.int .i64 r.parent):: .v r.above.val:: .v r.group.val:: .v (.int .i64 ph):: .v r.waits.val:: .p 1 0:: .v r.joined.val:: .o 2:: .o 3:: .o 4::m
def A20 (g:Nat) (r:LfR) (n:Nat) (x:SumX):List Res:=[.pin g 104 (.c (Awg r n 3 (Awe r.place r.gen (.slice x.A1 r.ty.inn.l.length x.cap1) (.slice x.A2 (r.s.rowSum r.ty.inn.l).length x.cap2) 6 7))),.blk 170 (.c (tlA r.ty)),.mp .i64 (puE r.pub),bxR r,.mp .i64 (slE r.rows),.abs (fctRep (Awf r x.A1 x.cap1 x.A2 x.cap2++x.G)),.blk 41 (.u64 [UInt64.ofInt r.place,UInt64.ofInt r.gen]),.onn 115 2 (.c (pcs (r.s.peers r.waits.l)))]
def A21 (r:LfR):MgS:={D1 6 with pl:=r.place,ge:=r.gen,ids:=r.ty.inn.l,ns:=[UInt64.ofInt r.place,UInt64.ofInt r.gen],ps:=r.s.peers r.waits.l,xs:=r.s.rowSum r.ty.inn.l}
end
section
open Go.RowKit
attribute [local irreducible] Ac Ad Ah Au Ao Aj Ai Al
attribute [local irreducible] A9 okV Ak erV Tal.can Tal.st B1
def A22 (f:FuncId) (r:LfR) (Fs:List Fct) (s:LfS) (out:List SnS) (g:Nat) (w:World) (B:Nat→Prop):Prop:=
 Calls prog f #[.pointer (some ⟨g,0,none⟩)] w fun e w'=>∃(x:LfR×SlV SnR×List Fct) (γ1:List Nm),Av0 Fs s out x∧e=.returned x.2.1.val∧Sat w B γ1 (lfB g x.1++[.abs (fctRep x.2.2)]) w'
section
variable {r:LfR} {g:Nat} {w:World} {B:Nat→Prop} {γ:List Nm} {Fs:List Fct}
end
end
section
structure LfBx (s:LfS):Prop where
 box:s.phase=1→s.waits=s.joined∧∀f∈s.tally.inn,∃x,Az s.boxes f=some x∧x.length=2*s.joined.length
theorem Wu {l:List Int} (h:Bn (-1) l=true):l.length≤64:=by
 have hn:=Aqw (Jr.1 h).2
 have:=Acb hn (m:=(List.range 64).map Int.ofNat) fun x hx=>by
  have hx:=K4 h x hx
  exact List.mem_map.2 ⟨x.toNat,List.mem_range.2 (by omega),by show ((x.toNat:Nat):Int)=x;omega⟩
 rw[List.length_map,List.length_range] at this
 exact this
end
section
open Go.RowKit
attribute [local irreducible] Ac Ad Ah Au Ao Aj Ai Al
attribute [local irreducible] A9 okV Ak erV Tal.can Tal.st B1
section
variable {r:LfR} {g:Nat} {w:World} {B:Nat→Prop} {γ:List Nm} {Fs:List Fct}
structure OnOk (r:LfR) (Fs:List Fct):Prop where
 ok:LfOk Fs r
 inv:LfInv r.s [] none∨∃R,LfInv r.s R none
 bx:LfBx r.s
 live:r.phase < 2→r.live=true
 term:1≤r.term∧r.term≤1000
end
end
section
open Go.RowKit
section
variable {P:Program} {w0:World} {ow:Nat→Prop} {n:Nat} {s:S}
theorem Awh {a:Act} {w:World} {j m k i nn:Nat} {e t:TypeId} {c:Cont} {cells:List At} {vs:List Value} {l:List Fct} (hj:s.hp[j]?=some (.blk e c)) (hm:Ch s.hp[m]?=some (t,.c cells)) (hi:cells[i]?=some (.s j 0 nn nn)) (hv:∀γ,c.vals γ=vs) (hl:vs.length=nn) (hk:s.hp[k]?=some (.abs (fctRep l))) (hjk:j≠k) (hjm:m≠j) (hmk:m≠k) (hmax:nn≤maxLen) (hf:Fits w0 ow n s a w):
  ∃A,Fits w0 ow n ⟨s.fr,((s.hp.set m (De s.hp[m]? t (.c (cells.set i (.v (.slice A nn nn)))))).set j .gone).set k (.abs (fctRep (l++[⟨.slice A nn nn,nn,vs⟩])))⟩ a w:=by
 obtain⟨γ,hf⟩:=hf
 have h0:=hf.sat
 have hns:=h0.rdBlk hj 0
 rw[hv,List.drop_zero] at hns
 have hrc:=h0.recell (c':=.c (cells.set i (.v (.slice (some ⟨nmB γ j,0,none⟩) nn nn)))) hm (by
  show (cells.set i _).map (At.val γ)=cells.map (At.val γ)
  rw[List.map_set]
  exact As8 (by rw[List.getElem?_map,hi];rfl))
 obtain⟨γ',eB,eS,h3⟩:=hrc.absorbs (j:=j) (k:=k) (l:=l) (fs:=[⟨.slice (some ⟨nmB γ j,0,none⟩) nn nn,nn,vs⟩]) (r:=.blk e c) (by rw[List.getElem?_set_ne hjm];exact hj) (by rw[List.getElem?_set_ne hmk];exact hk) hjk (X:=fun b=>some (nmB γ j)=some b) (fun b hb=>hb) fun f hf=>by
   rw[List.mem_singleton.1 hf]
   refine⟨some ⟨nmB γ j,0,none⟩,nn,rfl,Nat.le_refl _,hmax,fun hp=>⟨nmB γ j,0,rfl,rfl,fun q u hu=>?_⟩⟩
   obtain⟨b,off,e1,_,e2⟩:=hns hp
   cases e1
   exact e2 q u hu
 refine⟨some ⟨nmB γ j,0,none⟩,γ',h3,hf.defers,hf.size,fun u sv hu=>?_⟩
 rw[Mf eB eS]
 exact hf.at_ u sv hu
theorem Awi {id:Nat} {ops:List Oper} {K:Exit→S→Prop} (j m k i nn:Nat) {e t:TypeId} {c:Cont} {cells:List At} {vs:List Value} {l:List Fct} (hj:s.hp[j]?=some (.blk e c)) (hm:Ch s.hp[m]?=some (t,.c cells)) (hi:cells[i]?=some (.s j 0 nn nn)) (hv:∀γ,c.vals γ=vs) (hl:vs.length=nn) (hk:s.hp[k]?=some (.abs (fctRep l))) (hjk:j≠k) (hjm:m≠j) (hmk:m≠k) (hmax:nn≤maxLen)
  (h:∀A,Ao P w0 ow n id ops ⟨s.fr,((s.hp.set m (De s.hp[m]? t (.c (cells.set i (.v (.slice A nn nn)))))).set j .gone).set k (.abs (fctRep (l++[⟨.slice A nn nn,nn,vs⟩])))⟩ K):Ao P w0 ow n id ops s K:=fun a w hf=>by
 obtain⟨A,h1⟩:=Awh hj hm hi hv hl hk hjk hjm hmk hmax hf
 exact h A a w h1
end
attribute [local irreducible] Ac Ad Ah Au Ao Aj Ai Al
attribute [local irreducible] A9 okV Ak erV Tal.can Tal.st B1
section
variable {r:LfR} {g:Nat} {w:World} {B:Nat→Prop} {γ:List Nm} {Fs:List Fct}
def Hg (ge:Int) (a:At):List At:=mgL (.v (vU8 17)) (.v (.int .i64 0)) (.v (.int .i64 0)) (.v (.int .i64 0)) (.v (.int .i64 ge)) (.v (vU64 0)) (List.replicate 32 0) a Mu Mu Mu (.v (.int .i64 0))
theorem Awj (ge:Int) (a:At):(((mgA zeroR).set 0 (.v (.int .u8 17))).set 4 (.v (.int .i64 ge))).set 38 a=Hg ge a:=rfl
theorem Ad0 {q:At→Prop} (h:∀v:Value,v.oneCell'=true→scalar v→q (.v v)) {ge:Int} {a:At} (ha:q a):∀x∈Hg ge a,q x:=On (fun _=>h _ rfl trivial) (h _ rfl trivial) (h _ rfl trivial) (h _ rfl trivial) (h _ rfl trivial) (h _ rfl trivial) (h _ rfl trivial) ha (h _ rfl trivial) (h _ rfl trivial) (h _ rfl trivial) (h _ rfl trivial)
theorem Ad1 (n:Nat) (ge:Int) (k:Nat) (hk:k < n):(∀x∈Hg ge (.s k 0 1 1),x.bnd n)=True:=eq_true (Ad0 (fun _ _ _=>trivial) hk)
theorem Awk (ρ:List Nat) (ge:Int) (a:At):(Hg ge a).map (At.ren ρ)=Hg ge (a.ren ρ):=Oo ..
theorem Ad2 (ρ:List Nat) (ge:Int) (a:At):Sv.ren ρ (.x (.g (Hg ge a)))=.x (.g (Hg ge (a.ren ρ))):=by
 show Sv.x (.g _)=_
 rw[Awk]
theorem Awl (ge:Int) (a:At):(Hg ge a).length=43:=K9 rfl
def A23 (r:LfR) (A:Option Addr):MgR:={zeroR with k:=17,ge:=r.gen,ids:=⟨A,1,[r.place]⟩}
end
end
section
open Go.RowKit
attribute [local irreducible] Ac Ad Ah Au Ao Aj Ai Al
attribute [local irreducible] A9 okV Ak erV Tal.can Tal.st B1
section
variable {r:LfR} {g:Nat} {w:World} {B:Nat→Prop} {γ:List Nm} {Fs:List Fct}
theorem Awm {w:World} {γ:List Nm} {k:Nat} {r:TalR} {Fs:List Fct} (ok:TalOk Fs r) {γ0:List Nm} (h0:nmB γ0 0=nmB γ k) (hS0:Sat w (fun b=>b=nmB γ k) γ0 [.pin (nmB γ k) 170 (.c (tlA r))] w):
  Calls prog 64 #[.pointer (some ⟨nmB γ k,0,none⟩)] w fun e w'=>∃(x:TalR×List Fct) (γ1:List Nm),(x.1.t=r.t.tick∧TalOk (Fs++x.2) x.1)∧e=.returned ((Sv.t []).val [])∧Sat w (fun b=>b=nmB γ k) γ1 [.pin (nmB γ k) 170 (.c (tlA x.1)),.abs (fctRep x.2)] w':=by
 have:=Atx r hS0 ok
 have e0:(List.map (Sv.val (γ0++[Nm.m (.bool true) (fun _=>False)])) [Sv.x (.a (.p 0 0))]).toArray=#[.pointer (some ⟨nmB γ k,0,none⟩)]:=by
  show #[Value.pointer (some ⟨nmB _ 0,0,none⟩)]=_
  rw[Dv (by rw[hS0.len];show 0 < 1;omega),h0]
 rw[e0] at this
 exact this
end
end
section
open Go.RowKit
theorem MgF.ok {m:MgR} {w0 w:World} {B:Nat→Prop} {γ:List Nm} {hp:List Res} (h:MgF m w0 B) (hS:Sat w0 B γ hp w):m.Ok w:=by
 have k:∀{A:Option Addr} {vs:List Value},FW w0 B A vs→RdV w w.heap.size A vs:=fun {A vs} h=>by
  obtain⟨A',c',e,_,r⟩:=Dq (hp:=hp) h vs.length vs.length rfl (Nat.le_refl _) γ w hS
  have e:Value.slice A vs.length vs.length=.slice A' vs.length c':=e
  injection e with e1 _ _
  rw[e1]
  exact r
 exact⟨h.few.sm,⟨h.ids.1,h.few.ids,k h.ids.2⟩,⟨h.ns.1,h.few.ns,k h.ns.2⟩,⟨h.ps.1,h.few.ps,k h.ps.2⟩,⟨h.xs.1,h.few.xs,k h.xs.2⟩⟩
attribute [local irreducible] Ac Ad Ah Au Ao Aj Ai Al
attribute [local irreducible] A9 okV Ak erV Tal.can Tal.st B1 Bq
theorem Awn {m:MgR} {w0:World} {B:Nat→Prop} {hp:List Res} (h:MgF m w0 B):Ad prog w0 B 55 [.x (.g (mgA m))] hp (.x (.a (.v (okV (Bq m.mg) 1)))) hp:=Bc fun γ w hS=>by
 have e:List.map (Sv.val γ) [.x (.g (mgA m))]=List.map (Sv.val []) [.x (.g (mgA m))]:=by
  simp only[List.map_cons,List.map_nil,Bi]
 rw[e]
 exact Ado m w (h.ok hS)
section
variable {r:LfR} {m:MgR} {g:Nat} {w:World} {B:Nat→Prop} {γ:List Nm} {Fs:List Fct}
end
end
section
open Go.RowKit
attribute [local irreducible] Ac Ad Ah Au Ao Aj Ai Al
attribute [local irreducible] A9 okV Ak erV Tal.can Tal.st B1 Bq
section
variable {r:LfR} {m:MgR} {g:Nat} {w:World} {B:Nat→Prop} {γ:List Nm} {Fs:List Fct}
def gvL (pl cl ge:Int) (a:At):List At:=mgL (.v (vU8 10)) (.v (.int .i64 pl)) (.v (.int .i64 0)) (.v (.int .i64 cl)) (.v (.int .i64 ge)) (.v (vU64 0)) (List.replicate 32 0) Mu a Mu Mu (.v (.int .i64 0))
def gvR (pl cl ge:Int) (ns:SlV UInt64):MgR:={zeroR with k:=10,pl:=pl,cl:=cl,ge:=ge,ns:=ns}
def gvH (g:Nat) (r:LfR) (m:MgR):List Res:=lfB g r++[.abs (fctRep []),.own 41 (.u64 m.ns.l),.onn 60 45 (.c (.v (.bool false):: .v (.int .i64 0)::gvL r.place m.cl m.ge (.o 6)))]
end
end
section
open Go.RowKit
def Lg (m:MgR):List Fct:=[⟨m.ids.val,m.ids.l.length,m.ids.l.map (Value.int .i64)⟩,⟨m.ns.val,m.ns.l.length,m.ns.l.map vU64⟩,⟨m.ps.val,m.ps.l.length,pvs m.ps.l⟩,⟨m.xs.val,m.xs.l.length,m.xs.l.map Ap⟩]
theorem MgF.known {m:MgR} {w:World} {B:Nat→Prop} (h:MgF m w B):Known w B (Lg m):=fun f hf=>by
 simp only[Lg,List.mem_cons,List.not_mem_nil,or_false] at hf
 rcases hf with rfl|rfl|rfl|rfl
 ·exact⟨_,_,rfl,h.ids.1,h.ids.2⟩
 ·exact⟨_,_,rfl,h.ns.1,h.ns.2⟩
 ·exact⟨_,_,rfl,h.ps.1,h.ps.2⟩
 ·exact⟨_,_,rfl,h.xs.1,h.xs.2⟩
theorem S9 {α:Type} {w:World} {B:Nat→Prop} {Fs:List Fct} {s:SlV α} {vs:List Value} (hk:Known w B Fs) (h:(⟨s.val,s.l.length,vs⟩:Fct)∈Fs):s.l.length≤s.c∧FW w B s.A vs:=by
 obtain⟨A,c,h1,h2,h3⟩:=hk _ h
 have h1:Value.slice s.A s.l.length s.c=.slice A s.l.length c:=h1
 injection h1 with e1 _ e3
 subst e1 e3
 exact⟨h2,h3⟩
theorem MgF.of {m:MgR} {w:World} {B:Nat→Prop} (h:Known w B (Lg m)) (hf:m.mg.Few):MgF m w B:=
 ⟨hf,S9 h (by simp [Lg]),S9 h (by simp [Lg]),S9 h (by simp [Lg]),S9 h (by simp [Lg])⟩
attribute [local irreducible] Ac Ad Ah Au Ao Aj Ai Al
attribute [local irreducible] A9 okV Ak erV Tal.can Tal.st B1 Bq
section
variable {r:LfR} {m:MgR} {g:Nat} {w:World} {B:Nat→Prop} {γ:List Nm} {Fs:List Fct}
end
end
end Go.Proofs.YtedaafmfjhjfmaaGreatDoor
