import Derived.Test.YtedaafmfjhjfmaaGreatDoorDrT
import Derived.Test.YtedaafmfjhjfmaaGreatDoorShA
import Derived.Test.YtedaafmfjhjfmaaGreatDoorLwA
import Derived.Test.YtedaafmfjhjfmaaGreatDoorLw0
import Derived.Test.YtedaafmfjhjfmaaGreatDoorMg4
/- Rows of numbers: vec.Zero, vec.Sum, and the document's sum of two rows. -/
namespace Go.Proofs.YtedaafmfjhjfmaaGreatDoor
open Go.RowKit
set_option linter.unusedSimpArgs false
set_option linter.unusedVariables false
def En (F:UInt32→UInt32→UInt32) (a b:List UInt32):Nat→List UInt32
 |0=>[]
 |i+1=>En F a b i++[F (ix a i) (ix b i)]
theorem Aau (F:UInt32→UInt32→UInt32) (a b:List UInt32):En F a b 0=[]:=rfl
theorem Aav (F:UInt32→UInt32→UInt32) (a b:List UInt32) (i:Nat):En F a b (i+1)=En F a b i++[F (ix a i) (ix b i)]:=rfl
theorem Lg (F:UInt32→UInt32→UInt32) (a b:List UInt32) (i:Nat):(En F a b i).length=i:=by
 induction i with
 |zero=>rfl
 |succ i ih=>simp [En,ih]
def A3c (a b:List UInt32):Bool:=decide (a.length≤32)&&decide (a.length=b.length)
def A8a (F:UInt32→UInt32→UInt32) (a b:List UInt32):List UInt32:=if A3c a b=true then En F a b a.length else []
def zOk (n:Int):Bool:=decide (0≤n∧n≤32)
def Fu (n:Int):List UInt32:=if zOk n=true then List.replicate n.toNat 0 else []
def F6 (n:Int):Value:=if zOk n=true then .nilIface else .iface 91 (.int .i64 1)
theorem Q4 {n:Int} (h:n < 0∨32 < n):zOk n=false:=by unfold zOk;exact decide_eq_false (by omega)
theorem Q5 {n:Int} (h:¬n < 0) (h2:¬32 < n):zOk n=true:=by unfold zOk;exact decide_eq_true (by omega)
set_option maxRecDepth 100000 in
theorem A3d (n:Int) (w:World):Calls Tryz.prog 130 #[.int .i64 n] w fun e w'=>∃v,e=.returned (.tuple #[v,F6 n])∧Own w' w.heap.size 111 v ((Fu n).map Ap)∧Below w.heap.size w w':=by
 have h0:=fun h=>Tf (P:=Tryz.prog) (w:=w) (n:=13) Tryz.func130 rfl Tryz.ntmps130 [.x (.a (.v (.int .i64 n)))] (by simp) 111 (.u32 (Fu n)) (F6 n) (vs:=(Fu n).map Ap) (fun _=>rfl) h
 refine h0 ?_
 clear h0
 by_cases h1:n < 0
 ·have e1:Fu n=[]:=by unfold Fu;rw[Q4 (.inl h1)];rfl
  have e2:F6 n=.iface 91 (.int .i64 1):=by unfold F6;rw[Q4 (.inl h1)];rfl
  rw[e1,e2]
  simp only[h1,undef,Ih,Dx,push_cast,↓reduceIte,reduceCtorEq,Nat.reduceEqDiff,Nat.reduceLT]
 by_cases h2:32 < n
 ·have e1:Fu n=[]:=by unfold Fu;rw[Q4 (.inr h2)];rfl
  have e2:F6 n=.iface 91 (.int .i64 1):=by unfold F6;rw[Q4 (.inr h2)];rfl
  rw[e1,e2]
  simp only[h1,h2,Ih,Dx,push_cast,↓reduceIte,reduceCtorEq,Nat.reduceEqDiff,Nat.reduceLT]
 have e1:Fu n=List.replicate n.toNat 0:=by unfold Fu;rw[Q5 h1 h2];rfl
 have e2:F6 n=.nilIface:=by unfold F6;rw[Q5 h1 h2];rfl
 rw[e1,e2]
 simp only[h1,h2,Ih,Dx,push_cast,↓Int.cast_ofNat_Int,Int.cast_ofNat_Int,↓reduceIte,reduceCtorEq,Nat.reduceEqDiff,Nat.reduceLT]
 all_goals omega
theorem A3e {w0:World} {ow:Nat→Prop} {hp:List Res} (n:Int) (hbr:∀r∈hp,Res.bnd hp.length r):
  Ae Tryz.prog w0 ow 130 [.x (.a (.v (.int .i64 n)))] hp (.t [.a (.o hp.length),.a (.v (F6 n))]) (hp++[.own 111 (.u32 (Fu n))]):=Af2 hbr trivial fun _ w _=>A3d n w
def A3f (k:UInt64) (x y:UInt32):UInt32:=((x.toUInt64+k*y.toUInt64) % 4294967296).toUInt32
attribute [local irreducible] En A3f
end Go.Proofs.YtedaafmfjhjfmaaGreatDoor
namespace Go.Proofs.YtedaafmfjhjfmaaGreatDoor
open Go.RowKit
set_option linter.unusedSimpArgs false
set_option linter.unusedVariables false
def Bk (n:Nat) (L:List (List UInt32)):Nat→List UInt32
 |0=>List.replicate n 0
 |i+1=>En (·+·) (Bk n L i) (ix L i) n
theorem Aaw (n:Nat) (L:List (List UInt32)):Bk n L 0=List.replicate n 0:=rfl
theorem Uw (n:Nat) (L:List (List UInt32)) (i:Nat):Bk n L (i+1)=En (·+·) (Bk n L i) (ix L i) n:=rfl
theorem Aax (n:Nat) (L:List (List UInt32)) (i:Nat):(Bk n L i).length=n:=by
 cases i with
 |zero=>simp [Bk]
 |succ i=>rw[Uw,Lg]
def Fg (a b:List UInt32) (j:Nat):List UInt32:=En (·+·) a b j++a.drop j
theorem A3g (a b:List UInt32):Fg a b 0=a:=by simp [Fg,Aau]
theorem A3h (a b:List UInt32) (n:Nat) (h:a.length=n):Fg a b n=En (·+·) a b n:=by simp [Fg,←h]
theorem A3i (a b:List UInt32) (j:Nat) (h:j≤a.length):(Fg a b j).length=a.length:=by
 unfold Fg
 rw[List.length_append,Lg,List.length_drop];omega
theorem A3j (a b:List UInt32) (j:Nat) (_h:j < a.length):ix (Fg a b j) j=ix a j:=by
 unfold Fg ix
 rw[List.getD_eq_getElem?_getD,List.getElem?_append_right (by rw[Lg];omega),Lg,Nat.sub_self,List.getElem?_drop,Nat.add_zero,List.getD_eq_getElem?_getD]
theorem A3k (a b:List UInt32) (j:Nat) (h:j < a.length):(Fg a b j).set j (ix a j+ix b j)=Fg a b (j+1):=by
 unfold Fg
 rw[List.set_append_right _ _ (by rw[Lg];omega),Lg,Nat.sub_self,Aav,List.append_assoc]
 congr 1
 rw[List.drop_eq_getElem_cons h]
 rfl
attribute [local irreducible] En Fg Bk
attribute [local irreducible] Ad Ae Ah Ar Ak Am Ai Al
set_option maxRecDepth 100000 in
set_option maxHeartbeats 4000000 in
theorem A3l (R:List Rw) (n:Nat) (hn:n≤32) (hRl:R.length≤1000) (A:Option Addr) (c:Nat) (w:World) (hR:RdV w w.heap.size A (R.map Rw.val)) (hr:∀i,i < R.length→(ix R i).l.length=n∧RdV w w.heap.size (ix R i).A ((ix R i).l.map Ap)):
  Calls Tryz.prog 84 #[.slice A R.length c,.int .i64 n] w fun e w'=>∃v,e=.returned (.tuple #[v,.nilIface])∧Own w' w.heap.size 111 v ((Bk n (R.map (·.l)) R.length).map Ap)∧Below w.heap.size w w':=by
 have F:=FM.of hR
 have h0:=fun h=>Tf (P:=Tryz.prog) (w:=w) (n:=48) Tryz.func84 rfl Tryz.ntmps84 [.x (.a (.v (.slice A R.length c))),.x (.a (.v (.int .i64 n)))] (by simp) 111 (.u32 (Bk n (R.map (·.l)) R.length)) .nilIface (vs:=(Bk n (R.map (·.l)) R.length).map Ap) (fun _=>rfl) h
 refine h0 ?_
 clear h0
 have ez:Fu n=Bk n (R.map (·.l)) 0:=by unfold Fu;rw[Q5 (by omega) (by omega),Int.toNat_natCast,Aaw];rfl
 have eze:F6 n=.nilIface:=by unfold F6;rw[Q5 (by omega) (by omega)];rfl
 simp only[push_cast,↓reduceIte,reduceCtorEq,Nat.reduceEqDiff,Nat.reduceLT]
 refine Fm rfl Awk rfl (A3e n (by simp only[push_cast])) (Af rfl) (by simp only[push_cast]) ?_
 simp only[ez,eze,push_cast,↓reduceIte,reduceCtorEq,Nat.reduceEqDiff,Nat.reduceLT]
 refine Bh (ι:=Nat) (fun i=>⟨[(1,.x (.a (.v (.int .i64 n)))),(6,.x (.a (.o 0))),(20,.x (.a (.v (.slice A R.length c)))),(21,.x (.a (.v (.int .i64 R.length)))),(22,.x (.a (.v (.int .i64 i))))],[.own 111 (.u32 (Bk n (R.map (·.l)) i))]⟩) (fun i=>i≤R.length) (fun i=>R.length - i) 0 [0] (by omega) ?_ ?_
 ·simp only[push_cast,↓Int.cast_ofNat_Int,Int.cast_ofNat_Int,↓reduceIte,reduceCtorEq,Nat.reduceEqDiff,Nat.reduceLT]
 ·intro i hi
  by_cases hlt:(i:Int) < R.length
  ·have hlt':i < R.length:=by omega
   have i0:(0:Int)≤i:=by omega
   have c0:Az w (Ag A i)=.slice (ix R i).A (ix R i).l.length (ix R i).c:=F.cell i hlt'
   have o0:=F.ok i hlt'
   have hA:=F.some_ (by omega)
   obtain⟨hl,hRi⟩:=hr i hlt'
   have G:=FM.of hRi
   have hs:=Aax n (R.map (·.l)) i
   have hsi:=Uw n (R.map (·.l)) i
   have hix:ix (R.map (·.l)) i=(ix R i).l:=by simp [ix,List.getD_eq_getElem?_getD,hlt']
   rw[hix] at hsi
   rw[hl] at c0
   simp only[hlt,i0,c0,o0,hA,push_cast,↓Int.toNat_natCast,↓reduceIte,reduceCtorEq,Nat.reduceEqDiff,Nat.reduceLT]
   (repeat (refine And.intro (by first|omega|decide) ?_))
   refine Bh (ι:=Nat) (fun j=>⟨[(1,.x (.a (.v (.int .i64 n)))),(6,.x (.a (.o 0))),(20,.x (.a (.v (.slice A R.length c)))),(21,.x (.a (.v (.int .i64 R.length)))),(22,.x (.a (.v (.int .i64 i)))),(31,.x (.a (.v (.slice (ix R i).A n (ix R i).c)))),(32,.x (.a (.v (.int .i64 n)))),(33,.x (.a (.v (.int .i64 j))))],[.own 111 (.u32 (Fg (Bk n (R.map (·.l)) i) (ix R i).l j))]⟩) (fun j=>j≤n) (fun j=>n - j) 0 [0] (by omega) ?_ ?_
   ·simp only[A3g,push_cast,↓Int.cast_ofNat_Int,Int.cast_ofNat_Int,↓reduceIte,Nat.reduceEqDiff,Nat.reduceLT]
   ·intro j hj
    by_cases hjt:(j:Int) < n
    ·have j0:(0:Int)≤j:=by omega
     have d0:=G.cell j (by omega)
     have p0:=G.ok j (by omega)
     have hA2:=G.some_ (by omega)
     have hml:=A3i (Bk n (R.map (·.l)) i) (ix R i).l j (by omega)
     have hmg:=A3j (Bk n (R.map (·.l)) i) (ix R i).l j (by omega)
     have hms:=A3k (Bk n (R.map (·.l)) i) (ix R i).l j (by omega)
     simp only[hjt,j0,d0,p0,hA2,hml,hs,hmg,hms,undef,push_cast,↓Int.toNat_natCast,↓reduceIte,reduceCtorEq,Nat.reduceEqDiff,Nat.reduceLT,Int.reduceNeg]
     (repeat (refine And.intro (by first|omega|decide) ?_))
     refine Be (j+1) [0] (by omega) (by omega) ?_
     simp only[push_cast,↓reduceIte,Nat.reduceEqDiff,Nat.reduceLT]
    ·have e:j=n:=by omega
     subst e
     have hma:=(A3h (Bk j (R.map (·.l)) i) (ix R i).l j (by omega)).trans hsi.symm
     simp only[hjt,hma,push_cast,↓reduceIte,Nat.reduceEqDiff,Nat.reduceLT,Int.reduceNeg]
     (repeat (refine And.intro (by first|omega|decide) ?_))
     refine Be (i+1) [0] (by omega) (by omega) ?_
     simp only[push_cast,↓reduceIte,Nat.reduceEqDiff,Nat.reduceLT]
  ·have e:i=R.length:=by omega
   subst e
   simp only[hlt,Ih,Dx,push_cast,↓reduceIte,Nat.reduceEqDiff,Nat.reduceLT]
end Go.Proofs.YtedaafmfjhjfmaaGreatDoor
/- Layer 28 walked: tellSum. -/
namespace Go.Proofs.YtedaafmfjhjfmaaGreatDoor
open Go.RowKit
set_option linter.unusedSimpArgs false
set_option linter.unusedVariables false
theorem Aay {a b:List UInt32}:∀{n:Nat},n≤a.length→n≤b.length→En (·+·) a b n=List.zipWith (·+·) (a.take n) (b.take n)
 |0,_,_=>by simp [Aau]
 |n+1,ha,hb=>by
  rw[Aav,Aay (by omega) (by omega),List.take_add_one,List.take_add_one,List.getElem?_eq_getElem (by omega),List.getElem?_eq_getElem (by omega),Option.toList_some,Option.toList_some,List.zipWith_append (by simp;omega)]
  simp [ix,List.getD_eq_getElem?_getD,List.getElem?_eq_getElem (show n < a.length by omega),List.getElem?_eq_getElem (show n < b.length by omega)]
theorem A3m {a b:List UInt32} {n:Nat} (ha:a.length=n) (hb:b.length=n):En (·+·) a b n=Dk a b:=by
 rw[Aay (by omega) (by omega),List.take_of_length_le (by omega),List.take_of_length_le (by omega)]
 rfl
theorem A3n {α β:Type} (f:β→α→β) (b:β) (l:List α) (x:α):(l++[x]).foldl f b=f (l.foldl f b) x:=by rw[List.foldl_append];rfl
theorem Aaz (n:Nat) (L:List (List UInt32)) (h:∀r∈L,r.length=n):∀i,i≤L.length→Bk n L i=(L.take i).foldl Dk (List.replicate n 0)
 |0,_=>by rw[Aaw,List.take_zero];rfl
 |i+1,hi=>by
  have hii:i < L.length:=by omega
  have e:ix L i=L[i]:=by
   unfold ix
   rw[List.getD_eq_getElem?_getD,List.getElem?_eq_getElem hii]
   rfl
  rw[Uw,A3m (Aax n L i) (by rw[e];exact h _ (List.getElem_mem hii)),Aaz n L h i (by omega),List.take_add_one,List.getElem?_eq_getElem hii,Option.toList_some,A3n,e]
attribute [local irreducible] Ad Ae Ah Ar Ak Am Ai Al
attribute [local irreducible] B1 okV Ay erV Tal.can Tal.st Bk
def Aa0 (x:SlV UInt32):Rw:=⟨x.A,x.c,x.l⟩
def A8b (r:LfR) (ids:List Int):List Rw:=ids.map fun id=>Aa0 ((Av r.rows id).getD default)
def A3o (pl ge:Int) (ids row:Value) (a b:Nat):List At:=mgL (.v (vU8 6)) (.v (.int .i64 pl)) (.v (.int .i64 0)) (.v (.int .i64 0)) (.v (.int .i64 ge)) (.v (vU64 0)) (List.replicate 32 0) (.v ids) (.s a 0 2 2) (.o b) (.v row) (.v (.int .i64 0))
structure SumX where
 A1:Option Addr
 cap1:Nat
 A2:Option Addr
 cap2:Nat
 out:SlV SnR
 G:List Fct
def A8c (r:LfR) (x:SumX):Prop:=x.out.l.map SnR.s=r.s.tell.2∧OutOk x.G x.out
def A3p (r:LfR) (A1:Option Addr) (cap1:Nat) (A2:Option Addr) (cap2:Nat):List Fct:=[⟨.slice A1 r.ty.inn.l.length cap1,r.ty.inn.l.length,r.ty.inn.l.map (Value.int .i64)⟩,⟨.slice A2 (r.s.rowSum r.ty.inn.l).length cap2,(r.s.rowSum r.ty.inn.l).length,(r.s.rowSum r.ty.inn.l).map Ap⟩]
def A3q (r:LfR) (n:Nat) (ph:Int) (m:List At):List At:=.v (.int .i64 r.place):: .v (.int .i64 r.gen):: .v (.int .i64 (n:Int)):: .v (.int .i64 r.term):: .v (.int .i64 r.need):: .v (.int .i64 r.parent):: .v r.above.val:: .v r.group.val:: .v (.int .i64 ph):: .v r.waits.val:: .p 1 0:: .v r.joined.val:: .o 2:: .o 3:: .o 4::m
def A8d (g:Nat) (r:LfR) (n:Nat) (x:SumX):List Res:=[.pin g 104 (.c (A3q r n 3 (A3o r.place r.gen (.slice x.A1 r.ty.inn.l.length x.cap1) (.slice x.A2 (r.s.rowSum r.ty.inn.l).length x.cap2) 6 7))),.blk 170 (.c (tlA r.ty)),.mp .i64 (puE r.pub),bxR r,.mp .i64 (slE r.rows),.abs (Aa (A3p r x.A1 x.cap1 x.A2 x.cap2++x.G)),.blk 41 (.u64 [UInt64.ofInt r.place,UInt64.ofInt r.gen]),.onn 115 2 (.c (pcs (r.s.peers r.waits.l)))]
def A8e (r:LfR):MgS:={F4 6 with pl:=r.place,ge:=r.gen,ids:=r.ty.inn.l,ns:=[UInt64.ofInt r.place,UInt64.ofInt r.gen],ps:=r.s.peers r.waits.l,xs:=r.s.rowSum r.ty.inn.l}
end Go.Proofs.YtedaafmfjhjfmaaGreatDoor
/- Layer 28: what tellRoster, tellBoxes and tellSum leave, as their callers see it; on. -/
namespace Go.Proofs.YtedaafmfjhjfmaaGreatDoor
open Go.RowKit
set_option linter.unusedSimpArgs false
set_option linter.unusedVariables false
attribute [local irreducible] Ad Ae Ah Ar Ak Am Ai Al
attribute [local irreducible] B1 okV Ay erV Tal.can Tal.st Bk
def A8f (f:FuncId) (r:LfR) (Fs:List Fct) (s:LfS) (out:List SnS) (g:Nat) (w:World) (B:Nat→Prop):Prop:=
 Calls Tryz.prog f #[.pointer (some ⟨g,0,none⟩)] w fun e w'=>∃(x:LfR×SlV SnR×List Fct) (γ1:List Nm),A3b Fs s out x∧e=.returned x.2.1.val∧Sat w B γ1 (lfB g x.1++[.abs (Aa x.2.2)]) w'
section
variable {r:LfR} {g:Nat} {w:World} {B:Nat→Prop} {γ:List Nm} {Fs:List Fct}
end
end Go.Proofs.YtedaafmfjhjfmaaGreatDoor
/- The plain law of layer 28: what the boxes hold while they are waited for. No program in sight. -/
namespace Go.Proofs.YtedaafmfjhjfmaaGreatDoor
set_option linter.unusedVariables false
structure LfBx (s:LfS):Prop where
 box:s.phase=1→s.waits=s.joined∧∀f∈s.tally.inn,∃x,Av s.boxes f=some x∧x.length=2*s.joined.length
theorem A3r {l:List Int} (h:Bm (-1) l=true):l.length≤64:=by
 have hn:=Ayg (Mk.1 h).2
 have:=Zn hn (m:=(List.range 64).map Int.ofNat) fun x hx=>by
  have hx:=Pu h x hx
  exact List.mem_map.2 ⟨x.toNat,List.mem_range.2 (by omega),by show ((x.toNat:Nat):Int)=x;omega⟩
 rw[List.length_map,List.length_range] at this
 exact this
end Go.Proofs.YtedaafmfjhjfmaaGreatDoor
/- Layer 28 walked: on. -/
namespace Go.Proofs.YtedaafmfjhjfmaaGreatDoor
open Go.RowKit
set_option linter.unusedSimpArgs false
set_option linter.unusedVariables false
attribute [local irreducible] Ad Ae Ah Ar Ak Am Ai Al
attribute [local irreducible] B1 okV Ay erV Tal.can Tal.st Bk
section
variable {r:LfR} {g:Nat} {w:World} {B:Nat→Prop} {γ:List Nm} {Fs:List Fct}
structure OnOk (r:LfR) (Fs:List Fct):Prop where
 ok:LfOk Fs r
 inv:LfInv r.s [] none∨∃R,LfInv r.s R none
 bx:LfBx r.s
 live:r.phase < 2→r.live=true
 term:1≤r.term∧r.term≤1000
end
end Go.Proofs.YtedaafmfjhjfmaaGreatDoor
/- Layer 28 walked: on, where a leaf is lost, or waits. -/
namespace Go.Proofs.YtedaafmfjhjfmaaGreatDoor
open Go.RowKit
set_option linter.unusedSimpArgs false
set_option linter.unusedVariables false
section
variable {P:Program} {w0:World} {ow:Nat→Prop} {n:Nat} {s:S}
end
attribute [local irreducible] Ad Ae Ah Ar Ak Am Ai Al
attribute [local irreducible] B1 okV Ay erV Tal.can Tal.st Bk
section
variable {r:LfR} {g:Nat} {w:World} {B:Nat→Prop} {γ:List Nm} {Fs:List Fct}
def A8g (ge:Int) (a:At):List At:=mgL (.v (vU8 17)) (.v (.int .i64 0)) (.v (.int .i64 0)) (.v (.int .i64 0)) (.v (.int .i64 ge)) (.v (vU64 0)) (List.replicate 32 0) a Lf Lf Lf (.v (.int .i64 0))
def A8h (r:LfR) (A:Option Addr):MgR:={zeroR with k:=17,ge:=r.gen,ids:=⟨A,1,[r.place]⟩}
end
end Go.Proofs.YtedaafmfjhjfmaaGreatDoor
/- Layer 28 walked: Tick, Begin. -/
namespace Go.Proofs.YtedaafmfjhjfmaaGreatDoor
open Go.RowKit
set_option linter.unusedSimpArgs false
set_option linter.unusedVariables false
attribute [local irreducible] Ad Ae Ah Ar Ak Am Ai Al
attribute [local irreducible] B1 okV Ay erV Tal.can Tal.st Bk
section
variable {r:LfR} {g:Nat} {w:World} {B:Nat→Prop} {γ:List Nm} {Fs:List Fct}
end
end Go.Proofs.YtedaafmfjhjfmaaGreatDoor
/- Layer 28 walked: Hear, by kind. -/
namespace Go.Proofs.YtedaafmfjhjfmaaGreatDoor
open Go.RowKit
set_option linter.unusedSimpArgs false
set_option linter.unusedVariables false
theorem MgF.ok {m:MgR} {w0 w:World} {B:Nat→Prop} {γ:List Nm} {hp:List Res} (h:MgF m w0 B) (hS:Sat w0 B γ hp w):m.Ok w:=by
 have k:∀{A:Option Addr} {vs:List Value},FW w0 B A vs→RdV w w.heap.size A vs:=fun {A vs} h=>by
  obtain⟨A',c',e,_,r⟩:=J3 (hp:=hp) h vs.length vs.length rfl (Nat.le_refl _) γ w hS
  have e:Value.slice A vs.length vs.length=.slice A' vs.length c':=e
  injection e with e1 _ _
  rw[e1]
  exact r
 exact⟨h.few.sm,⟨h.ids.1,h.few.ids,k h.ids.2⟩,⟨h.ns.1,h.few.ns,k h.ns.2⟩,⟨h.ps.1,h.few.ps,k h.ps.2⟩,⟨h.xs.1,h.few.xs,k h.xs.2⟩⟩
attribute [local irreducible] Ad Ae Ah Ar Ak Am Ai Al
attribute [local irreducible] B1 okV Ay erV Tal.can Tal.st Bk Cj
section
variable {r:LfR} {m:MgR} {g:Nat} {w:World} {B:Nat→Prop} {γ:List Nm} {Fs:List Fct}
end
end Go.Proofs.YtedaafmfjhjfmaaGreatDoor
/- Layer 28 walked: Hear, Ask and Give. -/
namespace Go.Proofs.YtedaafmfjhjfmaaGreatDoor
open Go.RowKit
set_option linter.unusedSimpArgs false
set_option linter.unusedVariables false
attribute [local irreducible] Ad Ae Ah Ar Ak Am Ai Al
attribute [local irreducible] B1 okV Ay erV Tal.can Tal.st Bk Cj
section
variable {r:LfR} {m:MgR} {g:Nat} {w:World} {B:Nat→Prop} {γ:List Nm} {Fs:List Fct}
def gvL (pl cl ge:Int) (a:At):List At:=mgL (.v (vU8 10)) (.v (.int .i64 pl)) (.v (.int .i64 0)) (.v (.int .i64 cl)) (.v (.int .i64 ge)) (.v (vU64 0)) (List.replicate 32 0) Lf a Lf Lf (.v (.int .i64 0))
def gvR (pl cl ge:Int) (ns:SlV UInt64):MgR:={zeroR with k:=10,pl:=pl,cl:=cl,ge:=ge,ns:=ns}
def gvH (g:Nat) (r:LfR) (m:MgR):List Res:=lfB g r++[.abs (Aa []),.own 41 (.u64 m.ns.l),.onn 60 45 (.c (.v (.bool false):: .v (.int .i64 0)::gvL r.place m.cl m.ge (.o 6)))]
end
end Go.Proofs.YtedaafmfjhjfmaaGreatDoor
/- Layer 28 walked: Hear. -/
namespace Go.Proofs.YtedaafmfjhjfmaaGreatDoor
open Go.RowKit
set_option linter.unusedSimpArgs false
set_option linter.unusedVariables false
def J8 (m:MgR):List Fct:=[⟨m.ids.val,m.ids.l.length,m.ids.l.map (Value.int .i64)⟩,⟨m.ns.val,m.ns.l.length,m.ns.l.map vU64⟩,⟨m.ps.val,m.ps.l.length,pvs m.ps.l⟩,⟨m.xs.val,m.xs.l.length,m.xs.l.map Ap⟩]
theorem MgF.known {m:MgR} {w:World} {B:Nat→Prop} (h:MgF m w B):Known w B (J8 m):=fun f hf=>by
 simp only[J8,List.mem_cons,List.not_mem_nil,or_false] at hf
 rcases hf with rfl|rfl|rfl|rfl
 ·exact⟨_,_,rfl,h.ids.1,h.ids.2⟩
 ·exact⟨_,_,rfl,h.ns.1,h.ns.2⟩
 ·exact⟨_,_,rfl,h.ps.1,h.ps.2⟩
 ·exact⟨_,_,rfl,h.xs.1,h.xs.2⟩
theorem Q6 {α:Type} {w:World} {B:Nat→Prop} {Fs:List Fct} {s:SlV α} {vs:List Value} (hk:Known w B Fs) (h:(⟨s.val,s.l.length,vs⟩:Fct)∈Fs):s.l.length≤s.c∧FW w B s.A vs:=by
 obtain⟨A,c,h1,h2,h3⟩:=hk _ h
 have h1:Value.slice s.A s.l.length s.c=.slice A s.l.length c:=h1
 injection h1 with e1 _ e3
 subst e1 e3
 exact⟨h2,h3⟩
theorem MgF.of {m:MgR} {w:World} {B:Nat→Prop} (h:Known w B (J8 m)) (hf:m.mg.Few):MgF m w B:=
 ⟨hf,Q6 h (by simp [J8]),Q6 h (by simp [J8]),Q6 h (by simp [J8]),Q6 h (by simp [J8])⟩
attribute [local irreducible] Ad Ae Ah Ar Ak Am Ai Al
attribute [local irreducible] B1 okV Ay erV Tal.can Tal.st Bk Cj
section
variable {r:LfR} {m:MgR} {g:Nat} {w:World} {B:Nat→Prop} {γ:List Nm} {Fs:List Fct}
end
end Go.Proofs.YtedaafmfjhjfmaaGreatDoor
