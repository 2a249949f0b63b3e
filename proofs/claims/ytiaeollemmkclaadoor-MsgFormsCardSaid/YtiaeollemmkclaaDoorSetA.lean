import Derived.Test.YtiaeollemmkclaaDoorEn1
import Derived.Test.YtiaeollemmkclaaDoorShA
import Derived.Test.YtiaeollemmkclaaDoorTy
/- The plain law of layers 15, 21, 22: sets as bits, who there is, places above one another, nodes. No program in sight. -/
namespace Go.Proofs.YtiaeollemmkclaaDoor
def Fh (v:UInt64) (n:Nat):Bool:=decide (Bo v n&&& 1=1)
def Sj (s:UInt64) (n:Int):UInt64:=if 0≤n∧n < 64 then s|||Ju 1 n.toNat else s
def Hb (l:List Int):UInt64:=l.foldl Sj 0
def Hc (v:UInt64):List Int:=((List.range 64).filter (Fh v)).map Int.ofNat
def A1b (l:List Int) (n:Int):Bool:=decide (0≤n∧n < 64)&&Fh (Hb l) n.toNat
def M4 (a b:List Int):List Int:=Hc (Hb a|||Hb b)
def Abf (a b:List Int):List Int:=Hc (Hb a&&& Hb b)
def Bc0 (a b:List Int):List Int:=Hc (Hb a&&& ~~~ Hb b)
def B6:Int→List Int→Bool
 |_,[]=>true
 |last,n::r=>if n≤last∨¬(0≤n∧n < 64) then false else B6 n r
theorem Sk {v:UInt64} {n:Nat} (h:n < 64):Fh v n=v.toNat.testBit n:=by
 unfold Fh Bo
 rw[if_pos h]
 have e:((v >>> UInt64.ofNat n)&&& 1).toNat=(v.toNat >>> n)&&& 1:=by
  rw[UInt64.toNat_and,UInt64.toNat_shiftRight,UInt64.toNat_ofNat']
  rw[Nat.mod_eq_of_lt (show n < 2 ^ 64 by omega),Nat.mod_eq_of_lt h]
  rfl
 have e1:((v >>> UInt64.ofNat n)&&& 1=1)↔(v.toNat >>> n)&&& 1=1:=by
  rw[←UInt64.toNat_inj,e]
  rfl
 rw[Nat.testBit,Nat.and_comm]
 by_cases hb:(v.toNat >>> n)&&& 1=1
 ·rw[decide_eq_true (e1.2 hb),hb];rfl
 ·rw[decide_eq_false fun h=>hb (e1.1 h)]
  have:(v.toNat >>> n)&&& 1=0:=by
   have:=Nat.and_one_is_mod (v.toNat >>> n)
   omega
  rw[this];rfl
theorem A1c (a b:UInt64) {n:Nat} (h:n < 64):Fh (a|||b) n=(Fh a n||Fh b n):=by
 rw[Sk h,Sk h,Sk h,UInt64.toNat_or,Nat.testBit_or]
theorem A1d {m n:Nat} (hm:m < 64) (hn:n < 64):Fh (Ju 1 m) n=decide (m=n):=by
 rw[Sk hn]
 unfold Ju
 rw[if_pos hm]
 have e:((1:UInt64) <<< UInt64.ofNat m).toNat=2 ^ m:=by
  rw[UInt64.toNat_shiftLeft,UInt64.toNat_ofNat',Nat.mod_eq_of_lt (show m < 2 ^ 64 by omega),Nat.mod_eq_of_lt hm]
  show 1 <<< m % 2 ^ 64=_
  rw[Nat.shiftLeft_eq,Nat.one_mul,Nat.mod_eq_of_lt (Nat.pow_lt_pow_right (by omega) hm)]
 rw[e,Nat.testBit_two_pow]
theorem A1e (n:Nat):Fh 0 n=false:=by
 unfold Fh Bo
 split
 ·rename_i h
  have:(0:UInt64) >>> UInt64.ofNat n=0:=by
   apply UInt64.toNat_inj.1
   rw[UInt64.toNat_shiftRight]
   exact Nat.zero_shiftRight _
  rw[this];rfl
 ·rfl
theorem A1f (l:List Int):∀(s:UInt64) {n:Nat},n < 64→Fh (l.foldl Sj s) n=(Fh s n||decide ((n:Int)∈l)):=by
 induction l with
 |nil=>intro s n _;simp
 |cons x l ih=>
  intro s n h
  rw[List.foldl_cons,ih _ h]
  unfold Sj
  by_cases hx:0≤x∧x < 64
  ·rw[if_pos hx,A1c _ _ h,A1d (by omega) h]
   have:decide (x.toNat=n)=decide ((n:Int)=x):=by
    by_cases e:x.toNat=n
    ·rw[decide_eq_true e,decide_eq_true (by omega)]
    ·rw[decide_eq_false e,decide_eq_false (by omega)]
   rw[this,Bool.or_assoc]
   congr 1
   simp
  ·rw[if_neg hx]
   congr 1
   have:¬(n:Int)=x:=by omega
   simp [this]
theorem Abg (l:List Int) {n:Nat} (h:n < 64):Fh (Hb l) n=decide ((n:Int)∈l):=by
 unfold Hb
 rw[A1f l 0 h,A1e,Bool.false_or]
theorem A1g {v:UInt64} {x:Int}:x∈Hc v↔0≤x∧x < 64∧Fh v x.toNat=true:=by
 unfold Hc
 rw[List.mem_map]
 constructor
 ·rintro⟨n,hn,rfl⟩
  rw[List.mem_filter,List.mem_range] at hn
  refine⟨by show (0:Int)≤(n:Int);omega,?_,hn.2⟩
  have:=hn.1
  show (n:Int) < 64
  omega
 ·rintro⟨h1,h2,h3⟩
  refine⟨x.toNat,?_,by show ((x.toNat:Nat):Int)=x;omega⟩
  rw[List.mem_filter,List.mem_range]
  exact⟨by omega,h3⟩
theorem A1h (v:UInt64):(Hc v).Pairwise (· < ·):=by
 unfold Hc
 rw[List.pairwise_map]
 exact (List.pairwise_lt_range.filter _).imp fun h=>Int.ofNat_lt.2 h
theorem Abh:∀{a b:List Int},a.Pairwise (· < ·)→b.Pairwise (· < ·)→(∀x,x∈a↔x∈b)→a=b
 |[],[],_,_,_=>rfl
 |[],y::b,_,_,h=>absurd ((h y).2 (List.mem_cons_self ..)) (by simp)
 |x::a,[],_,_,h=>absurd ((h x).1 (List.mem_cons_self ..)) (by simp)
 |x::a,y::b,ha,hb,h=>by
  rw[List.pairwise_cons] at ha hb
  have e:x=y:=by
   have h1:=(h x).1 (List.mem_cons_self ..)
   have h2:=(h y).2 (List.mem_cons_self ..)
   rcases List.mem_cons.1 h1 with h1|h1
   ·exact h1
   ·rcases List.mem_cons.1 h2 with h2|h2
    ·exact h2.symm
    ·have:=hb.1 x h1
     have:=ha.1 y h2
     omega
  subst e
  refine congrArg (x::·) (Abh ha.2 hb.2 fun z=>⟨fun hz=>?_,fun hz=>?_⟩)
  ·rcases List.mem_cons.1 ((h z).1 (List.mem_cons_of_mem _ hz)) with rfl|h1
   ·exact absurd (ha.1 z hz) (Int.lt_irrefl z)
   ·exact h1
  ·rcases List.mem_cons.1 ((h z).2 (List.mem_cons_of_mem _ hz)) with rfl|h1
   ·exact absurd (hb.1 z hz) (Int.lt_irrefl z)
   ·exact h1
theorem Vw:∀{l:List Int} {last:Int},B6 last l=true↔(∀x∈l,last < x∧0≤x∧x < 64)∧l.Pairwise (· < ·)
 |[],last=>by simp [B6]
 |n::r,last=>by
  rw[B6]
  by_cases h:n≤last∨¬(0≤n∧n < 64)
  ·rw[if_pos h]
   refine⟨(fun e=>nomatch e),fun⟨e,_⟩=>?_⟩
   have:=e n (List.mem_cons_self ..)
   omega
  ·rw[if_neg h,Vw,List.pairwise_cons]
   constructor
   ·rintro⟨h1,h2⟩
    refine⟨fun x hx=>?_,fun x hx=>(h1 x hx).1,h2⟩
    rcases List.mem_cons.1 hx with rfl|hx
    ·omega
    ·have:=h1 x hx;omega
   ·rintro⟨h1,h2,h3⟩
    exact⟨fun x hx=>⟨h2 x hx,(h1 x (List.mem_cons_of_mem _ hx)).2⟩,h3⟩
theorem A1i {l:List Int} {last:Int} (h:B6 last l=true):Hc (Hb l)=l:=by
 obtain⟨h1,h2⟩:=Vw.1 h
 refine Abh (A1h _) h2 fun x=>?_
 rw[A1g]
 constructor
 ·rintro⟨a,b,c⟩
  rw[Abg _ (by omega),show ((x.toNat:Nat):Int)=x by omega] at c
  simpa using c
 ·intro hx
  have:=h1 x hx
  refine⟨by omega,by omega,?_⟩
  rw[Abg _ (by omega),show ((x.toNat:Nat):Int)=x by omega]
  simpa using hx
theorem A1j (v:UInt64):(Hc v).length≤64:=by
 unfold Hc
 rw[List.length_map]
 have:=List.length_filter_le (Fh v) (List.range 64)
 simpa using this
structure PlS where
 parent:Int
 spare:Int
 need:Int
deriving Inhabited,DecidableEq
structure GrS where
 place:Int
 ids:List Int
 need:Int
deriving Inhabited,DecidableEq
structure CfS where
 dim:Int
 places:List PlS
 groups:List GrS
 least:Int
 term:Int
deriving Inhabited,DecidableEq
def wiF (n least most:Int):Bool:=decide (least≤n∧n≤most)
def Vx (l:List PlS):Nat→Nat→List Int→Bool
 |0,_,_=>true
 |k+1,i,ab=>
  if wiF (ix l i).parent 0 (i - 1)=true∧wiF (ix l i).spare 0 2=true then
   (if ix ab (ix l i).parent.toNat+1≥4 then false else Vx l k (i+1) (ab.set i (ix ab (ix l i).parent.toNat+1)))
  else false
def stF (l:List PlS):Bool:=
 if wiF l.length 2 16=true∧(ix l 0).parent=-1∧(ix l 0).spare=0 then Vx l (l.length - 1) 1 (List.replicate l.length 0) else false
def Abi (n:Int) (g:GrS) (last:Int) (seen:List Int):Bool:=
 decide (last < g.place∧g.place < n)&&wiF g.ids.length 1 12&&B6 (-1) g.ids&&decide ((Abf seen g.ids).length=0)&&wiF g.need ((g.ids.length:Int) / 2+1) g.ids.length
def Vy (n:Int):List GrS→Int→List Int→Option (List Int)
 |[],_,seen=>some seen
 |g::r,last,seen=>if Abi n g last seen=true then Vy n r g.place (M4 seen g.ids) else none
def grF (c:CfS):Bool:=
 if 1≤c.groups.length∧c.groups.length < c.places.length then
  (match Vy c.places.length c.groups 0 [] with
   |some seen=>wiF c.least 1 seen.length
   |none=>false)
 else false
def Abj (b:List Int) (p:PlS):List Int:=b.set p.parent.toNat (ix b p.parent.toNat+1)
def beF (l:List PlS):List Int:=(l.drop 1).foldl Abj (List.replicate l.length 0)
def atF (gs:List GrS) (i:Int):Bool:=gs.any fun g=>decide (g.place=i)
def Vz (c:CfS) (b:List Int):Nat→Nat→Bool
 |0,_=>true
 |k+1,i=>if atF c.groups i=decide (0 < ix b i) then false
  else if wiF (ix c.places i).need 1 (if atF c.groups i=true then 1 else ix b i)=true then Vz c b k (i+1) else false
def neF (c:CfS):Bool:=Vz c (beF c.places) c.places.length 0
def cfF (c:CfS):Bool:=wiF c.dim 1 32&&wiF c.term 1 1000&&stF c.places&&grF c&&neF c
def Abk (gs:List GrS):List Int:=gs.foldl (fun s g=>M4 s g.ids) []
def V0 (c:CfS):List Int:=if cfF c=true then Abk c.groups else []
def V1 (l:List PlS):Nat→Int→List Int→List Int
 |0,_,acc=>acc
 |k+1,q,acc=>if 0≤q then V1 l k (ix l q.toNat).parent (acc++[q]) else acc
def abF (l:List PlS) (p:Nat):List Int:=V1 l (p+1) (ix l p).parent []
def Abl (l:List PlS) (p:Nat):List (Nat×Nat):=(List.range ((ix l p).spare+1).toNat).map fun s=>(p,s)
def A1k (l:List PlS):List (Nat×Nat):=(List.range l.length).flatMap (Abl l)
def Abm (x:Nat×Nat):Int:=64+4*(x.1:Int)+(x.2:Int)
def Bc1 (c:CfS):List Int:=V0 c++(A1k c.places).map Abm
structure StOk (l:List PlS):Prop where
 least:2≤l.length
 most:l.length≤16
 root:(ix l 0).parent=-1
 root0:(ix l 0).spare=0
 up:∀j,1≤j→j < l.length→0≤(ix l j).parent∧(ix l j).parent < j
 spare:∀j,j < l.length→0≤(ix l j).spare∧(ix l j).spare≤2
def A1l (l:List PlS):Nat→Int
 |0=>0
 |n+1=>A1l l n+1+(ix l n).spare
end Go.Proofs.YtiaeollemmkclaaDoor
/- What came in reads as it did later on. No program in sight. -/
namespace Go.Proofs.YtiaeollemmkclaaDoor
open Go.RowKit
set_option linter.unusedSimpArgs false
section
variable {w0:World} {hp:List Res}
theorem Fz {γ:List Nm} {w:World} {A:Option Addr} {vs:List Value} (h:RdV w0 w0.heap.size A vs) (hS:Sat w0 No γ hp w):RdV w w.heap.size A vs:=(h.below (G9 hS.keeps)).more (G9 hS.keeps).size
end
attribute [push_cast] beq_self_eq_true
end Go.Proofs.YtiaeollemmkclaaDoor
/- SetA: Bl0, Set0, joined. -/
/- Where something is first in a list. No program in sight. -/
namespace Go.Proofs.YtiaeollemmkclaaDoor
open Go.RowKit
set_option linter.unusedSimpArgs false
abbrev Bc2 (n:Int):Value:=.int .i64 n
theorem Lq {α:Type} [Inhabited α] {l:List α} {i:Nat} (h:i < l.length):ix l i∈l:=by
 simp only[ix,List.getD_eq_getElem?_getD,List.getElem?_eq_getElem h,Option.getD_some]
 exact List.getElem_mem h
theorem A1m {α:Type} [Inhabited α] {l:List α} {x:α} (h:x∈l):∃i,i < l.length∧ix l i=x:=by
 obtain⟨i,hi,e⟩:=List.getElem_of_mem h
 exact⟨i,hi,by simp only[ix,List.getD_eq_getElem?_getD,List.getElem?_eq_getElem hi,Option.getD_some,e]⟩
def A1n (F:Nat→Bool) (n:Nat):Int:=match (List.range n).find? F with|some k=>k|none=>-1
def Bc3 (l:List Int) (n:Int):Bool:=l.any fun x=>decide (x=n)
def Bc4 (l:List Int) (n:Int):Int:=A1n (fun i=>decide (ix l i=n)) l.length
end Go.Proofs.YtiaeollemmkclaaDoor
/- slices.Index, slices.Contains on whole numbers: where a number is first, and whether. -/
namespace Go.Proofs.YtiaeollemmkclaaDoor
open Go.RowKit
set_option linter.unusedSimpArgs false
attribute [local irreducible] Af Ad Av Bh Bf A6 Aw A9
end Go.Proofs.YtiaeollemmkclaaDoor
