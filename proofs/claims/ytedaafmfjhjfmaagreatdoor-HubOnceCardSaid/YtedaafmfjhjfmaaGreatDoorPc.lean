import Derived.Test.YtedaafmfjhjfmaaGreatDoorEn1
import Derived.Test.YtedaafmfjhjfmaaGreatDoorShA
import Derived.Test.YtedaafmfjhjfmaaGreatDoorPreA
import Derived.Test.YtedaafmfjhjfmaaGreatDoorPk0
/- The plain law of layers 15, 21, 22: sets as bits, who there is, places above one another, nodes. No program in sight. -/
namespace Go.Proofs.YtedaafmfjhjfmaaGreatDoor
open _root_.Go.Proofs.Tryz
set_option linter.unusedSimpArgs false
set_option linter.unusedVariables false
section
def Cr (v:UInt64) (n:Nat):Bool:=decide (Ii v n&&& 1=1)
def Iv (s:UInt64) (n:Int):UInt64:=if 0≤n∧n < 64 then s|||J9 1 n.toNat else s
def Cj (l:List Int):UInt64:=l.foldl Iv 0
def Di (v:UInt64):List Int:=((List.range 64).filter (Cr v)).map Int.ofNat
def A9 (l:List Int) (n:Int):Bool:=decide (0≤n∧n < 64)&&Cr (Cj l) n.toNat
def Ak (a b:List Int):List Int:=Di (Cj a|||Cj b)
def By (a b:List Int):List Int:=Di (Cj a&&& Cj b)
def Cs (a b:List Int):List Int:=Di (Cj a&&& ~~~ Cj b)
def Bn:Int→List Int→Bool
 |_,[]=>true
 |last,n::r=>if n≤last∨¬(0≤n∧n < 64) then false else Bn n r
theorem Iw {v:UInt64} {n:Nat} (h:n < 64):Cr v n=v.toNat.testBit n:=by
 unfold Cr Ii
 rw[if_pos h]
 have e:((v >>> UInt64.ofNat n)&&& 1).toNat=(v.toNat >>> n)&&& 1:=by
  rw[UInt64.toNat_and,UInt64.toNat_shiftRight,UInt64.toNat_ofNat']
  rw[Nat.mod_eq_of_lt (show n < 2 ^ 64 by omega),Nat.mod_eq_of_lt h]
  rfl
 have e1:((v >>> UInt64.ofNat n)&&& 1=1)↔(v.toNat >>> n)&&& 1=1:=by
  rw[←UInt64.toNat_inj,e]
  rfl
 rw[Nat.testBit,Nat.and_comm]
 by_cases hb:(v.toNat >>> n)&&& 1=1
 ·rw[decide_eq_true (e1.2 hb),hb];rfl
 ·rw[decide_eq_false fun h=>hb (e1.1 h)]
  have:(v.toNat >>> n)&&& 1=0:=by
   have:=Nat.and_one_is_mod (v.toNat >>> n)
   omega
  rw[this];rfl
theorem Vw (a b:UInt64) {n:Nat} (h:n < 64):Cr (a|||b) n=(Cr a n||Cr b n):=by
 rw[Iw h,Iw h,Iw h,UInt64.toNat_or,Nat.testBit_or]
theorem Rr (a b:UInt64) {n:Nat} (h:n < 64):Cr (a&&& b) n=(Cr a n&&Cr b n):=by
 rw[Iw h,Iw h,Iw h,UInt64.toNat_and,Nat.testBit_and]
theorem Abq (a:UInt64) {n:Nat} (h:n < 64):Cr (~~~ a) n=!Cr a n:=by
 rw[Iw h,Iw h]
 have:(~~~ a).toNat=2 ^ 64 - 1 - a.toNat:=by
  show (~~~ a).toBitVec.toNat=_
  rw[UInt64.toBitVec_not,BitVec.toNat_not];rfl
 rw[this]
 have:=a.toNat_lt
 rw[show 2 ^ 64 - 1 - a.toNat=2 ^ 64 - (a.toNat+1) by omega,Nat.testBit_two_pow_sub_succ (by omega)]
 simp [h]
theorem Ap9 {m n:Nat} (hm:m < 64) (hn:n < 64):Cr (J9 1 m) n=decide (m=n):=by
 rw[Iw hn]
 unfold J9
 rw[if_pos hm]
 have e:((1:UInt64) <<< UInt64.ofNat m).toNat=2 ^ m:=by
  rw[UInt64.toNat_shiftLeft,UInt64.toNat_ofNat',Nat.mod_eq_of_lt (show m < 2 ^ 64 by omega),Nat.mod_eq_of_lt hm]
  show 1 <<< m % 2 ^ 64=_
  rw[Nat.shiftLeft_eq,Nat.one_mul,Nat.mod_eq_of_lt (Nat.pow_lt_pow_right (by omega) hm)]
 rw[e,Nat.testBit_two_pow]
theorem Aqa (n:Nat):Cr 0 n=false:=by
 unfold Cr Ii
 split
 ·rename_i h
  have:(0:UInt64) >>> UInt64.ofNat n=0:=by
   apply UInt64.toNat_inj.1
   rw[UInt64.toNat_shiftRight]
   exact Nat.zero_shiftRight _
  rw[this];rfl
 ·rfl
theorem Aqb (l:List Int):∀(s:UInt64) {n:Nat},n < 64→Cr (l.foldl Iv s) n=(Cr s n||decide ((n:Int)∈l)):=by
 induction l with
 |nil=>intro s n _;simp
 |cons x l ih=>
  intro s n h
  rw[List.foldl_cons,ih _ h]
  unfold Iv
  by_cases hx:0≤x∧x < 64
  ·rw[if_pos hx,Vw _ _ h,Ap9 (by omega) h]
   have:decide (x.toNat=n)=decide ((n:Int)=x):=by
    by_cases e:x.toNat=n
    ·rw[decide_eq_true e,decide_eq_true (by omega)]
    ·rw[decide_eq_false e,decide_eq_false (by omega)]
   rw[this,Bool.or_assoc]
   congr 1
   simp
  ·rw[if_neg hx]
   congr 1
   have:¬(n:Int)=x:=by omega
   simp [this]
theorem Gr (l:List Int) {n:Nat} (h:n < 64):Cr (Cj l) n=decide ((n:Int)∈l):=by
 unfold Cj
 rw[Aqb l 0 h,Aqa,Bool.false_or]
theorem Rt {v:UInt64} {x:Int}:x∈Di v↔0≤x∧x < 64∧Cr v x.toNat=true:=by
 unfold Di
 rw[List.mem_map]
 constructor
 ·rintro⟨n,hn,rfl⟩
  rw[List.mem_filter,List.mem_range] at hn
  refine⟨by show (0:Int)≤(n:Int);omega,?_,hn.2⟩
  have:=hn.1
  show (n:Int) < 64
  omega
 ·rintro⟨h1,h2,h3⟩
  refine⟨x.toNat,?_,by show ((x.toNat:Nat):Int)=x;omega⟩
  rw[List.mem_filter,List.mem_range]
  exact⟨by omega,h3⟩
theorem Aqc (v:UInt64):(Di v).Pairwise (· < ·):=by
 unfold Di
 rw[List.pairwise_map]
 exact (List.pairwise_lt_range.filter _).imp fun h=>Int.ofNat_lt.2 h
theorem Abr {a b:List Int} {x:Int}:x∈Ak a b↔0≤x∧x < 64∧(x∈a∨x∈b):=by
 unfold Ak
 rw[Rt]
 refine⟨fun⟨h1,h2,h3⟩=>⟨h1,h2,?_⟩,fun⟨h1,h2,h3⟩=>⟨h1,h2,?_⟩⟩
 ·rw[Vw _ _ (by omega),Gr _ (by omega),Gr _ (by omega),show ((x.toNat:Nat):Int)=x by omega] at h3
  simpa using h3
 ·rw[Vw _ _ (by omega),Gr _ (by omega),Gr _ (by omega),show ((x.toNat:Nat):Int)=x by omega]
  simpa using h3
theorem Abt {a b:List Int} {x:Int}:x∈By a b↔0≤x∧x < 64∧x∈a∧x∈b:=by
 unfold By
 rw[Rt]
 refine⟨fun⟨h1,h2,h3⟩=>⟨h1,h2,?_⟩,fun⟨h1,h2,h3⟩=>⟨h1,h2,?_⟩⟩
 ·rw[Rr _ _ (by omega),Gr _ (by omega),Gr _ (by omega),show ((x.toNat:Nat):Int)=x by omega] at h3
  simpa using h3
 ·rw[Rr _ _ (by omega),Gr _ (by omega),Gr _ (by omega),show ((x.toNat:Nat):Int)=x by omega]
  simpa using h3
theorem Aqd {a b:List Int} {x:Int}:x∈Cs a b↔0≤x∧x < 64∧x∈a∧x∉b:=by
 unfold Cs
 rw[Rt]
 refine⟨fun⟨h1,h2,h3⟩=>⟨h1,h2,?_⟩,fun⟨h1,h2,h3⟩=>⟨h1,h2,?_⟩⟩
 ·rw[Rr _ _ (by omega),Abq _ (by omega),Gr _ (by omega),Gr _ (by omega),show ((x.toNat:Nat):Int)=x by omega] at h3
  simpa using h3
 ·rw[Rr _ _ (by omega),Abq _ (by omega),Gr _ (by omega),Gr _ (by omega),show ((x.toNat:Nat):Int)=x by omega]
  simpa using h3
theorem Abu:∀{a b:List Int},a.Pairwise (· < ·)→b.Pairwise (· < ·)→(∀x,x∈a↔x∈b)→a=b
 |[],[],_,_,_=>rfl
 |[],y::b,_,_,h=>absurd ((h y).2 (List.mem_cons_self ..)) (by simp)
 |x::a,[],_,_,h=>absurd ((h x).1 (List.mem_cons_self ..)) (by simp)
 |x::a,y::b,ha,hb,h=>by
  rw[List.pairwise_cons] at ha hb
  have e:x=y:=by
   have h1:=(h x).1 (List.mem_cons_self ..)
   have h2:=(h y).2 (List.mem_cons_self ..)
   rcases List.mem_cons.1 h1 with h1|h1
   ·exact h1
   ·rcases List.mem_cons.1 h2 with h2|h2
    ·exact h2.symm
    ·have:=hb.1 x h1
     have:=ha.1 y h2
     omega
  subst e
  refine congrArg (x::·) (Abu ha.2 hb.2 fun z=>⟨fun hz=>?_,fun hz=>?_⟩)
  ·rcases List.mem_cons.1 ((h z).1 (List.mem_cons_of_mem _ hz)) with rfl|h1
   ·exact absurd (ha.1 z hz) (Int.lt_irrefl z)
   ·exact h1
  ·rcases List.mem_cons.1 ((h z).2 (List.mem_cons_of_mem _ hz)) with rfl|h1
   ·exact absurd (hb.1 z hz) (Int.lt_irrefl z)
   ·exact h1
theorem Jr:∀{l:List Int} {last:Int},Bn last l=true↔(∀x∈l,last < x∧0≤x∧x < 64)∧l.Pairwise (· < ·)
 |[],last=>by simp [Bn]
 |n::r,last=>by
  rw[Bn]
  by_cases h:n≤last∨¬(0≤n∧n < 64)
  ·rw[if_pos h]
   refine⟨(fun e=>nomatch e),fun⟨e,_⟩=>?_⟩
   have:=e n (List.mem_cons_self ..)
   omega
  ·rw[if_neg h,Jr,List.pairwise_cons]
   constructor
   ·rintro⟨h1,h2⟩
    refine⟨fun x hx=>?_,fun x hx=>(h1 x hx).1,h2⟩
    rcases List.mem_cons.1 hx with rfl|hx
    ·omega
    ·have:=h1 x hx;omega
   ·rintro⟨h1,h2,h3⟩
    exact⟨fun x hx=>⟨h2 x hx,(h1 x (List.mem_cons_of_mem _ hx)).2⟩,h3⟩
theorem Abv (v:UInt64):Bn (-1) (Di v)=true:=Jr.2 ⟨fun x hx=>by have:=Rt.1 hx;omega,Aqc v⟩
theorem Vx (v:UInt64):(Di v).length≤64:=by
 unfold Di
 rw[List.length_map]
 have:=List.length_filter_le (Cr v) (List.range 64)
 simpa using this
structure PlS where
 parent:Int
 spare:Int
 need:Int
deriving Inhabited,DecidableEq
structure GrS where
 place:Int
 ids:List Int
 need:Int
deriving Inhabited,DecidableEq
structure CfS where
 dim:Int
 places:List PlS
 groups:List GrS
 least:Int
 term:Int
deriving Inhabited,DecidableEq
def wiF (n least most:Int):Bool:=decide (least≤n∧n≤most)
def Jt (l:List PlS):Nat→Nat→List Int→Bool
 |0,_,_=>true
 |k+1,i,ab=>
  if wiF (ix l i).parent 0 (i - 1)=true∧wiF (ix l i).spare 0 2=true then
   (if ix ab (ix l i).parent.toNat+1≥4 then false else Jt l k (i+1) (ab.set i (ix ab (ix l i).parent.toNat+1)))
  else false
def stF (l:List PlS):Bool:=
 if wiF l.length 2 16=true∧(ix l 0).parent=-1∧(ix l 0).spare=0 then Jt l (l.length - 1) 1 (List.replicate l.length 0) else false
def Ix (n:Int) (g:GrS) (last:Int) (seen:List Int):Bool:=
 decide (last < g.place∧g.place < n)&&wiF g.ids.length 1 12&&Bn (-1) g.ids&&decide ((By seen g.ids).length=0)&&wiF g.need ((g.ids.length:Int) / 2+1) g.ids.length
def Ju (n:Int):List GrS→Int→List Int→Option (List Int)
 |[],_,seen=>some seen
 |g::r,last,seen=>if Ix n g last seen=true then Ju n r g.place (Ak seen g.ids) else none
def grF (c:CfS):Bool:=
 if 1≤c.groups.length∧c.groups.length < c.places.length then
  (match Ju c.places.length c.groups 0 [] with
   |some seen=>wiF c.least 1 seen.length
   |none=>false)
 else false
def K0 (b:List Int) (p:PlS):List Int:=b.set p.parent.toNat (ix b p.parent.toNat+1)
def beF (l:List PlS):List Int:=(l.drop 1).foldl K0 (List.replicate l.length 0)
def atF (gs:List GrS) (i:Int):Bool:=gs.any fun g=>decide (g.place=i)
def Iy (c:CfS) (b:List Int):Nat→Nat→Bool
 |0,_=>true
 |k+1,i=>if atF c.groups i=decide (0 < ix b i) then false
  else if wiF (ix c.places i).need 1 (if atF c.groups i=true then 1 else ix b i)=true then Iy c b k (i+1) else false
def neF (c:CfS):Bool:=Iy c (beF c.places) c.places.length 0
def cfF (c:CfS):Bool:=wiF c.dim 1 32&&wiF c.term 1 1000&&stF c.places&&grF c&&neF c
def Abw (gs:List GrS):List Int:=gs.foldl (fun s g=>Ak s g.ids) []
def Vy (c:CfS):List Int:=if cfF c=true then Abw c.groups else []
def Do (l:List PlS):Nat→Int→List Int→List Int
 |0,_,acc=>acc
 |k+1,q,acc=>if 0≤q then Do l k (ix l q.toNat).parent (acc++[q]) else acc
def abF (l:List PlS) (p:Nat):List Int:=Do l (p+1) (ix l p).parent []
def Abx (l:List PlS) (p:Nat):List (Nat×Nat):=(List.range ((ix l p).spare+1).toNat).map fun s=>(p,s)
def Aqe (l:List PlS):List (Nat×Nat):=(List.range l.length).flatMap (Abx l)
def Aby (x:Nat×Nat):Int:=64+4*(x.1:Int)+(x.2:Int)
def A2b (c:CfS):List Int:=Vy c++(Aqe c.places).map Aby
theorem Iz {n a b:Int}:wiF n a b=true↔a≤n∧n≤b:=by unfold wiF;exact decide_eq_true_iff
theorem Abz (l:List PlS):∀(k i:Nat) (ab:List Int),Jt l k i ab=true→∀j,i≤j→j < i+k→0≤(ix l j).parent∧(ix l j).parent < j∧0≤(ix l j).spare∧(ix l j).spare≤2
 |0,i,ab,_,j,h1,h2=>by omega
 |k+1,i,ab,h,j,h1,h2=>by
  rw[Jt] at h
  split at h
  ·rename_i h3
   obtain⟨h3,h4⟩:=h3
   rw[Iz] at h3 h4
   split at h
   ·cases h
   ·by_cases e:i=j
    ·subst e;omega
    ·exact Abz l k (i+1) _ h j (by omega) (by omega)
  ·cases h
structure StOk (l:List PlS):Prop where
 least:2≤l.length
 most:l.length≤16
 root:(ix l 0).parent=-1
 root0:(ix l 0).spare=0
 up:∀j,1≤j→j < l.length→0≤(ix l j).parent∧(ix l j).parent < j
 spare:∀j,j < l.length→0≤(ix l j).spare∧(ix l j).spare≤2
theorem Ab0 {l:List PlS} (h:stF l=true):StOk l:=by
 unfold stF at h
 split at h
 ·rename_i h1
  obtain⟨h1,h2,h3⟩:=h1
  rw[Iz] at h1
  have:=Abz l _ _ _ h
  refine⟨by omega,by omega,h2,h3,fun j a b=>?_,fun j b=>?_⟩
  ·have:=this j a (by omega);omega
  ·by_cases e:j=0
   ·subst e;omega
   ·have:=this j (by omega) (by omega);omega
 ·cases h
theorem Ob {c:CfS} (h:cfF c=true):StOk c.places:=by
 unfold cfF at h
 simp only[Bool.and_eq_true] at h
 exact Ab0 h.1.1.2
theorem Ru (l:List PlS):∀(k:Nat) (q:Int) (acc:List Int),Do l k q acc=acc++Do l k q []
 |0,q,acc=>by simp [Do]
 |k+1,q,acc=>by
  rw[Do,Do]
  split
  ·rw[Ru l k _ (acc++[q]),Ru l k _ ([]++[q]),List.nil_append,List.append_assoc]
  ·simp
theorem Rv {l:List PlS} (h:StOk l):∀(k m:Nat) (q:Int) (acc:List Int),q < l.length→q < k→k≤m→Do l m q acc=Do l k q acc
 |0,m,q,acc,_,h2,_=>by
  cases m with
  |zero=>rfl
  |succ m=>
   have hq:¬(0:Int)≤q:=by have h2:q < 0:=h2;omega
   show (if (0:Int)≤q then _ else acc)=acc
   rw[if_neg hq]
 |k+1,m,q,acc,h1,h2,h3=>by
  obtain⟨m,rfl⟩:∃m',m=m'+1:=⟨m - 1,by omega⟩
  rw[Do,Do]
  split
  ·rename_i hq
   refine Rv h k m _ _ ?_ ?_ (by omega)
   ·by_cases e:q.toNat=0
    ·rw[e,h.root];omega
    ·have:=h.up q.toNat (by omega) (by omega);omega
   ·by_cases e:q.toNat=0
    ·rw[e,h.root];omega
    ·have:=h.up q.toNat (by omega) (by omega);omega
  ·rfl
theorem Aqf {l:List PlS} (h:StOk l):abF l 0=[]:=by
 unfold abF
 rw[Do,h.root,if_neg (by omega)]
theorem Aqg {l:List PlS} (h:StOk l) {p:Nat} (h1:1≤p) (h2:p < l.length):abF l p=(ix l p).parent::abF l (ix l p).parent.toNat:=by
 have hu:=h.up p h1 h2
 unfold abF
 rw[Do,if_pos (by omega),Ru,List.nil_append,List.singleton_append]
 congr 1
 refine Rv h _ _ _ _ ?_ ?_ (by omega)
 ·by_cases e:(ix l p).parent.toNat=0
  ·rw[e,h.root];omega
  ·have:=h.up _ (show 1≤(ix l p).parent.toNat by omega) (by omega);omega
 ·by_cases e:(ix l p).parent.toNat=0
  ·rw[e,h.root];omega
  ·have:=h.up _ (show 1≤(ix l p).parent.toNat by omega) (by omega);omega
def Aqh (l:List PlS):Nat→Int
 |0=>0
 |n+1=>Aqh l n+1+(ix l n).spare
end
section
open Go.RowKit
section
variable {w0:World} {hp:List Res}
theorem C5 {γ:List Nm} {w:World} {A:Option Addr} {vs:List Value} (h:RdV w0 w0.heap.size A vs) (hS:Sat w0 No γ hp w):RdV w w.heap.size A vs:=(h.below (Hu hS.keeps)).more (Hu hS.keeps).size
end
attribute [push_cast] beq_self_eq_true
end
section
open Go.RowKit
abbrev A2c (n:Int):Value:=.int .i64 n
theorem Ez {α:Type} [Inhabited α] {l:List α} {i:Nat} (h:i < l.length):ix l i∈l:=by
 simp only[ix,List.getD_eq_getElem?_getD,List.getElem?_eq_getElem h,Option.getD_some]
 exact List.getElem_mem h
def Aqi (F:Nat→Bool) (n:Nat):Int:=match (List.range n).find? F with|some k=>k|none=>-1
def A2d (l:List Int) (n:Int):Bool:=l.any fun x=>decide (x=n)
def A2e (l:List Int) (n:Int):Int:=Aqi (fun i=>decide (ix l i=n)) l.length
end
section
open Go.RowKit
attribute [local irreducible] Ac Ad Ah Au Ao Aj Ai Al
end
section
open Go.RowKit
def fpP:UInt64:=2305843009213693951
attribute [local irreducible] Ac Ad Ah Au Ao Aj Ai Al
abbrev Pr:=Int×UInt64
def pv (p:Pr):List Value:=[.int .i64 p.1,vU64 p.2]
theorem Rx (p:Pr):(pv p).length=2:=rfl
def pvs (l:List Pr):List Value:=l.flatMap pv
theorem Oc (l:List Pr):(pvs l).length=l.length*2:=Cv Rx l
structure FP (w0:World) (A:Option Addr) (l:List Pr):Prop where
 some_:0 < l.length→A.isSome=true
 c0:∀i,i < l.length→A7 w0 (Af A (i*2))=.int .i64 (ix l i).1
 c1:∀i,i < l.length→A7 w0 (Af A (i*2+1))=vU64 (ix l i).2
 ok0:∀i,i < l.length→Cu w0 No (Af A (i*2))
 ok1:∀i,i < l.length→Cu w0 No (Af A (i*2+1))
theorem FP.of {w0:World} {A:Option Addr} {l:List Pr} (hR:RdV w0 w0.heap.size A (pvs l)):FP w0 A l:=by
 have h:=FV.no hR
 have g0:∀i,i < l.length→(pvs l)[i*2]?=some (.int .i64 (ix l i).1):=fun i hi=>Jo Rx l i 0 hi (by omega)
 have g1:∀i,i < l.length→(pvs l)[i*2+1]?=some (vU64 (ix l i).2):=fun i hi=>Jo Rx l i 1 hi (by omega)
 exact⟨fun hp=>h.some_ (by rw[Oc];omega),fun i hi=>(h.cell (g0 i hi)).1,fun i hi=>(h.cell (g1 i hi)).1,fun i hi=>(h.cell (g0 i hi)).2,fun i hi=>(h.cell (g1 i hi)).2⟩
def I0 (l:List Pr):Nat→Int
 |0=>-1
 |i+1=>(ix l i).1
theorem Aqj (l:List Pr):I0 l 0=-1:=rfl
theorem Aqk (l:List Pr) (i:Nat):I0 l (i+1)=(ix l i).1:=rfl
def I2 (l:List Pr) (i:Nat):Prop:=I0 l i < (ix l i).1∧(ix l i).1 < 64∧(ix l i).2≠0∧(ix l i).2 < fpP
instance (l:List Pr) (i:Nat):Decidable (I2 l i):=by unfold I2;exact inferInstance
def may (l:List Pr):Bool:=(List.range l.length).all fun i=>decide (I2 l i)
theorem Od {l:List Pr}:may l=true↔∀i,i < l.length→I2 l i:=by
 unfold may
 simp [List.all_eq_true]
theorem Ry {l:List Pr} {i:Nat} (hi:i < l.length) (h:¬I2 l i):may l=false:=by
 cases hm:may l
 ·rfl
 ·exact absurd (Od.1 hm i hi) h
theorem Ab1 {l:List Pr} (i:Nat) (h:∀j,j < i→I2 l j):(i:Int) - 1≤I0 l i:=by
 induction i with
 |zero=>simp [I0]
 |succ i ih=>
  have h1:=ih fun j hj=>h j (by omega)
  have h2:=(h i (by omega)).1
  simp only[I0]
  omega
theorem Ab2 {l:List Pr} (h:may l=true):l.length≤64:=by
 cases hl:l.length with
 |zero=>omega
 |succ n=>
  have h0:=Od.1 h
  have h1:=Ab1 (l:=l) (n+1) fun j hj=>h0 j (by omega)
  have h2:=(h0 n (by omega)).2.1
  simp only[I0] at h1
  omega
def H5 (l:List Pr):Value:=if may l=true then .nilIface else .iface 91 (.int .i64 1)
theorem Mg {l:List Pr} (h:may l=false):H5 l=.iface 91 (.int .i64 1):=by unfold H5;rw[h];rfl
theorem Ab3 {l:List Pr} (h:may l=true):H5 l=.nilIface:=by unfold H5;rw[h];rfl
theorem Ab4 {a b:UInt64}:¬a≤b↔b < a:=by rw[UInt64.le_iff_toNat_le,UInt64.lt_iff_toNat_lt];omega
set_option maxRecDepth 100000 in
theorem Aql (l:List Pr) (A:Option Addr) (c:Nat) (w:World) (hR:RdV w w.heap.size A (pvs l)):Calls prog 149 #[.slice A l.length c] w fun e w'=>e=.returned (H5 l)∧Below w.heap.size w w':=by
 have F:=FP.of hR
 refine Bf (n:=39) func149 rfl ntmps149 [.x (.a (.v (.slice A l.length c)))] (by simp) (.x (.a (.v (H5 l)))) (fun _=>rfl) ?_
 by_cases h64:(64:Int) < l.length
 ·have hm:may l=false:=by
   cases hm:may l
   ·rfl
   ·have:=Ab2 hm;omega
  simp only[h64,Mg hm,push_cast,↓reduceIte,reduceCtorEq,Nat.reduceLT,Int.reduceNeg]
 simp only[h64,push_cast,↓reduceIte,reduceCtorEq,Nat.reduceLT,Int.reduceNeg]
 refine Bj (ι:=Nat) (fun i=>⟨[(3,.x (.a (.v (.int .i64 (I0 l i))))),(10,.x (.a (.v (.slice A l.length c)))),(11,.x (.a (.v (.int .i64 l.length)))),(12,.x (.a (.v (.int .i64 i))))],[]⟩) (fun i=>i≤l.length∧∀j,j < i→I2 l j) (fun i=>l.length - i) 0 [] ⟨by omega,fun j h=>by omega⟩ ?_ ?_
 ·simp only[Aqj,push_cast,↓Int.cast_ofNat_Int,Int.cast_ofNat_Int,↓reduceIte,Nat.reduceEqDiff,Int.reduceNeg]
 ·rintro i ⟨hi,hj⟩
  by_cases hlt:(i:Int) < l.length
  ·have i0:(0:Int)≤i:=by omega
   have c0:=F.c0 i (by omega)
   have c1:=F.c1 i (by omega)
   have o0:=F.ok0 i (by omega)
   have o1:=F.ok1 i (by omega)
   have hA:=F.some_ (by omega)
   by_cases h1:(ix l i).1≤I0 l i
   ·have hm:=Ry (l:=l) (i:=i) (by omega) (fun h=>by have:=h.1;omega)
    simp only[hlt,i0,c0,c1,o0,o1,hA,h1,Mg hm,Cq,Ce,Bp,undef,push_cast,↓Int.toNat_natCast,↓reduceIte,reduceCtorEq,Nat.reduceEqDiff,Nat.reduceLT,Nat.reduceAdd]
   by_cases h2:(64:Int)≤(ix l i).1
   ·have hm:=Ry (l:=l) (i:=i) (by omega) (fun h=>by have:=h.2.1;omega)
    simp only[hlt,i0,c0,c1,o0,o1,hA,h1,h2,Mg hm,Cq,Ce,Bp,undef,push_cast,↓Int.toNat_natCast,↓reduceIte,reduceCtorEq,Nat.reduceEqDiff,Nat.reduceLT,Nat.reduceAdd]
   by_cases h3:(ix l i).2=0
   ·have hm:=Ry (l:=l) (i:=i) (by omega) (fun h=>h.2.2.1 h3)
    simp only[hlt,i0,c0,c1,o0,o1,hA,h1,h2,h3,Mg hm,Cq,Ce,Bp,undef,push_cast,↓Int.toNat_natCast,↓reduceIte,reduceCtorEq,Nat.reduceEqDiff,Nat.reduceLT,Nat.reduceAdd]
   by_cases h4:(2305843009213693951:UInt64)≤(ix l i).2
   ·have hm:=Ry (l:=l) (i:=i) (by omega) (fun h=>Ab4.2 h.2.2.2 h4)
    simp only[hlt,i0,c0,c1,o0,o1,hA,h1,h2,h3,h4,Mg hm,Cq,Ce,Bp,undef,push_cast,↓Int.toNat_natCast,↓reduceIte,reduceCtorEq,Nat.reduceEqDiff,Nat.reduceLT,Nat.reduceAdd]
   have hg:I2 l i:=⟨by omega,by omega,h3,Ab4.1 h4⟩
   simp only[hlt,i0,c0,c1,o0,o1,hA,h1,h2,h3,h4,Cq,Ce,Bp,undef,push_cast,↓Int.toNat_natCast,↓reduceIte,reduceCtorEq,Nat.reduceEqDiff,Nat.reduceLT,Nat.reduceAdd,Int.reduceNeg]
   (repeat (refine And.intro (by first|omega|decide) ?_))
   refine Ba (i+1) [] ⟨by omega,fun j hjl=>?_⟩ (by omega) ?_
   ·by_cases e:j=i
    ·rw[e];exact hg
    ·exact hj j (by omega)
   ·simp only[Aqk,push_cast,↓reduceIte,Nat.reduceEqDiff]
  ·have hm:may l=true:=Od.2 fun j h=>hj j (by omega)
   simp only[hlt,Ab3 hm,push_cast,↓reduceIte,Nat.reduceEqDiff,Nat.reduceLT]
section
variable {w0:World} {hp:List Res} {sv:Sv} {l:List Pr}
theorem Aqm (h:Hx w0 No hp sv l.length (pvs l)):Ad prog w0 No 149 [sv] hp (.x (.a (.v (H5 l)))) hp:=Bc fun γ w hS=>by
 obtain⟨A,c,e1,_,r1⟩:=h γ w hS
 show Calls _ _ #[sv.val γ] w _
 rw[e1]
 exact Aql l A c w r1
end
def pcs (l:List Pr):List At:=l.flatMap fun p=>[.v (.int .i64 p.1),.v (vU64 p.2)]
theorem Ab5:pcs []=[]:=rfl
theorem Rz (p:Pr) (l:List Pr):pcs (p::l)=.v (.int .i64 p.1):: .v (vU64 p.2)::pcs l:=rfl
theorem Aqn (l m:List Pr):pcs (l++m)=pcs l++pcs m:=by unfold pcs;rw[List.flatMap_append]
theorem Aqo (l:List Pr):(pcs l).length=l.length*2:=by
 induction l with
 |nil=>rfl
 |cons p l ih=>rw[Rz];simp only[List.length_cons,ih];omega
theorem Vz (γ:List Nm) (l:List Pr):(pcs l).map (At.val γ)=pvs l:=by
 induction l with
 |nil=>rfl
 |cons p l ih=>rw[Rz,List.map_cons,List.map_cons,ih];rfl
theorem K2 (ρ:List Nat) (l:List Pr):(pcs l).map (At.ren ρ)=pcs l:=by
 induction l with
 |nil=>rfl
 |cons p l ih=>rw[Rz,List.map_cons,List.map_cons,ih];rfl
theorem H6 {Q:At→Prop} (l:List Pr):(∀x∈pcs l,Q x)=∀p∈l,Q (.v (.int .i64 p.1))∧Q (.v (vU64 p.2)):=by
 apply propext
 induction l with
 |nil=>simp [Ab5]
 |cons p l ih=>
  rw[Rz,List.forall_mem_cons,List.forall_mem_cons,List.forall_mem_cons,ih,and_assoc]
theorem Aqp (l:List Pr) (i:Nat) (h:i < l.length):pcs (l.take i)++[.v (.int .i64 (ix l i).1),.v (vU64 (ix l i).2)]=pcs (l.take (i+1)):=by
 have e:ix l i=l[i]:=by simp [ix,List.getD_eq_getElem?_getD,List.getElem?_eq_getElem h]
 rw[List.take_add_one,List.getElem?_eq_getElem h,Option.toList_some,Aqn,e]
 rfl
attribute [push_cast] K2 Aqo H6
attribute [irreducible] pcs
end
end Go.Proofs.YtedaafmfjhjfmaaGreatDoor
