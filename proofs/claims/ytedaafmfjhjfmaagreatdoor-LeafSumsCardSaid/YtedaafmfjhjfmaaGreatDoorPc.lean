import Derived.Test.YtedaafmfjhjfmaaGreatDoorEn3
import Derived.Test.YtedaafmfjhjfmaaGreatDoorEn1
import Derived.Test.YtedaafmfjhjfmaaGreatDoorShA
import Derived.Test.YtedaafmfjhjfmaaGreatDoorTy
import Derived.Test.YtedaafmfjhjfmaaGreatDoorOpn
/- Numbers as few bytes (layer 11), in plain words: what is written, what is read, and that one undoes the other. No program in sight. -/
namespace Go.Proofs.YtedaafmfjhjfmaaGreatDoor
def dgV:Nat→Nat→List UInt8
 |0,_=>[]
 |k+1,v=>dgV k (v / 256)++[UInt8.ofNat (v % 256)]
def fbV (l:List UInt8):Nat:=l.foldl (fun v x=>256*v+x.toNat) 0
def nbV:Nat→Nat→Nat
 |0,_=>1
 |k+1,v=>if v < 256 then 1 else 1+nbV k (v / 256)
def nb8 (v:UInt64):Nat:=nbV 7 v.toNat
def Ht (v:UInt64):List UInt8:=if v < 248 then [v.toUInt8] else UInt8.ofNat (247+nb8 v)::dgV (nb8 v) v.toNat
def Ay7:List UInt8→Option (UInt64×Nat)
 |[]=>none
 |x::t=>if x < 248 then some (x.toUInt64,1)
  else if t.length < x.toNat - 247∨ix t 0=0 then none
  else if fbV (t.take (x.toNat - 247)) < 248 then none
  else some (UInt64.ofNat (fbV (t.take (x.toNat - 247))),x.toNat - 246)
end Go.Proofs.YtedaafmfjhjfmaaGreatDoor
/- Fields as bytes (layer 13), in plain words: what is written, what is read of it, and what is read of a part of it. No program in sight. -/
namespace Go.Proofs.YtedaafmfjhjfmaaGreatDoor
structure Fd where
 k:UInt8
 n:UInt64
 l:List UInt64
 b:List UInt8
 s:List UInt8
 x:List UInt32
 many:Int
 most:UInt64
def w4 (a b c d:UInt8):UInt32:=a.toUInt32 <<< 24|||b.toUInt32 <<< 16|||c.toUInt32 <<< 8|||d.toUInt32
def b4 (v:UInt32):List UInt8:=[(v >>> 24).toUInt8,(v >>> 16).toUInt8,(v >>> 8).toUInt8,v.toUInt8]
def Aab (x:List UInt32):List UInt8:=x.flatMap b4
def M8 (l:List UInt64):List UInt8:=l.flatMap Ht
def Jg {α:Type} (l:List α):List UInt8:=Ht (UInt64.ofNat l.length)
def Ay8 (f:Fd):List UInt8:=
 if f.k=0 then Ht f.n else if f.k=1 then Jg f.l++M8 f.l else if f.k=2 then Jg f.b++f.b else if f.k=3 then f.s else Jg f.x++Aab f.x
def A9s (l:List Fd):List UInt8:=l.flatMap Ay8
abbrev Rs:=List UInt8×Bool
def Hu:Rs:=([],true)
def Ct (most:UInt64) (st:Rs):UInt64×Bool×Rs:=match Ay7 st.1 with
 |some (v,n)=>if v≤most then (v,true,(st.1.drop n,st.2)) else (0,false,Hu)
 |none=>(0,false,Hu)
def M9 (many:Int):UInt64:=UInt64.ofNat (max many 0).toNat
def Ex (many:Int) (each:Nat) (st:Rs):Nat×Bool×Rs:=
 if (Ct (M9 many) st).2.1=true then
  (if (Ct (M9 many) st).1.toNat≤(Ct (M9 many) st).2.2.1.length / each then ((Ct (M9 many) st).1.toNat,true,(Ct (M9 many) st).2.2) else (0,false,Hu))
 else (0,false,Hu)
def Aac (most:UInt64):Nat→List UInt64→Rs→List UInt64×Rs
 |0,acc,st=>(acc,st)
 |n+1,acc,st=>if (Ct most st).2.1=true then Aac most n (acc++[(Ct most st).1]) (Ct most st).2.2 else ([],Hu)
def Aad:List UInt8→List UInt32
 |a::b::c::d::r=>w4 a b c d::Aad r
 |_=>[]
def Fg (many:Int) (most:UInt64) (st:Rs):List UInt64×Rs:=
 if (Ex many 1 st).2.1=true then Aac most (Ex many 1 st).1 [] (Ex many 1 st).2.2 else ([],Hu)
def bytesOf (many:Int) (st:Rs):List UInt8×Rs:=
 if (Ex many 1 st).2.1=true then ((Ex many 1 st).2.2.1.take (Ex many 1 st).1,((Ex many 1 st).2.2.1.drop (Ex many 1 st).1,(Ex many 1 st).2.2.2)) else ([],Hu)
def Qz (st:Rs):List UInt8×Rs:=if st.1.length < 32 then (List.replicate 32 0,Hu) else (st.1.take 32,(st.1.drop 32,st.2))
def Q0 (many:Int) (st:Rs):List UInt32×Rs:=
 if (Ex many 4 st).2.1=true then (Aad ((Ex many 4 st).2.2.1.take (4*(Ex many 4 st).1)),((Ex many 4 st).2.2.1.drop (4*(Ex many 4 st).1),(Ex many 4 st).2.2.2)) else ([],Hu)
def Hv (k:UInt8):Fd:=⟨k,0,[],[],List.replicate 32 0,[],0,0⟩
def A9t (f:Fd) (st:Rs):Fd×Rs:=
 if f.k=0 then ({Hv f.k with n:=(Ct f.most st).1},(Ct f.most st).2.2)
 else if f.k=1 then ({Hv f.k with l:=(Fg f.many f.most st).1},(Fg f.many f.most st).2)
 else if f.k=2 then ({Hv f.k with b:=(bytesOf f.many st).1},(bytesOf f.many st).2)
 else if f.k=3 then ({Hv f.k with s:=(Qz st).1},(Qz st).2)
 else ({Hv f.k with x:=(Q0 f.many st).1},(Q0 f.many st).2)
def pre (c:Nat) (l:List UInt8):Rs:=(l.take c,false)
def A9u (f:Fd):Fd:={f with many:=300,most:=18446744073709551615}
def A9v (f:Fd):Fd:=if f.k=0 then {Hv f.k with n:=f.n} else if f.k=1 then {Hv f.k with l:=f.l} else if f.k=2 then {Hv f.k with b:=f.b} else if f.k=3 then {Hv f.k with s:=f.s} else {Hv f.k with x:=f.x}
end Go.Proofs.YtedaafmfjhjfmaaGreatDoor
/- The plain law of layers 15, 21, 22: sets as bits, who there is, places above one another, nodes. No program in sight. -/
namespace Go.Proofs.YtedaafmfjhjfmaaGreatDoor
def Df (v:UInt64) (n:Nat):Bool:=decide (H9 v n&&& 1=1)
def Ij (s:UInt64) (n:Int):UInt64:=if 0≤n∧n < 64 then s|||Jz 1 n.toNat else s
def Cu (l:List Int):UInt64:=l.foldl Ij 0
def Dm (v:UInt64):List Int:=((List.range 64).filter (Df v)).map Int.ofNat
def A8 (l:List Int) (n:Int):Bool:=decide (0≤n∧n < 64)&&Df (Cu l) n.toNat
def Bj (a b:List Int):List Int:=Dm (Cu a|||Cu b)
def Gf (a b:List Int):List Int:=Dm (Cu a&&& Cu b)
def A9w (a b:List Int):List Int:=Dm (Cu a&&& ~~~ Cu b)
def Br:Int→List Int→Bool
 |_,[]=>true
 |last,n::r=>if n≤last∨¬(0≤n∧n < 64) then false else Br n r
theorem Q3 {v:UInt64} {n:Nat} (h:n < 64):Df v n=v.toNat.testBit n:=by
 unfold Df H9
 rw[if_pos h]
 have e:((v >>> UInt64.ofNat n)&&& 1).toNat=(v.toNat >>> n)&&& 1:=by
  rw[UInt64.toNat_and,UInt64.toNat_shiftRight,UInt64.toNat_ofNat']
  rw[Nat.mod_eq_of_lt (show n < 2 ^ 64 by omega),Nat.mod_eq_of_lt h]
  rfl
 have e1:((v >>> UInt64.ofNat n)&&& 1=1)↔(v.toNat >>> n)&&& 1=1:=by
  rw[←UInt64.toNat_inj,e]
  rfl
 rw[Nat.testBit,Nat.and_comm]
 by_cases hb:(v.toNat >>> n)&&& 1=1
 ·rw[decide_eq_true (e1.2 hb),hb];rfl
 ·rw[decide_eq_false fun h=>hb (e1.1 h)]
  have:(v.toNat >>> n)&&& 1=0:=by
   have:=Nat.and_one_is_mod (v.toNat >>> n)
   omega
  rw[this];rfl
theorem Vc (a b:UInt64) {n:Nat} (h:n < 64):Df (a|||b) n=(Df a n||Df b n):=by
 rw[Q3 h,Q3 h,Q3 h,UInt64.toNat_or,Nat.testBit_or]
theorem Ay9 {m n:Nat} (hm:m < 64) (hn:n < 64):Df (Jz 1 m) n=decide (m=n):=by
 rw[Q3 hn]
 unfold Jz
 rw[if_pos hm]
 have e:((1:UInt64) <<< UInt64.ofNat m).toNat=2 ^ m:=by
  rw[UInt64.toNat_shiftLeft,UInt64.toNat_ofNat',Nat.mod_eq_of_lt (show m < 2 ^ 64 by omega),Nat.mod_eq_of_lt hm]
  show 1 <<< m % 2 ^ 64=_
  rw[Nat.shiftLeft_eq,Nat.one_mul,Nat.mod_eq_of_lt (Nat.pow_lt_pow_right (by omega) hm)]
 rw[e,Nat.testBit_two_pow]
theorem Aza (n:Nat):Df 0 n=false:=by
 unfold Df H9
 split
 ·rename_i h
  have:(0:UInt64) >>> UInt64.ofNat n=0:=by
   apply UInt64.toNat_inj.1
   rw[UInt64.toNat_shiftRight]
   exact Nat.zero_shiftRight _
  rw[this];rfl
 ·rfl
theorem Azb (l:List Int):∀(s:UInt64) {n:Nat},n < 64→Df (l.foldl Ij s) n=(Df s n||decide ((n:Int)∈l)):=by
 induction l with
 |nil=>intro s n _;simp
 |cons x l ih=>
  intro s n h
  rw[List.foldl_cons,ih _ h]
  unfold Ij
  by_cases hx:0≤x∧x < 64
  ·rw[if_pos hx,Vc _ _ h,Ay9 (by omega) h]
   have:decide (x.toNat=n)=decide ((n:Int)=x):=by
    by_cases e:x.toNat=n
    ·rw[decide_eq_true e,decide_eq_true (by omega)]
    ·rw[decide_eq_false e,decide_eq_false (by omega)]
   rw[this,Bool.or_assoc]
   congr 1
   simp
  ·rw[if_neg hx]
   congr 1
   have:¬(n:Int)=x:=by omega
   simp [this]
theorem Na (l:List Int) {n:Nat} (h:n < 64):Df (Cu l) n=decide ((n:Int)∈l):=by
 unfold Cu
 rw[Azb l 0 h,Aza,Bool.false_or]
theorem Q4 (l:List Int) (n:Int):A8 l n=decide (0≤n∧n < 64∧n∈l):=by
 unfold A8
 by_cases h:0≤n∧n < 64
 ·rw[decide_eq_true h,Bool.true_and,Na l (by omega),show ((n.toNat:Nat):Int)=n by omega]
  by_cases hm:n∈l
  ·rw[decide_eq_true hm,decide_eq_true ⟨h.1,h.2,hm⟩]
  ·rw[decide_eq_false hm,decide_eq_false fun e=>hm e.2.2]
 ·rw[decide_eq_false h,decide_eq_false fun e=>h ⟨e.1,e.2.1⟩];rfl
theorem Aae {v:UInt64} {x:Int}:x∈Dm v↔0≤x∧x < 64∧Df v x.toNat=true:=by
 unfold Dm
 rw[List.mem_map]
 constructor
 ·rintro⟨n,hn,rfl⟩
  rw[List.mem_filter,List.mem_range] at hn
  refine⟨by show (0:Int)≤(n:Int);omega,?_,hn.2⟩
  have:=hn.1
  show (n:Int) < 64
  omega
 ·rintro⟨h1,h2,h3⟩
  refine⟨x.toNat,?_,by show ((x.toNat:Nat):Int)=x;omega⟩
  rw[List.mem_filter,List.mem_range]
  exact⟨by omega,h3⟩
theorem Aaf (v:UInt64):(Dm v).Pairwise (· < ·):=by
 unfold Dm
 rw[List.pairwise_map]
 exact (List.pairwise_lt_range.filter _).imp fun h=>Int.ofNat_lt.2 h
theorem Azc {a b:List Int} {x:Int}:x∈Bj a b↔0≤x∧x < 64∧(x∈a∨x∈b):=by
 unfold Bj
 rw[Aae]
 refine⟨fun⟨h1,h2,h3⟩=>⟨h1,h2,?_⟩,fun⟨h1,h2,h3⟩=>⟨h1,h2,?_⟩⟩
 ·rw[Vc _ _ (by omega),Na _ (by omega),Na _ (by omega),show ((x.toNat:Nat):Int)=x by omega] at h3
  simpa using h3
 ·rw[Vc _ _ (by omega),Na _ (by omega),Na _ (by omega),show ((x.toNat:Nat):Int)=x by omega]
  simpa using h3
theorem Km:∀{l:List Int} {last:Int},Br last l=true↔(∀x∈l,last < x∧0≤x∧x < 64)∧l.Pairwise (· < ·)
 |[],last=>by simp [Br]
 |n::r,last=>by
  rw[Br]
  by_cases h:n≤last∨¬(0≤n∧n < 64)
  ·rw[if_pos h]
   refine⟨(fun e=>nomatch e),fun⟨e,_⟩=>?_⟩
   have:=e n (List.mem_cons_self ..)
   omega
  ·rw[if_neg h,Km,List.pairwise_cons]
   constructor
   ·rintro⟨h1,h2⟩
    refine⟨fun x hx=>?_,fun x hx=>(h1 x hx).1,h2⟩
    rcases List.mem_cons.1 hx with rfl|hx
    ·omega
    ·have:=h1 x hx;omega
   ·rintro⟨h1,h2,h3⟩
    exact⟨fun x hx=>⟨h2 x hx,(h1 x (List.mem_cons_of_mem _ hx)).2⟩,h3⟩
theorem Azd (v:UInt64):Br (-1) (Dm v)=true:=Km.2 ⟨fun x hx=>by have:=Aae.1 hx;omega,Aaf v⟩
theorem Aag (v:UInt64):(Dm v).length≤64:=by
 unfold Dm
 rw[List.length_map]
 have:=List.length_filter_le (Df v) (List.range 64)
 simpa using this
structure PlS where
 parent:Int
 spare:Int
 need:Int
deriving Inhabited,DecidableEq
structure GrS where
 place:Int
 ids:List Int
 need:Int
deriving Inhabited,DecidableEq
structure CfS where
 dim:Int
 places:List PlS
 groups:List GrS
 least:Int
 term:Int
deriving Inhabited,DecidableEq
def wiF (n least most:Int):Bool:=decide (least≤n∧n≤most)
def Jh (l:List PlS):Nat→Nat→List Int→Bool
 |0,_,_=>true
 |k+1,i,ab=>
  if wiF (ix l i).parent 0 (i - 1)=true∧wiF (ix l i).spare 0 2=true then
   (if ix ab (ix l i).parent.toNat+1≥4 then false else Jh l k (i+1) (ab.set i (ix ab (ix l i).parent.toNat+1)))
  else false
def stF (l:List PlS):Bool:=
 if wiF l.length 2 16=true∧(ix l 0).parent=-1∧(ix l 0).spare=0 then Jh l (l.length - 1) 1 (List.replicate l.length 0) else false
def Gy (n:Int) (g:GrS) (last:Int) (seen:List Int):Bool:=
 decide (last < g.place∧g.place < n)&&wiF g.ids.length 1 12&&Br (-1) g.ids&&decide ((Gf seen g.ids).length=0)&&wiF g.need ((g.ids.length:Int) / 2+1) g.ids.length
def Gz (n:Int):List GrS→Int→List Int→Option (List Int)
 |[],_,seen=>some seen
 |g::r,last,seen=>if Gy n g last seen=true then Gz n r g.place (Bj seen g.ids) else none
def grF (c:CfS):Bool:=
 if 1≤c.groups.length∧c.groups.length < c.places.length then
  (match Gz c.places.length c.groups 0 [] with
   |some seen=>wiF c.least 1 seen.length
   |none=>false)
 else false
def Aah (b:List Int) (p:PlS):List Int:=b.set p.parent.toNat (ix b p.parent.toNat+1)
def beF (l:List PlS):List Int:=(l.drop 1).foldl Aah (List.replicate l.length 0)
def atF (gs:List GrS) (i:Int):Bool:=gs.any fun g=>decide (g.place=i)
def Kn (c:CfS) (b:List Int):Nat→Nat→Bool
 |0,_=>true
 |k+1,i=>if atF c.groups i=decide (0 < ix b i) then false
  else if wiF (ix c.places i).need 1 (if atF c.groups i=true then 1 else ix b i)=true then Kn c b k (i+1) else false
def neF (c:CfS):Bool:=Kn c (beF c.places) c.places.length 0
def cfF (c:CfS):Bool:=wiF c.dim 1 32&&wiF c.term 1 1000&&stF c.places&&grF c&&neF c
def Aai (gs:List GrS):List Int:=gs.foldl (fun s g=>Bj s g.ids) []
def Vd (c:CfS):List Int:=if cfF c=true then Aai c.groups else []
def D6 (l:List PlS):Nat→Int→List Int→List Int
 |0,_,acc=>acc
 |k+1,q,acc=>if 0≤q then D6 l k (ix l q.toNat).parent (acc++[q]) else acc
def abF (l:List PlS) (p:Nat):List Int:=D6 l (p+1) (ix l p).parent []
def Aaj (l:List PlS) (p:Nat):List (Nat×Nat):=(List.range ((ix l p).spare+1).toNat).map fun s=>(p,s)
def Aze (l:List PlS):List (Nat×Nat):=(List.range l.length).flatMap (Aaj l)
def Aak (x:Nat×Nat):Int:=64+4*(x.1:Int)+(x.2:Int)
def A9x (c:CfS):List Int:=Vd c++(Aze c.places).map Aak
theorem Ji {n a b:Int}:wiF n a b=true↔a≤n∧n≤b:=by unfold wiF;exact decide_eq_true_iff
theorem Aal (l:List PlS):∀(k i:Nat) (ab:List Int),Jh l k i ab=true→∀j,i≤j→j < i+k→0≤(ix l j).parent∧(ix l j).parent < j∧0≤(ix l j).spare∧(ix l j).spare≤2
 |0,i,ab,_,j,h1,h2=>by omega
 |k+1,i,ab,h,j,h1,h2=>by
  rw[Jh] at h
  split at h
  ·rename_i h3
   obtain⟨h3,h4⟩:=h3
   rw[Ji] at h3 h4
   split at h
   ·cases h
   ·by_cases e:i=j
    ·subst e;omega
    ·exact Aal l k (i+1) _ h j (by omega) (by omega)
  ·cases h
structure StOk (l:List PlS):Prop where
 least:2≤l.length
 most:l.length≤16
 root:(ix l 0).parent=-1
 root0:(ix l 0).spare=0
 up:∀j,1≤j→j < l.length→0≤(ix l j).parent∧(ix l j).parent < j
 spare:∀j,j < l.length→0≤(ix l j).spare∧(ix l j).spare≤2
theorem Aam {l:List PlS} (h:stF l=true):StOk l:=by
 unfold stF at h
 split at h
 ·rename_i h1
  obtain⟨h1,h2,h3⟩:=h1
  rw[Ji] at h1
  have:=Aal l _ _ _ h
  refine⟨by omega,by omega,h2,h3,fun j a b=>?_,fun j b=>?_⟩
  ·have:=this j a (by omega);omega
  ·by_cases e:j=0
   ·subst e;omega
   ·have:=this j (by omega) (by omega);omega
 ·cases h
theorem Azf {c:CfS} (h:cfF c=true):StOk c.places:=by
 unfold cfF at h
 simp only[Bool.and_eq_true] at h
 exact Aam h.1.1.2
theorem Ve (l:List PlS):∀(k:Nat) (q:Int) (acc:List Int),D6 l k q acc=acc++D6 l k q []
 |0,q,acc=>by simp [D6]
 |k+1,q,acc=>by
  rw[D6,D6]
  split
  ·rw[Ve l k _ (acc++[q]),Ve l k _ ([]++[q]),List.nil_append,List.append_assoc]
  ·simp
theorem Vf {l:List PlS} (h:StOk l):∀(k m:Nat) (q:Int) (acc:List Int),q < l.length→q < k→k≤m→D6 l m q acc=D6 l k q acc
 |0,m,q,acc,_,h2,_=>by
  cases m with
  |zero=>rfl
  |succ m=>
   have hq:¬(0:Int)≤q:=by have h2:q < 0:=h2;omega
   show (if (0:Int)≤q then _ else acc)=acc
   rw[if_neg hq]
 |k+1,m,q,acc,h1,h2,h3=>by
  obtain⟨m,rfl⟩:∃m',m=m'+1:=⟨m - 1,by omega⟩
  rw[D6,D6]
  split
  ·rename_i hq
   refine Vf h k m _ _ ?_ ?_ (by omega)
   ·by_cases e:q.toNat=0
    ·rw[e,h.root];omega
    ·have:=h.up q.toNat (by omega) (by omega);omega
   ·by_cases e:q.toNat=0
    ·rw[e,h.root];omega
    ·have:=h.up q.toNat (by omega) (by omega);omega
  ·rfl
def Azg (l:List PlS):Nat→Int
 |0=>0
 |n+1=>Azg l n+1+(ix l n).spare
end Go.Proofs.YtedaafmfjhjfmaaGreatDoor
/- What came in reads as it did later on. No program in sight. -/
namespace Go.Proofs.YtedaafmfjhjfmaaGreatDoor
open Go.RowKit
set_option linter.unusedSimpArgs false
section
variable {w0:World} {hp:List Res}
theorem Dn {γ:List Nm} {w:World} {A:Option Addr} {vs:List Value} (h:RdV w0 w0.heap.size A vs) (hS:Sat w0 No γ hp w):RdV w w.heap.size A vs:=(h.below (Dc hS.keeps)).more (Dc hS.keeps).size
end
attribute [push_cast] beq_self_eq_true
end Go.Proofs.YtedaafmfjhjfmaaGreatDoor
/- SetA: Bl0, Set0, joined. -/
/- Where something is first in a list. No program in sight. -/
namespace Go.Proofs.YtedaafmfjhjfmaaGreatDoor
open Go.RowKit
set_option linter.unusedSimpArgs false
abbrev A9y (n:Int):Value:=.int .i64 n
theorem Fh {α:Type} [Inhabited α] {l:List α} {i:Nat} (h:i < l.length):ix l i∈l:=by
 simp only[ix,List.getD_eq_getElem?_getD,List.getElem?_eq_getElem h,Option.getD_some]
 exact List.getElem_mem h
def Azh (F:Nat→Bool) (n:Nat):Int:=match (List.range n).find? F with|some k=>k|none=>-1
def A9z (l:List Int) (n:Int):Bool:=l.any fun x=>decide (x=n)
def A90 (l:List Int) (n:Int):Int:=Azh (fun i=>decide (ix l i=n)) l.length
end Go.Proofs.YtedaafmfjhjfmaaGreatDoor
/- slices.Index, slices.Contains on whole numbers: where a number is first, and whether. -/
namespace Go.Proofs.YtedaafmfjhjfmaaGreatDoor
open Go.RowKit
set_option linter.unusedSimpArgs false
attribute [local irreducible] Ah Ai Am Bc A7 Ay Ap A6
end Go.Proofs.YtedaafmfjhjfmaaGreatDoor
/- Peers as rows of two cells: may they be (layer 9), by the program and by the document; given as the program's (law 16). -/
namespace Go.Proofs.YtedaafmfjhjfmaaGreatDoor
open Go.RowKit
set_option linter.unusedSimpArgs false
set_option linter.unusedVariables false
def fpP:UInt64:=2305843009213693951
attribute [local irreducible] Ah Ai Am Bc A7 Ay Ap A6
abbrev Pr:=Int×UInt64
def pv (p:Pr):List Value:=[.int .i64 p.1,vU64 p.2]
theorem Q5 (p:Pr):(pv p).length=2:=rfl
def pvs (l:List Pr):List Value:=l.flatMap pv
theorem Jj (l:List Pr):(pvs l).length=l.length*2:=Hr Q5 l
structure FP (w0:World) (A:Option Addr) (l:List Pr):Prop where
 some_:0 < l.length→A.isSome=true
 c0:∀i,i < l.length→Be w0 (Aj A (i*2))=.int .i64 (ix l i).1
 c1:∀i,i < l.length→Be w0 (Aj A (i*2+1))=vU64 (ix l i).2
 ok0:∀i,i < l.length→B6 w0 No (Aj A (i*2))
 ok1:∀i,i < l.length→B6 w0 No (Aj A (i*2+1))
theorem FP.of {w0:World} {A:Option Addr} {l:List Pr} (hR:RdV w0 w0.heap.size A (pvs l)):FP w0 A l:=by
 have h:=FV.no hR
 have g0:∀i,i < l.length→(pvs l)[i*2]?=some (.int .i64 (ix l i).1):=fun i hi=>L0 Q5 l i 0 hi (by omega)
 have g1:∀i,i < l.length→(pvs l)[i*2+1]?=some (vU64 (ix l i).2):=fun i hi=>L0 Q5 l i 1 hi (by omega)
 exact⟨fun hp=>h.some_ (by rw[Jj];omega),fun i hi=>(h.cell (g0 i hi)).1,fun i hi=>(h.cell (g1 i hi)).1,fun i hi=>(h.cell (g0 i hi)).2,fun i hi=>(h.cell (g1 i hi)).2⟩
def Ik (l:List Pr):Nat→Int
 |0=>-1
 |i+1=>(ix l i).1
theorem Azi (l:List Pr):Ik l 0=-1:=rfl
theorem Azj (l:List Pr) (i:Nat):Ik l (i+1)=(ix l i).1:=rfl
def Jk (l:List Pr) (i:Nat):Prop:=Ik l i < (ix l i).1∧(ix l i).1 < 64∧(ix l i).2≠0∧(ix l i).2 < fpP
instance (l:List Pr) (i:Nat):Decidable (Jk l i):=by unfold Jk;exact inferInstance
def may (l:List Pr):Bool:=(List.range l.length).all fun i=>decide (Jk l i)
theorem Vg {l:List Pr}:may l=true↔∀i,i < l.length→Jk l i:=by
 unfold may
 simp [List.all_eq_true]
theorem Q6 {l:List Pr} {i:Nat} (hi:i < l.length) (h:¬Jk l i):may l=false:=by
 cases hm:may l
 ·rfl
 ·exact absurd (Vg.1 hm i hi) h
theorem Azk {l:List Pr} (i:Nat) (h:∀j,j < i→Jk l j):(i:Int) - 1≤Ik l i:=by
 induction i with
 |zero=>simp [Ik]
 |succ i ih=>
  have h1:=ih fun j hj=>h j (by omega)
  have h2:=(h i (by omega)).1
  simp only[Ik]
  omega
theorem Azl {l:List Pr} (h:may l=true):l.length≤64:=by
 cases hl:l.length with
 |zero=>omega
 |succ n=>
  have h0:=Vg.1 h
  have h1:=Azk (l:=l) (n+1) fun j hj=>h0 j (by omega)
  have h2:=(h0 n (by omega)).2.1
  simp only[Ik] at h1
  omega
def Hw (l:List Pr):Value:=if may l=true then .nilIface else .iface 91 (.int .i64 1)
theorem L2 {l:List Pr} (h:may l=false):Hw l=.iface 91 (.int .i64 1):=by unfold Hw;rw[h];rfl
theorem Aan {l:List Pr} (h:may l=true):Hw l=.nilIface:=by unfold Hw;rw[h];rfl
theorem Aao {a b:UInt64}:¬a≤b↔b < a:=by rw[UInt64.le_iff_toNat_le,UInt64.lt_iff_toNat_lt];omega
set_option maxRecDepth 100000 in
theorem Azm (l:List Pr) (A:Option Addr) (c:Nat) (w:World) (hR:RdV w w.heap.size A (pvs l)):Calls Tryz.prog 149 #[.slice A l.length c] w fun e w'=>e=.returned (Hw l)∧Below w.heap.size w w':=by
 have F:=FP.of hR
 refine Bm (n:=39) Tryz.func149 rfl Tryz.ntmps149 [.x (.a (.v (.slice A l.length c)))] (by simp) (.x (.a (.v (Hw l)))) (fun _=>rfl) ?_
 by_cases h64:(64:Int) < l.length
 ·have hm:may l=false:=by
   cases hm:may l
   ·rfl
   ·have:=Azl hm;omega
  simp only[h64,L2 hm,push_cast,↓reduceIte,reduceCtorEq,Nat.reduceLT,Int.reduceNeg]
 simp only[h64,push_cast,↓reduceIte,reduceCtorEq,Nat.reduceLT,Int.reduceNeg]
 refine B9 (ι:=Nat) (fun i=>⟨[(3,.x (.a (.v (.int .i64 (Ik l i))))),(10,.x (.a (.v (.slice A l.length c)))),(11,.x (.a (.v (.int .i64 l.length)))),(12,.x (.a (.v (.int .i64 i))))],[]⟩) (fun i=>i≤l.length∧∀j,j < i→Jk l j) (fun i=>l.length - i) 0 [] ⟨by omega,fun j h=>by omega⟩ ?_ ?_
 ·simp only[Azi,push_cast,↓Int.cast_ofNat_Int,Int.cast_ofNat_Int,↓reduceIte,Nat.reduceEqDiff,Int.reduceNeg]
 ·rintro i ⟨hi,hj⟩
  by_cases hlt:(i:Int) < l.length
  ·have i0:(0:Int)≤i:=by omega
   have c0:=F.c0 i (by omega)
   have c1:=F.c1 i (by omega)
   have o0:=F.ok0 i (by omega)
   have o1:=F.ok1 i (by omega)
   have hA:=F.some_ (by omega)
   by_cases h1:(ix l i).1≤Ik l i
   ·have hm:=Q6 (l:=l) (i:=i) (by omega) (fun h=>by have:=h.1;omega)
    simp only[hlt,i0,c0,c1,o0,o1,hA,h1,L2 hm,Bx,Cy,By,undef,push_cast,↓Int.toNat_natCast,↓reduceIte,reduceCtorEq,Nat.reduceEqDiff,Nat.reduceLT,Nat.reduceAdd]
   by_cases h2:(64:Int)≤(ix l i).1
   ·have hm:=Q6 (l:=l) (i:=i) (by omega) (fun h=>by have:=h.2.1;omega)
    simp only[hlt,i0,c0,c1,o0,o1,hA,h1,h2,L2 hm,Bx,Cy,By,undef,push_cast,↓Int.toNat_natCast,↓reduceIte,reduceCtorEq,Nat.reduceEqDiff,Nat.reduceLT,Nat.reduceAdd]
   by_cases h3:(ix l i).2=0
   ·have hm:=Q6 (l:=l) (i:=i) (by omega) (fun h=>h.2.2.1 h3)
    simp only[hlt,i0,c0,c1,o0,o1,hA,h1,h2,h3,L2 hm,Bx,Cy,By,undef,push_cast,↓Int.toNat_natCast,↓reduceIte,reduceCtorEq,Nat.reduceEqDiff,Nat.reduceLT,Nat.reduceAdd]
   by_cases h4:(2305843009213693951:UInt64)≤(ix l i).2
   ·have hm:=Q6 (l:=l) (i:=i) (by omega) (fun h=>Aao.2 h.2.2.2 h4)
    simp only[hlt,i0,c0,c1,o0,o1,hA,h1,h2,h3,h4,L2 hm,Bx,Cy,By,undef,push_cast,↓Int.toNat_natCast,↓reduceIte,reduceCtorEq,Nat.reduceEqDiff,Nat.reduceLT,Nat.reduceAdd]
   have hg:Jk l i:=⟨by omega,by omega,h3,Aao.1 h4⟩
   simp only[hlt,i0,c0,c1,o0,o1,hA,h1,h2,h3,h4,Bx,Cy,By,undef,push_cast,↓Int.toNat_natCast,↓reduceIte,reduceCtorEq,Nat.reduceEqDiff,Nat.reduceLT,Nat.reduceAdd,Int.reduceNeg]
   (repeat (refine And.intro (by first|omega|decide) ?_))
   refine Bv (i+1) [] ⟨by omega,fun j hjl=>?_⟩ (by omega) ?_
   ·by_cases e:j=i
    ·rw[e];exact hg
    ·exact hj j (by omega)
   ·simp only[Azj,push_cast,↓reduceIte,Nat.reduceEqDiff]
  ·have hm:may l=true:=Vg.2 fun j h=>hj j (by omega)
   simp only[hlt,Aan hm,push_cast,↓reduceIte,Nat.reduceEqDiff,Nat.reduceLT]
section
variable {w0:World} {hp:List Res} {sv:Sv} {l:List Pr}
theorem Azn (h:Kl w0 No hp sv l.length (pvs l)):Ai Tryz.prog w0 No 149 [sv] hp (.x (.a (.v (Hw l)))) hp:=Bq fun γ w hS=>by
 obtain⟨A,c,e1,_,r1⟩:=h γ w hS
 show Calls _ _ #[sv.val γ] w _
 rw[e1]
 exact Azm l A c w r1
end
def pcs (l:List Pr):List At:=l.flatMap fun p=>[.v (.int .i64 p.1),.v (vU64 p.2)]
theorem Q7:pcs []=[]:=rfl
theorem Nb (p:Pr) (l:List Pr):pcs (p::l)=.v (.int .i64 p.1):: .v (vU64 p.2)::pcs l:=rfl
theorem Aap (l m:List Pr):pcs (l++m)=pcs l++pcs m:=by unfold pcs;rw[List.flatMap_append]
theorem Azo (l:List Pr):(pcs l).length=l.length*2:=by
 induction l with
 |nil=>rfl
 |cons p l ih=>rw[Nb];simp only[List.length_cons,ih];omega
theorem L3 (γ:List Nm) (l:List Pr):(pcs l).map (At.val γ)=pvs l:=by
 induction l with
 |nil=>rfl
 |cons p l ih=>rw[Nb,List.map_cons,List.map_cons,ih];rfl
theorem Jl (ρ:List Nat) (l:List Pr):(pcs l).map (At.ren ρ)=pcs l:=by
 induction l with
 |nil=>rfl
 |cons p l ih=>rw[Nb,List.map_cons,List.map_cons,ih];rfl
theorem G5 {Q:At→Prop} (l:List Pr):(∀x∈pcs l,Q x)=∀p∈l,Q (.v (.int .i64 p.1))∧Q (.v (vU64 p.2)):=by
 apply propext
 induction l with
 |nil=>simp [Q7]
 |cons p l ih=>
  rw[Nb,List.forall_mem_cons,List.forall_mem_cons,List.forall_mem_cons,ih,and_assoc]
theorem Azp (l:List Pr) (i:Nat) (h:i < l.length):pcs (l.take i)++[.v (.int .i64 (ix l i).1),.v (vU64 (ix l i).2)]=pcs (l.take (i+1)):=by
 have e:ix l i=l[i]:=by simp [ix,List.getD_eq_getElem?_getD,List.getElem?_eq_getElem h]
 rw[List.take_add_one,List.getElem?_eq_getElem h,Option.toList_some,Aap,e]
 rfl
attribute [push_cast] Jl Azo G5
attribute [irreducible] pcs
end Go.Proofs.YtedaafmfjhjfmaaGreatDoor
