import Derived.Test.YtedaafmfjhjfmaaGreatDoorEn3
import Derived.Test.YtedaafmfjhjfmaaGreatDoorEn1
/- Numbers as few bytes (layer 11), in plain words: what is written, what is read, and that one undoes the other. No program in sight. -/
namespace Go.Proofs.YtedaafmfjhjfmaaGreatDoor
def dgV:Nat→Nat→List UInt8
 |0,_=>[]
 |k+1,v=>dgV k (v / 256)++[UInt8.ofNat (v % 256)]
def fbV (l:List UInt8):Nat:=l.foldl (fun v x=>256*v+x.toNat) 0
def nbV:Nat→Nat→Nat
 |0,_=>1
 |k+1,v=>if v < 256 then 1 else 1+nbV k (v / 256)
def nb8 (v:UInt64):Nat:=nbV 7 v.toNat
def Gr (v:UInt64):List UInt8:=if v < 248 then [v.toUInt8] else UInt8.ofNat (247+nb8 v)::dgV (nb8 v) v.toNat
def Axs:List UInt8→Option (UInt64×Nat)
 |[]=>none
 |x::t=>if x < 248 then some (x.toUInt64,1)
  else if t.length < x.toNat - 247∨ix t 0=0 then none
  else if fbV (t.take (x.toNat - 247)) < 248 then none
  else some (UInt64.ofNat (fbV (t.take (x.toNat - 247))),x.toNat - 246)
end Go.Proofs.YtedaafmfjhjfmaaGreatDoor
/- Fields as bytes (layer 13), in plain words: what is written, what is read of it, and what is read of a part of it. No program in sight. -/
namespace Go.Proofs.YtedaafmfjhjfmaaGreatDoor
structure Fd where
 k:UInt8
 n:UInt64
 l:List UInt64
 b:List UInt8
 s:List UInt8
 x:List UInt32
 many:Int
 most:UInt64
def w4 (a b c d:UInt8):UInt32:=a.toUInt32 <<< 24|||b.toUInt32 <<< 16|||c.toUInt32 <<< 8|||d.toUInt32
def b4 (v:UInt32):List UInt8:=[(v >>> 24).toUInt8,(v >>> 16).toUInt8,(v >>> 8).toUInt8,v.toUInt8]
def Yy (x:List UInt32):List UInt8:=x.flatMap b4
def Mi (l:List UInt64):List UInt8:=l.flatMap Gr
def Im {α:Type} (l:List α):List UInt8:=Gr (UInt64.ofNat l.length)
def Axt (f:Fd):List UInt8:=
 if f.k=0 then Gr f.n else if f.k=1 then Im f.l++Mi f.l else if f.k=2 then Im f.b++f.b else if f.k=3 then f.s else Im f.x++Yy f.x
def A7j (l:List Fd):List UInt8:=l.flatMap Axt
abbrev Rs:=List UInt8×Bool
def Gt:Rs:=([],true)
def Ce (most:UInt64) (st:Rs):UInt64×Bool×Rs:=match Axs st.1 with
 |some (v,n)=>if v≤most then (v,true,(st.1.drop n,st.2)) else (0,false,Gt)
 |none=>(0,false,Gt)
def Mj (many:Int):UInt64:=UInt64.ofNat (max many 0).toNat
def El (many:Int) (each:Nat) (st:Rs):Nat×Bool×Rs:=
 if (Ce (Mj many) st).2.1=true then
  (if (Ce (Mj many) st).1.toNat≤(Ce (Mj many) st).2.2.1.length / each then ((Ce (Mj many) st).1.toNat,true,(Ce (Mj many) st).2.2) else (0,false,Gt))
 else (0,false,Gt)
def Yz (most:UInt64):Nat→List UInt64→Rs→List UInt64×Rs
 |0,acc,st=>(acc,st)
 |n+1,acc,st=>if (Ce most st).2.1=true then Yz most n (acc++[(Ce most st).1]) (Ce most st).2.2 else ([],Gt)
def Y0:List UInt8→List UInt32
 |a::b::c::d::r=>w4 a b c d::Y0 r
 |_=>[]
def Ev (many:Int) (most:UInt64) (st:Rs):List UInt64×Rs:=
 if (El many 1 st).2.1=true then Yz most (El many 1 st).1 [] (El many 1 st).2.2 else ([],Gt)
def bytesOf (many:Int) (st:Rs):List UInt8×Rs:=
 if (El many 1 st).2.1=true then ((El many 1 st).2.2.1.take (El many 1 st).1,((El many 1 st).2.2.1.drop (El many 1 st).1,(El many 1 st).2.2.2)) else ([],Gt)
def Pm (st:Rs):List UInt8×Rs:=if st.1.length < 32 then (List.replicate 32 0,Gt) else (st.1.take 32,(st.1.drop 32,st.2))
def Pn (many:Int) (st:Rs):List UInt32×Rs:=
 if (El many 4 st).2.1=true then (Y0 ((El many 4 st).2.2.1.take (4*(El many 4 st).1)),((El many 4 st).2.2.1.drop (4*(El many 4 st).1),(El many 4 st).2.2.2)) else ([],Gt)
def Gu (k:UInt8):Fd:=⟨k,0,[],[],List.replicate 32 0,[],0,0⟩
def A7k (f:Fd) (st:Rs):Fd×Rs:=
 if f.k=0 then ({Gu f.k with n:=(Ce f.most st).1},(Ce f.most st).2.2)
 else if f.k=1 then ({Gu f.k with l:=(Ev f.many f.most st).1},(Ev f.many f.most st).2)
 else if f.k=2 then ({Gu f.k with b:=(bytesOf f.many st).1},(bytesOf f.many st).2)
 else if f.k=3 then ({Gu f.k with s:=(Pm st).1},(Pm st).2)
 else ({Gu f.k with x:=(Pn f.many st).1},(Pn f.many st).2)
def pre (c:Nat) (l:List UInt8):Rs:=(l.take c,false)
def A7l (f:Fd):Fd:={f with many:=300,most:=18446744073709551615}
def A7m (f:Fd):Fd:=if f.k=0 then {Gu f.k with n:=f.n} else if f.k=1 then {Gu f.k with l:=f.l} else if f.k=2 then {Gu f.k with b:=f.b} else if f.k=3 then {Gu f.k with s:=f.s} else {Gu f.k with x:=f.x}
end Go.Proofs.YtedaafmfjhjfmaaGreatDoor
/- The plain law of layers 15, 21, 22: sets as bits, who there is, places above one another, nodes. No program in sight. -/
namespace Go.Proofs.YtedaafmfjhjfmaaGreatDoor
def Cf (v:UInt64) (n:Nat):Bool:=decide (H5 v n&&& 1=1)
def Hf (s:UInt64) (n:Int):UInt64:=if 0≤n∧n < 64 then s|||I2 1 n.toNat else s
def B5 (l:List Int):UInt64:=l.foldl Hf 0
def C1 (v:UInt64):List Int:=((List.range 64).filter (Cf v)).map Int.ofNat
def B1 (l:List Int) (n:Int):Bool:=decide (0≤n∧n < 64)&&Cf (B5 l) n.toNat
def Ay (a b:List Int):List Int:=C1 (B5 a|||B5 b)
def Br (a b:List Int):List Int:=C1 (B5 a&&& B5 b)
def B8 (a b:List Int):List Int:=C1 (B5 a&&& ~~~ B5 b)
def Bm:Int→List Int→Bool
 |_,[]=>true
 |last,n::r=>if n≤last∨¬(0≤n∧n < 64) then false else Bm n r
theorem Hg {v:UInt64} {n:Nat} (h:n < 64):Cf v n=v.toNat.testBit n:=by
 unfold Cf H5
 rw[if_pos h]
 have e:((v >>> UInt64.ofNat n)&&& 1).toNat=(v.toNat >>> n)&&& 1:=by
  rw[UInt64.toNat_and,UInt64.toNat_shiftRight,UInt64.toNat_ofNat']
  rw[Nat.mod_eq_of_lt (show n < 2 ^ 64 by omega),Nat.mod_eq_of_lt h]
  rfl
 have e1:((v >>> UInt64.ofNat n)&&& 1=1)↔(v.toNat >>> n)&&& 1=1:=by
  rw[←UInt64.toNat_inj,e]
  rfl
 rw[Nat.testBit,Nat.and_comm]
 by_cases hb:(v.toNat >>> n)&&& 1=1
 ·rw[decide_eq_true (e1.2 hb),hb];rfl
 ·rw[decide_eq_false fun h=>hb (e1.1 h)]
  have:(v.toNat >>> n)&&& 1=0:=by
   have:=Nat.and_one_is_mod (v.toNat >>> n)
   omega
  rw[this];rfl
theorem Tz (a b:UInt64) {n:Nat} (h:n < 64):Cf (a|||b) n=(Cf a n||Cf b n):=by
 rw[Hg h,Hg h,Hg h,UInt64.toNat_or,Nat.testBit_or]
theorem Y1 (a b:UInt64) {n:Nat} (h:n < 64):Cf (a&&& b) n=(Cf a n&&Cf b n):=by
 rw[Hg h,Hg h,Hg h,UInt64.toNat_and,Nat.testBit_and]
theorem Y2 (a:UInt64) {n:Nat} (h:n < 64):Cf (~~~ a) n=!Cf a n:=by
 rw[Hg h,Hg h]
 have:(~~~ a).toNat=2 ^ 64 - 1 - a.toNat:=by
  show (~~~ a).toBitVec.toNat=_
  rw[UInt64.toBitVec_not,BitVec.toNat_not];rfl
 rw[this]
 have:=a.toNat_lt
 rw[show 2 ^ 64 - 1 - a.toNat=2 ^ 64 - (a.toNat+1) by omega,Nat.testBit_two_pow_sub_succ (by omega)]
 simp [h]
theorem Axu {m n:Nat} (hm:m < 64) (hn:n < 64):Cf (I2 1 m) n=decide (m=n):=by
 rw[Hg hn]
 unfold I2
 rw[if_pos hm]
 have e:((1:UInt64) <<< UInt64.ofNat m).toNat=2 ^ m:=by
  rw[UInt64.toNat_shiftLeft,UInt64.toNat_ofNat',Nat.mod_eq_of_lt (show m < 2 ^ 64 by omega),Nat.mod_eq_of_lt hm]
  show 1 <<< m % 2 ^ 64=_
  rw[Nat.shiftLeft_eq,Nat.one_mul,Nat.mod_eq_of_lt (Nat.pow_lt_pow_right (by omega) hm)]
 rw[e,Nat.testBit_two_pow]
theorem Axv (n:Nat):Cf 0 n=false:=by
 unfold Cf H5
 split
 ·rename_i h
  have:(0:UInt64) >>> UInt64.ofNat n=0:=by
   apply UInt64.toNat_inj.1
   rw[UInt64.toNat_shiftRight]
   exact Nat.zero_shiftRight _
  rw[this];rfl
 ·rfl
theorem Axw (l:List Int):∀(s:UInt64) {n:Nat},n < 64→Cf (l.foldl Hf s) n=(Cf s n||decide ((n:Int)∈l)):=by
 induction l with
 |nil=>intro s n _;simp
 |cons x l ih=>
  intro s n h
  rw[List.foldl_cons,ih _ h]
  unfold Hf
  by_cases hx:0≤x∧x < 64
  ·rw[if_pos hx,Tz _ _ h,Axu (by omega) h]
   have:decide (x.toNat=n)=decide ((n:Int)=x):=by
    by_cases e:x.toNat=n
    ·rw[decide_eq_true e,decide_eq_true (by omega)]
    ·rw[decide_eq_false e,decide_eq_false (by omega)]
   rw[this,Bool.or_assoc]
   congr 1
   simp
  ·rw[if_neg hx]
   congr 1
   have:¬(n:Int)=x:=by omega
   simp [this]
theorem Io (l:List Int) {n:Nat} (h:n < 64):Cf (B5 l) n=decide ((n:Int)∈l):=by
 unfold B5
 rw[Axw l 0 h,Axv,Bool.false_or]
theorem T0 {v:UInt64} {x:Int}:x∈C1 v↔0≤x∧x < 64∧Cf v x.toNat=true:=by
 unfold C1
 rw[List.mem_map]
 constructor
 ·rintro⟨n,hn,rfl⟩
  rw[List.mem_filter,List.mem_range] at hn
  refine⟨by show (0:Int)≤(n:Int);omega,?_,hn.2⟩
  have:=hn.1
  show (n:Int) < 64
  omega
 ·rintro⟨h1,h2,h3⟩
  refine⟨x.toNat,?_,by show ((x.toNat:Nat):Int)=x;omega⟩
  rw[List.mem_filter,List.mem_range]
  exact⟨by omega,h3⟩
theorem Axx (v:UInt64):(C1 v).Pairwise (· < ·):=by
 unfold C1
 rw[List.pairwise_map]
 exact (List.pairwise_lt_range.filter _).imp fun h=>Int.ofNat_lt.2 h
theorem Axy {a b:List Int} {x:Int}:x∈Ay a b↔0≤x∧x < 64∧(x∈a∨x∈b):=by
 unfold Ay
 rw[T0]
 refine⟨fun⟨h1,h2,h3⟩=>⟨h1,h2,?_⟩,fun⟨h1,h2,h3⟩=>⟨h1,h2,?_⟩⟩
 ·rw[Tz _ _ (by omega),Io _ (by omega),Io _ (by omega),show ((x.toNat:Nat):Int)=x by omega] at h3
  simpa using h3
 ·rw[Tz _ _ (by omega),Io _ (by omega),Io _ (by omega),show ((x.toNat:Nat):Int)=x by omega]
  simpa using h3
theorem Axz {a b:List Int} {x:Int}:x∈B8 a b↔0≤x∧x < 64∧x∈a∧x∉b:=by
 unfold B8
 rw[T0]
 refine⟨fun⟨h1,h2,h3⟩=>⟨h1,h2,?_⟩,fun⟨h1,h2,h3⟩=>⟨h1,h2,?_⟩⟩
 ·rw[Y1 _ _ (by omega),Y2 _ (by omega),Io _ (by omega),Io _ (by omega),show ((x.toNat:Nat):Int)=x by omega] at h3
  simpa using h3
 ·rw[Y1 _ _ (by omega),Y2 _ (by omega),Io _ (by omega),Io _ (by omega),show ((x.toNat:Nat):Int)=x by omega]
  simpa using h3
theorem Mk:∀{l:List Int} {last:Int},Bm last l=true↔(∀x∈l,last < x∧0≤x∧x < 64)∧l.Pairwise (· < ·)
 |[],last=>by simp [Bm]
 |n::r,last=>by
  rw[Bm]
  by_cases h:n≤last∨¬(0≤n∧n < 64)
  ·rw[if_pos h]
   refine⟨(fun e=>nomatch e),fun⟨e,_⟩=>?_⟩
   have:=e n (List.mem_cons_self ..)
   omega
  ·rw[if_neg h,Mk,List.pairwise_cons]
   constructor
   ·rintro⟨h1,h2⟩
    refine⟨fun x hx=>?_,fun x hx=>(h1 x hx).1,h2⟩
    rcases List.mem_cons.1 hx with rfl|hx
    ·omega
    ·have:=h1 x hx;omega
   ·rintro⟨h1,h2,h3⟩
    exact⟨fun x hx=>⟨h2 x hx,(h1 x (List.mem_cons_of_mem _ hx)).2⟩,h3⟩
theorem Ax0 (v:UInt64):Bm (-1) (C1 v)=true:=Mk.2 ⟨fun x hx=>by have:=T0.1 hx;omega,Axx v⟩
theorem Y3 (v:UInt64):(C1 v).length≤64:=by
 unfold C1
 rw[List.length_map]
 have:=List.length_filter_le (Cf v) (List.range 64)
 simpa using this
structure PlS where
 parent:Int
 spare:Int
 need:Int
deriving Inhabited,DecidableEq
structure GrS where
 place:Int
 ids:List Int
 need:Int
deriving Inhabited,DecidableEq
structure CfS where
 dim:Int
 places:List PlS
 groups:List GrS
 least:Int
 term:Int
deriving Inhabited,DecidableEq
def wiF (n least most:Int):Bool:=decide (least≤n∧n≤most)
def Ip (l:List PlS):Nat→Nat→List Int→Bool
 |0,_,_=>true
 |k+1,i,ab=>
  if wiF (ix l i).parent 0 (i - 1)=true∧wiF (ix l i).spare 0 2=true then
   (if ix ab (ix l i).parent.toNat+1≥4 then false else Ip l k (i+1) (ab.set i (ix ab (ix l i).parent.toNat+1)))
  else false
def stF (l:List PlS):Bool:=
 if wiF l.length 2 16=true∧(ix l 0).parent=-1∧(ix l 0).spare=0 then Ip l (l.length - 1) 1 (List.replicate l.length 0) else false
def Hh (n:Int) (g:GrS) (last:Int) (seen:List Int):Bool:=
 decide (last < g.place∧g.place < n)&&wiF g.ids.length 1 12&&Bm (-1) g.ids&&decide ((Br seen g.ids).length=0)&&wiF g.need ((g.ids.length:Int) / 2+1) g.ids.length
def Iq (n:Int):List GrS→Int→List Int→Option (List Int)
 |[],_,seen=>some seen
 |g::r,last,seen=>if Hh n g last seen=true then Iq n r g.place (Ay seen g.ids) else none
def grF (c:CfS):Bool:=
 if 1≤c.groups.length∧c.groups.length < c.places.length then
  (match Iq c.places.length c.groups 0 [] with
   |some seen=>wiF c.least 1 seen.length
   |none=>false)
 else false
def Y4 (b:List Int) (p:PlS):List Int:=b.set p.parent.toNat (ix b p.parent.toNat+1)
def beF (l:List PlS):List Int:=(l.drop 1).foldl Y4 (List.replicate l.length 0)
def atF (gs:List GrS) (i:Int):Bool:=gs.any fun g=>decide (g.place=i)
def Jr (c:CfS) (b:List Int):Nat→Nat→Bool
 |0,_=>true
 |k+1,i=>if atF c.groups i=decide (0 < ix b i) then false
  else if wiF (ix c.places i).need 1 (if atF c.groups i=true then 1 else ix b i)=true then Jr c b k (i+1) else false
def neF (c:CfS):Bool:=Jr c (beF c.places) c.places.length 0
def cfF (c:CfS):Bool:=wiF c.dim 1 32&&wiF c.term 1 1000&&stF c.places&&grF c&&neF c
def Y5 (gs:List GrS):List Int:=gs.foldl (fun s g=>Ay s g.ids) []
def T3 (c:CfS):List Int:=if cfF c=true then Y5 c.groups else []
def Dq (l:List PlS):Nat→Int→List Int→List Int
 |0,_,acc=>acc
 |k+1,q,acc=>if 0≤q then Dq l k (ix l q.toNat).parent (acc++[q]) else acc
def abF (l:List PlS) (p:Nat):List Int:=Dq l (p+1) (ix l p).parent []
def Y6 (l:List PlS) (p:Nat):List (Nat×Nat):=(List.range ((ix l p).spare+1).toNat).map fun s=>(p,s)
def Ax1 (l:List PlS):List (Nat×Nat):=(List.range l.length).flatMap (Y6 l)
def Y7 (x:Nat×Nat):Int:=64+4*(x.1:Int)+(x.2:Int)
def A7n (c:CfS):List Int:=T3 c++(Ax1 c.places).map Y7
theorem Ml {n a b:Int}:wiF n a b=true↔a≤n∧n≤b:=by unfold wiF;exact decide_eq_true_iff
theorem Y8 (l:List PlS):∀(k i:Nat) (ab:List Int),Ip l k i ab=true→∀j,i≤j→j < i+k→0≤(ix l j).parent∧(ix l j).parent < j∧0≤(ix l j).spare∧(ix l j).spare≤2
 |0,i,ab,_,j,h1,h2=>by omega
 |k+1,i,ab,h,j,h1,h2=>by
  rw[Ip] at h
  split at h
  ·rename_i h3
   obtain⟨h3,h4⟩:=h3
   rw[Ml] at h3 h4
   split at h
   ·cases h
   ·by_cases e:i=j
    ·subst e;omega
    ·exact Y8 l k (i+1) _ h j (by omega) (by omega)
  ·cases h
structure StOk (l:List PlS):Prop where
 least:2≤l.length
 most:l.length≤16
 root:(ix l 0).parent=-1
 root0:(ix l 0).spare=0
 up:∀j,1≤j→j < l.length→0≤(ix l j).parent∧(ix l j).parent < j
 spare:∀j,j < l.length→0≤(ix l j).spare∧(ix l j).spare≤2
theorem Y9 {l:List PlS} (h:stF l=true):StOk l:=by
 unfold stF at h
 split at h
 ·rename_i h1
  obtain⟨h1,h2,h3⟩:=h1
  rw[Ml] at h1
  have:=Y8 l _ _ _ h
  refine⟨by omega,by omega,h2,h3,fun j a b=>?_,fun j b=>?_⟩
  ·have:=this j a (by omega);omega
  ·by_cases e:j=0
   ·subst e;omega
   ·have:=this j (by omega) (by omega);omega
 ·cases h
theorem Za {c:CfS} (h:cfF c=true):StOk c.places:=by
 unfold cfF at h
 simp only[Bool.and_eq_true] at h
 exact Y9 h.1.1.2
theorem T4 (l:List PlS):∀(k:Nat) (q:Int) (acc:List Int),Dq l k q acc=acc++Dq l k q []
 |0,q,acc=>by simp [Dq]
 |k+1,q,acc=>by
  rw[Dq,Dq]
  split
  ·rw[T4 l k _ (acc++[q]),T4 l k _ ([]++[q]),List.nil_append,List.append_assoc]
  ·simp
theorem T5 {l:List PlS} (h:StOk l):∀(k m:Nat) (q:Int) (acc:List Int),q < l.length→q < k→k≤m→Dq l m q acc=Dq l k q acc
 |0,m,q,acc,_,h2,_=>by
  cases m with
  |zero=>rfl
  |succ m=>
   have hq:¬(0:Int)≤q:=by have h2:q < 0:=h2;omega
   show (if (0:Int)≤q then _ else acc)=acc
   rw[if_neg hq]
 |k+1,m,q,acc,h1,h2,h3=>by
  obtain⟨m,rfl⟩:∃m',m=m'+1:=⟨m - 1,by omega⟩
  rw[Dq,Dq]
  split
  ·rename_i hq
   refine T5 h k m _ _ ?_ ?_ (by omega)
   ·by_cases e:q.toNat=0
    ·rw[e,h.root];omega
    ·have:=h.up q.toNat (by omega) (by omega);omega
   ·by_cases e:q.toNat=0
    ·rw[e,h.root];omega
    ·have:=h.up q.toNat (by omega) (by omega);omega
  ·rfl
def Ax2 (l:List PlS):Nat→Int
 |0=>0
 |n+1=>Ax2 l n+1+(ix l n).spare
end Go.Proofs.YtedaafmfjhjfmaaGreatDoor
