import Derived.Test.YtedaafmfjhjfmaaGreatDoorEn1
/- The plain law of layers 15, 21, 22: sets as bits, who there is, places above one another, nodes. No program in sight. -/
namespace Go.Proofs.YtedaafmfjhjfmaaGreatDoor
def Ce (v:UInt64) (n:Nat):Bool:=decide (H8 v n&&& 1=1)
def Hl (s:UInt64) (n:Int):UInt64:=if 0≤n∧n < 64 then s|||I6 1 n.toNat else s
def B3 (l:List Int):UInt64:=l.foldl Hl 0
def C1 (v:UInt64):List Int:=((List.range 64).filter (Ce v)).map Int.ofNat
def B4 (l:List Int) (n:Int):Bool:=decide (0≤n∧n < 64)&&Ce (B3 l) n.toNat
def Aw (a b:List Int):List Int:=C1 (B3 a|||B3 b)
def Bh (a b:List Int):List Int:=C1 (B3 a&&& B3 b)
def B8 (a b:List Int):List Int:=C1 (B3 a&&& ~~~ B3 b)
def Bg:Int→List Int→Bool
 |_,[]=>true
 |last,n::r=>if n≤last∨¬(0≤n∧n < 64) then false else Bg n r
theorem Hm {v:UInt64} {n:Nat} (h:n < 64):Ce v n=v.toNat.testBit n:=by
 unfold Ce H8
 rw[if_pos h]
 have e:((v >>> UInt64.ofNat n)&&& 1).toNat=(v.toNat >>> n)&&& 1:=by
  rw[UInt64.toNat_and,UInt64.toNat_shiftRight,UInt64.toNat_ofNat']
  rw[Nat.mod_eq_of_lt (show n < 2 ^ 64 by omega),Nat.mod_eq_of_lt h]
  rfl
 have e1:((v >>> UInt64.ofNat n)&&& 1=1)↔(v.toNat >>> n)&&& 1=1:=by
  rw[←UInt64.toNat_inj,e]
  rfl
 rw[Nat.testBit,Nat.and_comm]
 by_cases hb:(v.toNat >>> n)&&& 1=1
 ·rw[decide_eq_true (e1.2 hb),hb];rfl
 ·rw[decide_eq_false fun h=>hb (e1.1 h)]
  have:(v.toNat >>> n)&&& 1=0:=by
   have:=Nat.and_one_is_mod (v.toNat >>> n)
   omega
  rw[this];rfl
theorem Ty (a b:UInt64) {n:Nat} (h:n < 64):Ce (a|||b) n=(Ce a n||Ce b n):=by
 rw[Hm h,Hm h,Hm h,UInt64.toNat_or,Nat.testBit_or]
theorem Po (a b:UInt64) {n:Nat} (h:n < 64):Ce (a&&& b) n=(Ce a n&&Ce b n):=by
 rw[Hm h,Hm h,Hm h,UInt64.toNat_and,Nat.testBit_and]
theorem Yr (a:UInt64) {n:Nat} (h:n < 64):Ce (~~~ a) n=!Ce a n:=by
 rw[Hm h,Hm h]
 have:(~~~ a).toNat=2 ^ 64 - 1 - a.toNat:=by
  show (~~~ a).toBitVec.toNat=_
  rw[UInt64.toBitVec_not,BitVec.toNat_not];rfl
 rw[this]
 have:=a.toNat_lt
 rw[show 2 ^ 64 - 1 - a.toNat=2 ^ 64 - (a.toNat+1) by omega,Nat.testBit_two_pow_sub_succ (by omega)]
 simp [h]
theorem Ax3 {m n:Nat} (hm:m < 64) (hn:n < 64):Ce (I6 1 m) n=decide (m=n):=by
 rw[Hm hn]
 unfold I6
 rw[if_pos hm]
 have e:((1:UInt64) <<< UInt64.ofNat m).toNat=2 ^ m:=by
  rw[UInt64.toNat_shiftLeft,UInt64.toNat_ofNat',Nat.mod_eq_of_lt (show m < 2 ^ 64 by omega),Nat.mod_eq_of_lt hm]
  show 1 <<< m % 2 ^ 64=_
  rw[Nat.shiftLeft_eq,Nat.one_mul,Nat.mod_eq_of_lt (Nat.pow_lt_pow_right (by omega) hm)]
 rw[e,Nat.testBit_two_pow]
theorem Ax4 (n:Nat):Ce 0 n=false:=by
 unfold Ce H8
 split
 ·rename_i h
  have:(0:UInt64) >>> UInt64.ofNat n=0:=by
   apply UInt64.toNat_inj.1
   rw[UInt64.toNat_shiftRight]
   exact Nat.zero_shiftRight _
  rw[this];rfl
 ·rfl
theorem Ax5 (l:List Int):∀(s:UInt64) {n:Nat},n < 64→Ce (l.foldl Hl s) n=(Ce s n||decide ((n:Int)∈l)):=by
 induction l with
 |nil=>intro s n _;simp
 |cons x l ih=>
  intro s n h
  rw[List.foldl_cons,ih _ h]
  unfold Hl
  by_cases hx:0≤x∧x < 64
  ·rw[if_pos hx,Ty _ _ h,Ax3 (by omega) h]
   have:decide (x.toNat=n)=decide ((n:Int)=x):=by
    by_cases e:x.toNat=n
    ·rw[decide_eq_true e,decide_eq_true (by omega)]
    ·rw[decide_eq_false e,decide_eq_false (by omega)]
   rw[this,Bool.or_assoc]
   congr 1
   simp
  ·rw[if_neg hx]
   congr 1
   have:¬(n:Int)=x:=by omega
   simp [this]
theorem Fy (l:List Int) {n:Nat} (h:n < 64):Ce (B3 l) n=decide ((n:Int)∈l):=by
 unfold B3
 rw[Ax5 l 0 h,Ax4,Bool.false_or]
theorem Pp {v:UInt64} {x:Int}:x∈C1 v↔0≤x∧x < 64∧Ce v x.toNat=true:=by
 unfold C1
 rw[List.mem_map]
 constructor
 ·rintro⟨n,hn,rfl⟩
  rw[List.mem_filter,List.mem_range] at hn
  refine⟨by show (0:Int)≤(n:Int);omega,?_,hn.2⟩
  have:=hn.1
  show (n:Int) < 64
  omega
 ·rintro⟨h1,h2,h3⟩
  refine⟨x.toNat,?_,by show ((x.toNat:Nat):Int)=x;omega⟩
  rw[List.mem_filter,List.mem_range]
  exact⟨by omega,h3⟩
theorem Ax6 (v:UInt64):(C1 v).Pairwise (· < ·):=by
 unfold C1
 rw[List.pairwise_map]
 exact (List.pairwise_lt_range.filter _).imp fun h=>Int.ofNat_lt.2 h
theorem Pq {a b:List Int} {x:Int}:x∈Aw a b↔0≤x∧x < 64∧(x∈a∨x∈b):=by
 unfold Aw
 rw[Pp]
 refine⟨fun⟨h1,h2,h3⟩=>⟨h1,h2,?_⟩,fun⟨h1,h2,h3⟩=>⟨h1,h2,?_⟩⟩
 ·rw[Ty _ _ (by omega),Fy _ (by omega),Fy _ (by omega),show ((x.toNat:Nat):Int)=x by omega] at h3
  simpa using h3
 ·rw[Ty _ _ (by omega),Fy _ (by omega),Fy _ (by omega),show ((x.toNat:Nat):Int)=x by omega]
  simpa using h3
theorem Tz {a b:List Int} {x:Int}:x∈Bh a b↔0≤x∧x < 64∧x∈a∧x∈b:=by
 unfold Bh
 rw[Pp]
 refine⟨fun⟨h1,h2,h3⟩=>⟨h1,h2,?_⟩,fun⟨h1,h2,h3⟩=>⟨h1,h2,?_⟩⟩
 ·rw[Po _ _ (by omega),Fy _ (by omega),Fy _ (by omega),show ((x.toNat:Nat):Int)=x by omega] at h3
  simpa using h3
 ·rw[Po _ _ (by omega),Fy _ (by omega),Fy _ (by omega),show ((x.toNat:Nat):Int)=x by omega]
  simpa using h3
theorem T0 {a b:List Int} {x:Int}:x∈B8 a b↔0≤x∧x < 64∧x∈a∧x∉b:=by
 unfold B8
 rw[Pp]
 refine⟨fun⟨h1,h2,h3⟩=>⟨h1,h2,?_⟩,fun⟨h1,h2,h3⟩=>⟨h1,h2,?_⟩⟩
 ·rw[Po _ _ (by omega),Yr _ (by omega),Fy _ (by omega),Fy _ (by omega),show ((x.toNat:Nat):Int)=x by omega] at h3
  simpa using h3
 ·rw[Po _ _ (by omega),Yr _ (by omega),Fy _ (by omega),Fy _ (by omega),show ((x.toNat:Nat):Int)=x by omega]
  simpa using h3
theorem Ys:∀{a b:List Int},a.Pairwise (· < ·)→b.Pairwise (· < ·)→(∀x,x∈a↔x∈b)→a=b
 |[],[],_,_,_=>rfl
 |[],y::b,_,_,h=>absurd ((h y).2 (List.mem_cons_self ..)) (by simp)
 |x::a,[],_,_,h=>absurd ((h x).1 (List.mem_cons_self ..)) (by simp)
 |x::a,y::b,ha,hb,h=>by
  rw[List.pairwise_cons] at ha hb
  have e:x=y:=by
   have h1:=(h x).1 (List.mem_cons_self ..)
   have h2:=(h y).2 (List.mem_cons_self ..)
   rcases List.mem_cons.1 h1 with h1|h1
   ·exact h1
   ·rcases List.mem_cons.1 h2 with h2|h2
    ·exact h2.symm
    ·have:=hb.1 x h1
     have:=ha.1 y h2
     omega
  subst e
  refine congrArg (x::·) (Ys ha.2 hb.2 fun z=>⟨fun hz=>?_,fun hz=>?_⟩)
  ·rcases List.mem_cons.1 ((h z).1 (List.mem_cons_of_mem _ hz)) with rfl|h1
   ·exact absurd (ha.1 z hz) (Int.lt_irrefl z)
   ·exact h1
  ·rcases List.mem_cons.1 ((h z).2 (List.mem_cons_of_mem _ hz)) with rfl|h1
   ·exact absurd (hb.1 z hz) (Int.lt_irrefl z)
   ·exact h1
theorem Iq:∀{l:List Int} {last:Int},Bg last l=true↔(∀x∈l,last < x∧0≤x∧x < 64)∧l.Pairwise (· < ·)
 |[],last=>by simp [Bg]
 |n::r,last=>by
  rw[Bg]
  by_cases h:n≤last∨¬(0≤n∧n < 64)
  ·rw[if_pos h]
   refine⟨(fun e=>nomatch e),fun⟨e,_⟩=>?_⟩
   have:=e n (List.mem_cons_self ..)
   omega
  ·rw[if_neg h,Iq,List.pairwise_cons]
   constructor
   ·rintro⟨h1,h2⟩
    refine⟨fun x hx=>?_,fun x hx=>(h1 x hx).1,h2⟩
    rcases List.mem_cons.1 hx with rfl|hx
    ·omega
    ·have:=h1 x hx;omega
   ·rintro⟨h1,h2,h3⟩
    exact⟨fun x hx=>⟨h2 x hx,(h1 x (List.mem_cons_of_mem _ hx)).2⟩,h3⟩
theorem Yt (v:UInt64):Bg (-1) (C1 v)=true:=Iq.2 ⟨fun x hx=>by have:=Pp.1 hx;omega,Ax6 v⟩
theorem Yu (v:UInt64):(C1 v).length≤64:=by
 unfold C1
 rw[List.length_map]
 have:=List.length_filter_le (Ce v) (List.range 64)
 simpa using this
structure PlS where
 parent:Int
 spare:Int
 need:Int
deriving Inhabited,DecidableEq
structure GrS where
 place:Int
 ids:List Int
 need:Int
deriving Inhabited,DecidableEq
structure CfS where
 dim:Int
 places:List PlS
 groups:List GrS
 least:Int
 term:Int
deriving Inhabited,DecidableEq
def wiF (n least most:Int):Bool:=decide (least≤n∧n≤most)
def Ir (l:List PlS):Nat→Nat→List Int→Bool
 |0,_,_=>true
 |k+1,i,ab=>
  if wiF (ix l i).parent 0 (i - 1)=true∧wiF (ix l i).spare 0 2=true then
   (if ix ab (ix l i).parent.toNat+1≥4 then false else Ir l k (i+1) (ab.set i (ix ab (ix l i).parent.toNat+1)))
  else false
def stF (l:List PlS):Bool:=
 if wiF l.length 2 16=true∧(ix l 0).parent=-1∧(ix l 0).spare=0 then Ir l (l.length - 1) 1 (List.replicate l.length 0) else false
def Gc (n:Int) (g:GrS) (last:Int) (seen:List Int):Bool:=
 decide (last < g.place∧g.place < n)&&wiF g.ids.length 1 12&&Bg (-1) g.ids&&decide ((Bh seen g.ids).length=0)&&wiF g.need ((g.ids.length:Int) / 2+1) g.ids.length
def Ez (n:Int):List GrS→Int→List Int→Option (List Int)
 |[],_,seen=>some seen
 |g::r,last,seen=>if Gc n g last seen=true then Ez n r g.place (Aw seen g.ids) else none
def grF (c:CfS):Bool:=
 if 1≤c.groups.length∧c.groups.length < c.places.length then
  (match Ez c.places.length c.groups 0 [] with
   |some seen=>wiF c.least 1 seen.length
   |none=>false)
 else false
def Yv (b:List Int) (p:PlS):List Int:=b.set p.parent.toNat (ix b p.parent.toNat+1)
def beF (l:List PlS):List Int:=(l.drop 1).foldl Yv (List.replicate l.length 0)
def atF (gs:List GrS) (i:Int):Bool:=gs.any fun g=>decide (g.place=i)
def Jw (c:CfS) (b:List Int):Nat→Nat→Bool
 |0,_=>true
 |k+1,i=>if atF c.groups i=decide (0 < ix b i) then false
  else if wiF (ix c.places i).need 1 (if atF c.groups i=true then 1 else ix b i)=true then Jw c b k (i+1) else false
def neF (c:CfS):Bool:=Jw c (beF c.places) c.places.length 0
def cfF (c:CfS):Bool:=wiF c.dim 1 32&&wiF c.term 1 1000&&stF c.places&&grF c&&neF c
def Yw (gs:List GrS):List Int:=gs.foldl (fun s g=>Aw s g.ids) []
def T1 (c:CfS):List Int:=if cfF c=true then Yw c.groups else []
def Dd (l:List PlS):Nat→Int→List Int→List Int
 |0,_,acc=>acc
 |k+1,q,acc=>if 0≤q then Dd l k (ix l q.toNat).parent (acc++[q]) else acc
def abF (l:List PlS) (p:Nat):List Int:=Dd l (p+1) (ix l p).parent []
def Yx (l:List PlS) (p:Nat):List (Nat×Nat):=(List.range ((ix l p).spare+1).toNat).map fun s=>(p,s)
def Ax7 (l:List PlS):List (Nat×Nat):=(List.range l.length).flatMap (Yx l)
def Yy (x:Nat×Nat):Int:=64+4*(x.1:Int)+(x.2:Int)
def A8b (c:CfS):List Int:=T1 c++(Ax7 c.places).map Yy
theorem Mn {n a b:Int}:wiF n a b=true↔a≤n∧n≤b:=by unfold wiF;exact decide_eq_true_iff
theorem Yz (l:List PlS):∀(k i:Nat) (ab:List Int),Ir l k i ab=true→∀j,i≤j→j < i+k→0≤(ix l j).parent∧(ix l j).parent < j∧0≤(ix l j).spare∧(ix l j).spare≤2
 |0,i,ab,_,j,h1,h2=>by omega
 |k+1,i,ab,h,j,h1,h2=>by
  rw[Ir] at h
  split at h
  ·rename_i h3
   obtain⟨h3,h4⟩:=h3
   rw[Mn] at h3 h4
   split at h
   ·cases h
   ·by_cases e:i=j
    ·subst e;omega
    ·exact Yz l k (i+1) _ h j (by omega) (by omega)
  ·cases h
structure StOk (l:List PlS):Prop where
 least:2≤l.length
 most:l.length≤16
 root:(ix l 0).parent=-1
 root0:(ix l 0).spare=0
 up:∀j,1≤j→j < l.length→0≤(ix l j).parent∧(ix l j).parent < j
 spare:∀j,j < l.length→0≤(ix l j).spare∧(ix l j).spare≤2
theorem Y0 {l:List PlS} (h:stF l=true):StOk l:=by
 unfold stF at h
 split at h
 ·rename_i h1
  obtain⟨h1,h2,h3⟩:=h1
  rw[Mn] at h1
  have:=Yz l _ _ _ h
  refine⟨by omega,by omega,h2,h3,fun j a b=>?_,fun j b=>?_⟩
  ·have:=this j a (by omega);omega
  ·by_cases e:j=0
   ·subst e;omega
   ·have:=this j (by omega) (by omega);omega
 ·cases h
theorem T2 {c:CfS} (h:cfF c=true):StOk c.places:=by
 unfold cfF at h
 simp only[Bool.and_eq_true] at h
 exact Y0 h.1.1.2
theorem Ps (l:List PlS):∀(k:Nat) (q:Int) (acc:List Int),Dd l k q acc=acc++Dd l k q []
 |0,q,acc=>by simp [Dd]
 |k+1,q,acc=>by
  rw[Dd,Dd]
  split
  ·rw[Ps l k _ (acc++[q]),Ps l k _ ([]++[q]),List.nil_append,List.append_assoc]
  ·simp
theorem Pt {l:List PlS} (h:StOk l):∀(k m:Nat) (q:Int) (acc:List Int),q < l.length→q < k→k≤m→Dd l m q acc=Dd l k q acc
 |0,m,q,acc,_,h2,_=>by
  cases m with
  |zero=>rfl
  |succ m=>
   have hq:¬(0:Int)≤q:=by have h2:q < 0:=h2;omega
   show (if (0:Int)≤q then _ else acc)=acc
   rw[if_neg hq]
 |k+1,m,q,acc,h1,h2,h3=>by
  obtain⟨m,rfl⟩:∃m',m=m'+1:=⟨m - 1,by omega⟩
  rw[Dd,Dd]
  split
  ·rename_i hq
   refine Pt h k m _ _ ?_ ?_ (by omega)
   ·by_cases e:q.toNat=0
    ·rw[e,h.root];omega
    ·have:=h.up q.toNat (by omega) (by omega);omega
   ·by_cases e:q.toNat=0
    ·rw[e,h.root];omega
    ·have:=h.up q.toNat (by omega) (by omega);omega
  ·rfl
theorem Y1 {l:List PlS} (h:StOk l):abF l 0=[]:=by
 unfold abF
 rw[Dd,h.root,if_neg (by omega)]
theorem Y2 {l:List PlS} (h:StOk l) {p:Nat} (h1:1≤p) (h2:p < l.length):abF l p=(ix l p).parent::abF l (ix l p).parent.toNat:=by
 have hu:=h.up p h1 h2
 unfold abF
 rw[Dd,if_pos (by omega),Ps,List.nil_append,List.singleton_append]
 congr 1
 refine Pt h _ _ _ _ ?_ ?_ (by omega)
 ·by_cases e:(ix l p).parent.toNat=0
  ·rw[e,h.root];omega
  ·have:=h.up _ (show 1≤(ix l p).parent.toNat by omega) (by omega);omega
 ·by_cases e:(ix l p).parent.toNat=0
  ·rw[e,h.root];omega
  ·have:=h.up _ (show 1≤(ix l p).parent.toNat by omega) (by omega);omega
def Ax8 (l:List PlS):Nat→Int
 |0=>0
 |n+1=>Ax8 l n+1+(ix l n).spare
end Go.Proofs.YtedaafmfjhjfmaaGreatDoor
