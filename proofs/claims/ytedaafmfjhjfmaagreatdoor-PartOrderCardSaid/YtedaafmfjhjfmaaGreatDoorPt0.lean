import Derived.Test.YtedaafmfjhjfmaaGreatDoorLf1
/- The plain law of layer 29: partials, added up. No program in sight. -/
namespace Go.Proofs.YtedaafmfjhjfmaaGreatDoor
set_option linter.unusedVariables false
structure Spt where
 above:List Int
 clients:List Int
 need:Int
instance:Inhabited Spt:=⟨⟨[],[],0⟩⟩
structure Sms where
 place:Int
 dim:Int
 spots:List Spt
 heard:List (Int×Int)
 taken:List (Int×MgS)
def Sms.und (s:Sms) (q p:Int):Bool:=decide (0≤q∧q < s.spots.length)&&decide (p∈(ix s.spots q.toNat).above)
def idsP (l:List Pr):List Int:=l.map (·.1)
def Dz (s:Sms) (pl:Int) (ids peers:List Int):List UInt64→Int→List Int→Bool
 |a::b::r,last,rest=>
  if s.spots.length≤a.toNat∨b.toNat < 1∨1073741824 < b.toNat then false
  else if (a.toNat:Int)≤last∨(¬(a.toNat:Int)=pl∧s.und a.toNat pl=false)∨(ix s.spots a.toNat).need=0 then false
  else if ((Br peers (ix s.spots a.toNat).clients).length:Int) < (ix s.spots a.toNat).need∨((Br ids (ix s.spots a.toNat).clients).length:Int) < (ix s.spots a.toNat).need then false
  else Dz s pl ids peers r a.toNat (B8 rest (ix s.spots a.toNat).clients)
 |_,_,rest=>rest.isEmpty
def Sms.may (s:Sms) (m:MgS):Bool:=
 Cj m&&(decide (m.k=6)&&(s.und m.pl s.place&&(decide (m.ge≠0)&&(decide ((m.xs.length:Int)=s.dim)&&(!m.ids.isEmpty&&(decide (m.ns.length % 2=0)&&((B8 m.ids (idsP m.ps)).isEmpty&&Dz s m.pl m.ids (idsP m.ps) m.ns (-1) (idsP m.ps))))))))
def evN:List UInt64→List UInt64
 |a::_::r=>a::evN r
 |l=>l
def Pv (a b:List UInt64):Bool:=(evN a).any fun x=>(evN b).any fun y=>decide (x=y)
def Db (a b:MgS):Bool:=!(Br (idsP a.ps) (idsP b.ps)).isEmpty||Pv a.ns b.ns
def Sms.takeE (s:Sms) (m:MgS):Int:=
 if s.may m=false then 13 else if m.ge < (Av s.heard m.pl).getD 0 then 10 else if (Av s.taken m.pl).isSome=true then 8 else if s.taken.any (fun t=>Db t.2 m)=true then 11 else 0
def Sms.take (s:Sms) (m:MgS):Sms:=
 if s.may m=false∨m.ge < (Av s.heard m.pl).getD 0 then s else {s with heard:=Bp s.heard m.pl m.ge,taken:=if s.takeE m=0 then Bp s.taken m.pl m else s.taken}
theorem T7 {α:Type}:∀{l:List (Int×α)} {k:Int},Av l k=none→∀x∈l,x.1≠k
 |[],_,_,x,hx=>by cases hx
 |(a,v)::l,k,h,x,hx=>by
  rw[Av] at h
  by_cases e:a=k
  ·rw[if_pos e] at h;cases h
  ·rw[if_neg e] at h
   rcases List.mem_cons.1 hx with rfl|hx
   ·exact e
   ·exact T7 h x hx
theorem Zo {α:Type}:∀{l:List (Int×α)} {k:Int} (v:α),Av l k=none→Bp l k v=l++[(k,v)]
 |[],_,_,_=>rfl
 |(a,x)::l,k,v,h=>by
  rw[Av] at h
  by_cases e:a=k
  ·rw[if_pos e] at h;cases h
  ·rw[if_neg e] at h
   rw[Bp,if_neg e,Zo v h]
   rfl
theorem Pw {α:Type}:∀{l:List (Int×α)} (hn:(l.map (·.1)).Nodup) {x:Int×α},x∈l→Av l x.1=some x.2
 |(a,v)::l,hn,x,hx=>by
  rw[List.map_cons,List.nodup_cons] at hn
  rw[Av]
  rcases List.mem_cons.1 hx with rfl|hx
  ·exact if_pos rfl
  ·rw[if_neg fun e:a=x.1=>hn.1 (by show a∈_;rw[e];exact List.mem_map_of_mem hx)]
   exact Pw hn.2 hx
structure SmInv (s:Sms):Prop where
 ok:∀t∈s.taken,s.may t.2=true∧t.2.pl=t.1
 apart:s.taken.Pairwise fun a b=>a.1≠b.1∧Db a.2 b.2=false
theorem T8 {s s':Sms} (h1:s'.spots=s.spots) (h2:s'.place=s.place) (h3:s'.dim=s.dim) (m:MgS):s'.may m=s.may m:=by
 have hu:s'.und=s.und:=by funext q p;unfold Sms.und;rw[h1]
 have hg:∀(pl:Int) (ids peers:List Int) (n:Nat) (l:List UInt64),l.length≤n→∀last rest,Dz s' pl ids peers l last rest=Dz s pl ids peers l last rest:=fun pl ids peers n=>by
  induction n with
  |zero=>
   intro l hl last rest
   obtain rfl:=List.length_eq_zero_iff.1 (Nat.le_zero.1 hl)
   rfl
  |succ n ih=>
   intro l hl last rest
   match l,hl with
   |[],_=>rfl
   |[a],_=>rfl
   |a::b::r,hl=>
    rw[Dz,Dz,h1,hu,ih r (by simp only[List.length_cons] at hl;omega)]
 unfold Sms.may
 rw[hu,h2,h3,hg _ _ _ _ _ (Nat.le_refl _)]
theorem Mo (s:Sms) (m:MgS):(s.take m).spots=s.spots∧(s.take m).place=s.place∧(s.take m).dim=s.dim∧(s.take m).taken=if s.takeE m=0 then s.taken++[(m.pl,m)] else s.taken:=by
 unfold Sms.take
 split
 ·rename_i h
  refine⟨rfl,rfl,rfl,?_⟩
  have:s.takeE m≠0:=by
   unfold Sms.takeE
   rcases h with h|h
   ·rw[if_pos h];decide
   ·by_cases h2:s.may m=false
    ·rw[if_pos h2];decide
    ·rw[if_neg h2,if_pos h];decide
  rw[if_neg this]
 ·refine⟨rfl,rfl,rfl,?_⟩
  show (if s.takeE m=0 then Bp s.taken m.pl m else s.taken)=_
  by_cases h:s.takeE m=0
  ·rw[if_pos h,if_pos h]
   refine Zo m ?_
   unfold Sms.takeE at h
   repeat' split at h
   all_goals first|(exact absurd h (by decide))|skip
   rename_i h3 _
   simpa using h3
  ·rw[if_neg h,if_neg h]
theorem Ayi {s:Sms} {m:MgS} (h:s.takeE m=0):s.may m=true∧Av s.taken m.pl=none∧∀t∈s.taken,Db t.2 m=false:=by
 unfold Sms.takeE at h
 by_cases h1:s.may m=false
 ·rw[if_pos h1] at h;exact absurd h (by decide)
 rw[if_neg h1] at h
 by_cases h2:m.ge < (Av s.heard m.pl).getD 0
 ·rw[if_pos h2] at h;exact absurd h (by decide)
 rw[if_neg h2] at h
 by_cases h3:(Av s.taken m.pl).isSome=true
 ·rw[if_pos h3] at h;exact absurd h (by decide)
 rw[if_neg h3] at h
 by_cases h4:s.taken.any (fun t=>Db t.2 m)=true
 ·rw[if_pos h4] at h;exact absurd h (by decide)
 refine⟨by simpa using h1,by simpa using h3,fun t ht=>?_⟩
 rw[←Bool.not_eq_true]
 exact fun e=>h4 (List.any_eq_true.2 ⟨t,ht,e⟩)
theorem Zp {s:Sms} (h:SmInv s) (m:MgS):SmInv (s.take m):=by
 obtain⟨e1,e2,e3,e4⟩:=Mo s m
 have hm:=T8 e1 e2 e3
 by_cases h0:s.takeE m=0
 ·rw[if_pos h0] at e4
  obtain⟨k1,k2,k3⟩:=Ayi h0
  refine⟨fun t ht=>?_,?_⟩
  ·rw[hm]
   rw[e4] at ht
   rcases List.mem_append.1 ht with ht|ht
   ·exact h.ok t ht
   ·rw[List.mem_singleton.1 ht]
    exact⟨k1,rfl⟩
  ·rw[e4]
   refine List.pairwise_append.2 ⟨h.apart,List.pairwise_singleton _ _,fun a ha b hb=>?_⟩
   rw[List.mem_singleton.1 hb]
   exact⟨T7 k2 a ha,k3 a ha⟩
 ·rw[if_neg h0] at e4
  exact⟨fun t ht=>by rw[hm];rw[e4] at ht;exact h.ok t ht,by rw[e4];exact h.apart⟩
structure MayP (s:Sms) (m:MgS):Prop where
 chk:Cj m=true
 k:m.k=6
 und:s.und m.pl s.place=true
 len:(m.xs.length:Int)=s.dim
 some_:m.ids≠[]
 ids:Bm (-1) m.ids=true
 ps:may m.ps=true
 sub:∀x∈m.ids,x∈idsP m.ps
 few:m.xs.length≤32∧m.ns.length≤128
 ev:m.ns.length % 2=0
 go:Dz s m.pl m.ids (idsP m.ps) m.ns (-1) (idsP m.ps)=true
theorem Jv {s:Sms} {m:MgS} (h:s.may m=true):MayP s m:=by
 unfold Sms.may at h
 simp only[Bool.and_eq_true,decide_eq_true_eq,Bool.not_eq_true'] at h
 obtain⟨h1,h2,h3,h4,h5,h6,h7,h8,h9⟩:=h
 obtain⟨_,hf,_⟩:=Zk h1
 rw[h2] at hf
 have f6:Bn 6=[97,103,105,120,112,118]:=by decide
 rw[f6] at hf
 have fi:=hf 105 (by simp)
 have fp:=hf 112 (by simp)
 have fx:=hf 120 (by simp)
 have fv:=hf 118 (by simp)
 have fi:Bm (-1) m.ids=true:=fi
 have fp:may m.ps=true:=fp
 have fx:decide (m.xs.length≤32)=true:=fx
 have fv:(decide (m.ns.length≤128)&&!(m.ns.any fun v=>decide (pm1 < v)))=true:=fv
 rw[Bool.and_eq_true] at fv
 refine⟨h1,h2,h3,h5,fun e=>(by rw[e] at h6;cases h6),fi,fp,fun x hx=>?_,⟨of_decide_eq_true fx,of_decide_eq_true fv.1⟩,h7,h9⟩
 have hb:=Pu fi x hx
 by_cases hp:x∈idsP m.ps
 ·exact hp
 ·have:x∈B8 m.ids (idsP m.ps):=Axz.2 ⟨hb.1,hb.2,hx,hp⟩
  rw[List.isEmpty_iff] at h8
  rw[h8] at this
  cases this
def Px (s:Sms):List UInt32:=s.taken.foldl (fun r t=>Dk r t.2.xs) (List.replicate s.dim.toNat 0)
structure PaInv (s:Sms) (inn:List Int) (sum:List UInt32) (many:Nat):Prop where
 inv:SmInv s
 asc:Bm (-1) inn=true
 mem:∀x,x∈inn↔∃t∈s.taken,x∈t.2.ids
 eq:sum=Px s
 many:many=s.taken.length
 len:sum.length=s.dim.toNat
theorem Ayj {a b:List UInt32} (h:a.length=b.length):(Dk a b).length=a.length:=by unfold Dk;rw[List.length_zipWith,h,Nat.min_self]
def Sms.from_ (s:Sms):List Int:=(s.taken.map (·.1)).mergeSort fun a b=>decide (a≤b)
def Sms.msgs (s:Sms):List MgS:=s.from_.map fun q=>(Av s.taken q).getD Fq
theorem Jw {s:Sms} (h:SmInv s):(s.taken.map (·.1)).Nodup:=by
 unfold List.Nodup
 rw[List.pairwise_map]
 exact h.apart.imp fun h=>h.1
theorem Jx (s:Sms):s.from_.Perm (s.taken.map (·.1)):=List.mergeSort_perm _ _
theorem Zq {s:Sms} (h:SmInv s):s.msgs.Perm (s.taken.map (·.2)):=by
 refine ((Jx s).map _).trans (List.Perm.of_eq ?_)
 rw[List.map_map]
 refine List.map_congr_left fun t ht=>?_
 show (Av s.taken t.1).getD Fq=t.2
 rw[Pw (Jw h) ht]
 rfl
def Ir (s:Sms):List Int:=s.msgs.foldl (fun a t=>Ay a t.ids) []
def Fe (s:Sms):List UInt32:=s.msgs.foldl (fun r t=>Dk r t.xs) (List.replicate s.dim.toNat 0)
theorem Zr:∀(l:List MgS) (a:List Int),Bm (-1) a=true→(∀t∈l,Bm (-1) t.ids=true)→Bm (-1) (l.foldl (fun a t=>Ay a t.ids) a)=true∧∀x,x∈l.foldl (fun a t=>Ay a t.ids) a↔x∈a∨∃t∈l,x∈t.ids
 |[],a,h,_=>⟨h,fun x=>⟨.inl,fun h=>h.elim id fun⟨t,ht,_⟩=>by cases ht⟩⟩
 |t::l,a,h,hl=>by
  obtain⟨h1,h2⟩:=Zr l (Ay a t.ids) (Ax0 _) fun t ht=>hl t (List.mem_cons_of_mem _ ht)
  refine⟨h1,fun x=>(h2 x).trans ?_⟩
  rw[Axy]
  constructor
  ·rintro (⟨_,_,hx|hx⟩|⟨u,hu,hx⟩)
   ·exact .inl hx
   ·exact .inr ⟨t,List.mem_cons_self ..,hx⟩
   ·exact .inr ⟨u,List.mem_cons_of_mem _ hu,hx⟩
  ·rintro (hx|⟨u,hu,hx⟩)
   ·have:=Pu h x hx
    exact .inl ⟨this.1,this.2,.inl hx⟩
   ·rcases List.mem_cons.1 hu with rfl|hu
    ·have:=Pu (hl u (List.mem_cons_self ..)) x hx
     exact .inl ⟨this.1,this.2,.inr hx⟩
    ·exact .inr ⟨u,hu,hx⟩
theorem Ayk (r x y:List UInt32):Dk (Dk r x) y=Dk (Dk r y) x:=by
 induction r generalizing x y with
 |nil=>cases x<;>cases y<;>rfl
 |cons a r ih=>
  cases x with
  |nil=>cases y<;>rfl
  |cons b x=>
   cases y with
   |nil=>rfl
   |cons c y=>
    show (a+b+c)::Dk (Dk r x) y=(a+c+b)::Dk (Dk r y) x
    rw[ih,UInt32.add_assoc,UInt32.add_comm b c,←UInt32.add_assoc]
theorem Ayl {s:Sms} (h:SmInv s):Fe s=Px s:=by
 have:=(Zq h).foldl_eq' (f:=fun r t=>Dk r t.xs) (fun x _ y _ z=>Ayk z x.xs y.xs) (List.replicate s.dim.toNat 0)
 unfold Fe Px
 rw[this,List.foldl_map]
end Go.Proofs.YtedaafmfjhjfmaaGreatDoor
