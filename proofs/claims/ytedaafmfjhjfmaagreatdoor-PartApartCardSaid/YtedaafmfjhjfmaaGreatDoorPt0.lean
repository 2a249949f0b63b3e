import Derived.Test.YtedaafmfjhjfmaaGreatDoorLf1
/- The plain law of layer 29: partials, added up. No program in sight. -/
namespace Go.Proofs.YtedaafmfjhjfmaaGreatDoor
set_option linter.unusedVariables false
structure Spt where
 above:List Int
 clients:List Int
 need:Int
instance:Inhabited Spt:=⟨⟨[],[],0⟩⟩
structure Sms where
 place:Int
 dim:Int
 spots:List Spt
 heard:List (Int×Int)
 taken:List (Int×MgS)
def Sms.und (s:Sms) (q p:Int):Bool:=decide (0≤q∧q < s.spots.length)&&decide (p∈(ix s.spots q.toNat).above)
def idsP (l:List Pr):List Int:=l.map (·.1)
def Dz (s:Sms) (pl:Int) (ids peers:List Int):List UInt64→Int→List Int→Bool
 |a::b::r,last,rest=>
  if s.spots.length≤a.toNat∨b.toNat < 1∨1073741824 < b.toNat then false
  else if (a.toNat:Int)≤last∨(¬(a.toNat:Int)=pl∧s.und a.toNat pl=false)∨(ix s.spots a.toNat).need=0 then false
  else if ((Bh peers (ix s.spots a.toNat).clients).length:Int) < (ix s.spots a.toNat).need∨((Bh ids (ix s.spots a.toNat).clients).length:Int) < (ix s.spots a.toNat).need then false
  else Dz s pl ids peers r a.toNat (B8 rest (ix s.spots a.toNat).clients)
 |_,_,rest=>rest.isEmpty
def Sms.may (s:Sms) (m:MgS):Bool:=
 Cm m&&(decide (m.k=6)&&(s.und m.pl s.place&&(decide (m.ge≠0)&&(decide ((m.xs.length:Int)=s.dim)&&(!m.ids.isEmpty&&(decide (m.ns.length % 2=0)&&((B8 m.ids (idsP m.ps)).isEmpty&&Dz s m.pl m.ids (idsP m.ps) m.ns (-1) (idsP m.ps))))))))
def evN:List UInt64→List UInt64
 |a::_::r=>a::evN r
 |l=>l
def Ayo (a b:List UInt64):Bool:=(evN a).any fun x=>(evN b).any fun y=>decide (x=y)
def En (a b:MgS):Bool:=!(Bh (idsP a.ps) (idsP b.ps)).isEmpty||Ayo a.ns b.ns
def Sms.takeE (s:Sms) (m:MgS):Int:=
 if s.may m=false then 13 else if m.ge < (A7 s.heard m.pl).getD 0 then 10 else if (A7 s.taken m.pl).isSome=true then 8 else if s.taken.any (fun t=>En t.2 m)=true then 11 else 0
def Sms.take (s:Sms) (m:MgS):Sms:=
 if s.may m=false∨m.ge < (A7 s.heard m.pl).getD 0 then s else {s with heard:=Bx s.heard m.pl m.ge,taken:=if s.takeE m=0 then Bx s.taken m.pl m else s.taken}
theorem T4 {α:Type}:∀{l:List (Int×α)} {k:Int},A7 l k=none→∀x∈l,x.1≠k
 |[],_,_,x,hx=>by cases hx
 |(a,v)::l,k,h,x,hx=>by
  rw[A7] at h
  by_cases e:a=k
  ·rw[if_pos e] at h;cases h
  ·rw[if_neg e] at h
   rcases List.mem_cons.1 hx with rfl|hx
   ·exact e
   ·exact T4 h x hx
theorem Zf {α:Type}:∀{l:List (Int×α)} {k:Int} (v:α),A7 l k=none→Bx l k v=l++[(k,v)]
 |[],_,_,_=>rfl
 |(a,x)::l,k,v,h=>by
  rw[A7] at h
  by_cases e:a=k
  ·rw[if_pos e] at h;cases h
  ·rw[if_neg e] at h
   rw[Bx,if_neg e,Zf v h]
   rfl
theorem Zg {α:Type}:∀{l:List (Int×α)} (hn:(l.map (·.1)).Nodup) {x:Int×α},x∈l→A7 l x.1=some x.2
 |(a,v)::l,hn,x,hx=>by
  rw[List.map_cons,List.nodup_cons] at hn
  rw[A7]
  rcases List.mem_cons.1 hx with rfl|hx
  ·exact if_pos rfl
  ·rw[if_neg fun e:a=x.1=>hn.1 (by show a∈_;rw[e];exact List.mem_map_of_mem hx)]
   exact Zg hn.2 hx
structure SmInv (s:Sms):Prop where
 ok:∀t∈s.taken,s.may t.2=true∧t.2.pl=t.1
 apart:s.taken.Pairwise fun a b=>a.1≠b.1∧En a.2 b.2=false
theorem Ayp {s s':Sms} (h1:s'.spots=s.spots) (h2:s'.place=s.place) (h3:s'.dim=s.dim) (m:MgS):s'.may m=s.may m:=by
 have hu:s'.und=s.und:=by funext q p;unfold Sms.und;rw[h1]
 have hg:∀(pl:Int) (ids peers:List Int) (n:Nat) (l:List UInt64),l.length≤n→∀last rest,Dz s' pl ids peers l last rest=Dz s pl ids peers l last rest:=fun pl ids peers n=>by
  induction n with
  |zero=>
   intro l hl last rest
   obtain rfl:=List.length_eq_zero_iff.1 (Nat.le_zero.1 hl)
   rfl
  |succ n ih=>
   intro l hl last rest
   match l,hl with
   |[],_=>rfl
   |[a],_=>rfl
   |a::b::r,hl=>
    rw[Dz,Dz,h1,hu,ih r (by simp only[List.length_cons] at hl;omega)]
 unfold Sms.may
 rw[hu,h2,h3,hg _ _ _ _ _ (Nat.le_refl _)]
theorem Pz (s:Sms) (m:MgS):(s.take m).spots=s.spots∧(s.take m).place=s.place∧(s.take m).dim=s.dim∧(s.take m).taken=if s.takeE m=0 then s.taken++[(m.pl,m)] else s.taken:=by
 unfold Sms.take
 split
 ·rename_i h
  refine⟨rfl,rfl,rfl,?_⟩
  have:s.takeE m≠0:=by
   unfold Sms.takeE
   rcases h with h|h
   ·rw[if_pos h];decide
   ·by_cases h2:s.may m=false
    ·rw[if_pos h2];decide
    ·rw[if_neg h2,if_pos h];decide
  rw[if_neg this]
 ·refine⟨rfl,rfl,rfl,?_⟩
  show (if s.takeE m=0 then Bx s.taken m.pl m else s.taken)=_
  by_cases h:s.takeE m=0
  ·rw[if_pos h,if_pos h]
   refine Zf m ?_
   unfold Sms.takeE at h
   repeat' split at h
   all_goals first|(exact absurd h (by decide))|skip
   rename_i h3 _
   simpa using h3
  ·rw[if_neg h,if_neg h]
theorem Zh {s:Sms} {m:MgS} (h:s.takeE m=0):s.may m=true∧A7 s.taken m.pl=none∧∀t∈s.taken,En t.2 m=false:=by
 unfold Sms.takeE at h
 by_cases h1:s.may m=false
 ·rw[if_pos h1] at h;exact absurd h (by decide)
 rw[if_neg h1] at h
 by_cases h2:m.ge < (A7 s.heard m.pl).getD 0
 ·rw[if_pos h2] at h;exact absurd h (by decide)
 rw[if_neg h2] at h
 by_cases h3:(A7 s.taken m.pl).isSome=true
 ·rw[if_pos h3] at h;exact absurd h (by decide)
 rw[if_neg h3] at h
 by_cases h4:s.taken.any (fun t=>En t.2 m)=true
 ·rw[if_pos h4] at h;exact absurd h (by decide)
 refine⟨by simpa using h1,by simpa using h3,fun t ht=>?_⟩
 rw[←Bool.not_eq_true]
 exact fun e=>h4 (List.any_eq_true.2 ⟨t,ht,e⟩)
theorem Zi {s:Sms} (h:SmInv s) (m:MgS):SmInv (s.take m):=by
 obtain⟨e1,e2,e3,e4⟩:=Pz s m
 have hm:=Ayp e1 e2 e3
 by_cases h0:s.takeE m=0
 ·rw[if_pos h0] at e4
  obtain⟨k1,k2,k3⟩:=Zh h0
  refine⟨fun t ht=>?_,?_⟩
  ·rw[hm]
   rw[e4] at ht
   rcases List.mem_append.1 ht with ht|ht
   ·exact h.ok t ht
   ·rw[List.mem_singleton.1 ht]
    exact⟨k1,rfl⟩
  ·rw[e4]
   refine List.pairwise_append.2 ⟨h.apart,List.pairwise_singleton _ _,fun a ha b hb=>?_⟩
   rw[List.mem_singleton.1 hb]
   exact⟨T4 k2 a ha,k3 a ha⟩
 ·rw[if_neg h0] at e4
  exact⟨fun t ht=>by rw[hm];rw[e4] at ht;exact h.ok t ht,by rw[e4];exact h.apart⟩
structure MayP (s:Sms) (m:MgS):Prop where
 chk:Cm m=true
 k:m.k=6
 und:s.und m.pl s.place=true
 len:(m.xs.length:Int)=s.dim
 some_:m.ids≠[]
 ids:Bg (-1) m.ids=true
 ps:may m.ps=true
 sub:∀x∈m.ids,x∈idsP m.ps
 few:m.xs.length≤32∧m.ns.length≤128
 ev:m.ns.length % 2=0
 go:Dz s m.pl m.ids (idsP m.ps) m.ns (-1) (idsP m.ps)=true
theorem K2 {s:Sms} {m:MgS} (h:s.may m=true):MayP s m:=by
 unfold Sms.may at h
 simp only[Bool.and_eq_true,decide_eq_true_eq,Bool.not_eq_true'] at h
 obtain⟨h1,h2,h3,h4,h5,h6,h7,h8,h9⟩:=h
 obtain⟨_,hf,_⟩:=Ayl h1
 rw[h2] at hf
 have f6:Bm 6=[97,103,105,120,112,118]:=by decide
 rw[f6] at hf
 have fi:=hf 105 (by simp)
 have fp:=hf 112 (by simp)
 have fx:=hf 120 (by simp)
 have fv:=hf 118 (by simp)
 have fi:Bg (-1) m.ids=true:=fi
 have fp:may m.ps=true:=fp
 have fx:decide (m.xs.length≤32)=true:=fx
 have fv:(decide (m.ns.length≤128)&&!(m.ns.any fun v=>decide (pm1 < v)))=true:=fv
 rw[Bool.and_eq_true] at fv
 refine⟨h1,h2,h3,h5,fun e=>(by rw[e] at h6;cases h6),fi,fp,fun x hx=>?_,⟨of_decide_eq_true fx,of_decide_eq_true fv.1⟩,h7,h9⟩
 have hb:=Iu fi x hx
 by_cases hp:x∈idsP m.ps
 ·exact hp
 ·have:x∈B8 m.ids (idsP m.ps):=T0.2 ⟨hb.1,hb.2,hx,hp⟩
  rw[List.isEmpty_iff] at h8
  rw[h8] at this
  cases this
theorem Ayq {s:Sms} {a b:MgS} (ha:MayP s a) (hb:MayP s b) (h:En a b=false):∀x∈a.ids,x∉b.ids:=fun x h1 h2=>by
 unfold En at h
 rw[Bool.or_eq_false_iff] at h
 have hx:=Iu ha.ids x h1
 have:x∈Bh (idsP a.ps) (idsP b.ps):=Tz.2 ⟨hx.1,hx.2,ha.sub x h1,hb.sub x h2⟩
 have h3:(Bh (idsP a.ps) (idsP b.ps)).isEmpty=true:=by simpa using h.1
 rw[List.isEmpty_iff] at h3
 rw[h3] at this
 cases this
def Mr (s:Sms):List UInt32:=s.taken.foldl (fun r t=>B9 r t.2.xs) (List.replicate s.dim.toNat 0)
structure PaInv (s:Sms) (inn:List Int) (sum:List UInt32) (many:Nat):Prop where
 inv:SmInv s
 asc:Bg (-1) inn=true
 mem:∀x,x∈inn↔∃t∈s.taken,x∈t.2.ids
 eq:sum=Mr s
 many:many=s.taken.length
 len:sum.length=s.dim.toNat
theorem Ayr {a b:List UInt32} (h:a.length=b.length):(B9 a b).length=a.length:=by unfold B9;rw[List.length_zipWith,h,Nat.min_self]
theorem Ays {s:Sms} {inn:List Int} {sum:List UInt32} {many:Nat} (h:PaInv s inn sum many) {m:MgS} (h0:s.takeE m=0):
  Bh inn m.ids=[]∧m.ids≠[]∧sum.length=m.xs.length∧PaInv (s.take m) (Aw inn m.ids) (B9 sum m.xs) (many+1):=by
 obtain⟨e1,e2,e3,e4⟩:=Pz s m
 rw[if_pos h0] at e4
 obtain⟨k1,k2,k3⟩:=Zh h0
 have km:=K2 k1
 have hl:sum.length=m.xs.length:=by rw[h.len];have:=km.len;omega
 refine⟨?_,km.some_,hl,Zi h.inv m,Yt _,fun x=>?_,?_,?_,?_⟩
 ·refine List.eq_nil_iff_forall_not_mem.2 fun x hx=>?_
  obtain⟨_,_,hx1,hx2⟩:=Tz.1 hx
  obtain⟨t,ht,hxt⟩:=(h.mem x).1 hx1
  exact Ayq (K2 (h.inv.ok t ht).1) km (k3 t ht) x hxt hx2
 ·rw[Pq,e4]
  constructor
  ·rintro⟨_,_,hx|hx⟩
   ·obtain⟨t,ht,hxt⟩:=(h.mem x).1 hx
    exact⟨t,List.mem_append_left _ ht,hxt⟩
   ·exact⟨(m.pl,m),List.mem_append_right _ (List.mem_singleton.2 rfl),hx⟩
  ·rintro⟨t,ht,hxt⟩
   rcases List.mem_append.1 ht with ht|ht
   ·have hx:=(h.mem x).2 ⟨t,ht,hxt⟩
    have:=Iu h.asc x hx
    exact⟨this.1,this.2,.inl hx⟩
   ·rw[List.mem_singleton.1 ht] at hxt
    have:=Iu km.ids x hxt
    exact⟨this.1,this.2,.inr hxt⟩
 ·unfold Mr
  rw[e4,e3,List.foldl_append,h.eq]
  rfl
 ·rw[e4,h.many,List.length_append]
  rfl
 ·rw[Ayr hl,h.len,e3]
def Sms.from_ (s:Sms):List Int:=(s.taken.map (·.1)).mergeSort fun a b=>decide (a≤b)
def Sms.msgs (s:Sms):List MgS:=s.from_.map fun q=>(A7 s.taken q).getD Fz
theorem Zj {s:Sms} (h:SmInv s):(s.taken.map (·.1)).Nodup:=by
 unfold List.Nodup
 rw[List.pairwise_map]
 exact h.apart.imp fun h=>h.1
theorem P2 (s:Sms):s.from_.Perm (s.taken.map (·.1)):=List.mergeSort_perm _ _
theorem Zk {s:Sms} (h:SmInv s):s.msgs.Perm (s.taken.map (·.2)):=by
 refine ((P2 s).map _).trans (List.Perm.of_eq ?_)
 rw[List.map_map]
 refine List.map_congr_left fun t ht=>?_
 show (A7 s.taken t.1).getD Fz=t.2
 rw[Zg (Zj h) ht]
 rfl
def Ms (s:Sms):List Int:=s.msgs.foldl (fun a t=>Aw a t.ids) []
def Hq (s:Sms):List UInt32:=s.msgs.foldl (fun r t=>B9 r t.xs) (List.replicate s.dim.toNat 0)
theorem Zl:∀(l:List MgS) (a:List Int),Bg (-1) a=true→(∀t∈l,Bg (-1) t.ids=true)→Bg (-1) (l.foldl (fun a t=>Aw a t.ids) a)=true∧∀x,x∈l.foldl (fun a t=>Aw a t.ids) a↔x∈a∨∃t∈l,x∈t.ids
 |[],a,h,_=>⟨h,fun x=>⟨.inl,fun h=>h.elim id fun⟨t,ht,_⟩=>by cases ht⟩⟩
 |t::l,a,h,hl=>by
  obtain⟨h1,h2⟩:=Zl l (Aw a t.ids) (Yt _) fun t ht=>hl t (List.mem_cons_of_mem _ ht)
  refine⟨h1,fun x=>(h2 x).trans ?_⟩
  rw[Pq]
  constructor
  ·rintro (⟨_,_,hx|hx⟩|⟨u,hu,hx⟩)
   ·exact .inl hx
   ·exact .inr ⟨t,List.mem_cons_self ..,hx⟩
   ·exact .inr ⟨u,List.mem_cons_of_mem _ hu,hx⟩
  ·rintro (hx|⟨u,hu,hx⟩)
   ·have:=Iu h x hx
    exact .inl ⟨this.1,this.2,.inl hx⟩
   ·rcases List.mem_cons.1 hu with rfl|hu
    ·have:=Iu (hl u (List.mem_cons_self ..)) x hx
     exact .inl ⟨this.1,this.2,.inr hx⟩
    ·exact .inr ⟨u,hu,hx⟩
theorem Ayt {a b:List Int} (ha:Bg (-1) a=true) (hb:Bg (-1) b=true) (h:∀x,x∈a↔x∈b):a=b:=Ys (Iq.1 ha).2 (Iq.1 hb).2 h
theorem Ayu {s:Sms} {inn:List Int} {sum:List UInt32} {many:Nat} (h:PaInv s inn sum many):Ms s=inn:=by
 have hp:=Zk h.inv
 have hok:∀t∈s.msgs,Bg (-1) t.ids=true:=fun t ht=>by
  obtain⟨u,hu,rfl⟩:=List.mem_map.1 (hp.mem_iff.1 ht)
  exact (K2 (h.inv.ok u hu).1).ids
 obtain⟨h1,h2⟩:=Zl s.msgs [] rfl hok
 refine Ayt h1 h.asc fun x=>(h2 x).trans ?_
 rw[h.mem]
 constructor
 ·rintro (hx|⟨t,ht,hx⟩)
  ·cases hx
  ·obtain⟨u,hu,rfl⟩:=List.mem_map.1 (hp.mem_iff.1 ht)
   exact⟨u,hu,hx⟩
 ·rintro⟨u,hu,hx⟩
  exact .inr ⟨u.2,hp.mem_iff.2 (List.mem_map_of_mem hu),hx⟩
theorem Ayv (r x y:List UInt32):B9 (B9 r x) y=B9 (B9 r y) x:=by
 induction r generalizing x y with
 |nil=>cases x<;>cases y<;>rfl
 |cons a r ih=>
  cases x with
  |nil=>cases y<;>rfl
  |cons b x=>
   cases y with
   |nil=>rfl
   |cons c y=>
    show (a+b+c)::B9 (B9 r x) y=(a+c+b)::B9 (B9 r y) x
    rw[ih,UInt32.add_assoc,UInt32.add_comm b c,←UInt32.add_assoc]
theorem Ayw {s:Sms} (h:SmInv s):Hq s=Mr s:=by
 have:=(Zk h).foldl_eq' (f:=fun r t=>B9 r t.xs) (fun x _ y _ z=>Ayv z x.xs y.xs) (List.replicate s.dim.toNat 0)
 unfold Hq Mr
 rw[this,List.foldl_map]
end Go.Proofs.YtedaafmfjhjfmaaGreatDoor
