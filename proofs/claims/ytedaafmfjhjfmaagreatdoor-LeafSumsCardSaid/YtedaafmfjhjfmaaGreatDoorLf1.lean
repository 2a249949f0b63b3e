import Derived.Test.YtedaafmfjhjfmaaGreatDoorSt2
/- The plain law of layers 23 and 28: whether there are enough; who gathers a group. No program in sight. -/
namespace Go.Proofs.YtedaafmfjhjfmaaGreatDoor
set_option linter.unusedVariables false
structure Tal where
 who:List Int
 inn:List Int
 gone:List Int
 need:Int
 term:Int
 went:Int
def Tal.st (t:Tal):Int:=
 if t.inn.length=t.who.length then 1
 else if t.need≤(t.inn.length:Int)∧(t.term≤t.went∨(t.who.length:Int) - t.inn.length - t.gone.length=0) then 1
 else if (t.inn.length:Int) < t.need∧(t.term≤t.went∨(t.inn.length:Int)+((t.who.length:Int) - t.inn.length - t.gone.length) < t.need) then 2 else 0
def Tal.can (t:Tal) (id:Int):Int:=if t.st≠0 then 9 else if A8 t.who id=false then 6 else if A8 t.inn id=true∨A8 t.gone id=true then 8 else 0
def Tal.came (t:Tal) (id:Int):Tal:={t with inn:=Bj t.inn [id]}
def Tal.tick (t:Tal):Tal:=if t.st=0 then {t with went:=t.went+1} else t
def Tal.new (who:List Int) (need term:Int):Tal:=⟨who,[],[],need,term,0⟩
def Aq {α:Type}:List (Int×α)→Int→Option α
 |[],_=>none
 |(k,v)::l,i=>if k=i then some v else Aq l i
def Bk {α:Type}:List (Int×α)→Int→α→List (Int×α)
 |[],i,x=>[(i,x)]
 |(k,v)::l,i,x=>if k=i then (k,x)::l else (k,v)::Bk l i x
structure LfS where
 place:Int
 gen:Int
 dim:Int
 term:Int
 need:Int
 parent:Int
 above:List Int
 group:List Int
 phase:Int
 waits:List Int
 tally:Tal
 joined:List Int
 pub:List (Int×UInt64)
 boxes:List (Int×List UInt64)
 rows:List (Int×List UInt32)
 sum:MgS
structure SnS where
 c:Bool
 to:Int
 m:MgS
def Cp (k:UInt8):MgS:={Ko with k:=k}
def LfS.wait (s:LfS) (who:List Int):LfS:={s with waits:=who,tally:=Tal.new who s.need s.term}
def Cq (ids:List Int) (f:Int→MgS):List SnS:=ids.map fun id=>⟨true,id,f id⟩
def LfS.begin_ (s:LfS):List SnS:=Cq s.group fun _=>{Cp 15 with pl:=s.place,ge:=s.gen}
def F0 (k:UInt8):Int:=if k=3 then 1 else if k=5 then 2 else 0
def LfS.fits (s:LfS) (m:MgS):Bool:=if m.k=3 then decide (m.ns.length=2*s.joined.length) else if m.k=5 then decide ((m.xs.length:Int)=s.dim) else decide (m.nu≠0)
def LfS.cameE (s:LfS) (m:MgS):Int:=
 if m.ge≠s.gen then 10 else if s.phase≠F0 m.k then 9 else if A8 s.waits m.cl=false then 6 else if s.fits m=false then 13 else s.tally.can m.cl
def LfS.cameS (s:LfS) (m:MgS):LfS:=
 if m.k=3 then {s with tally:=s.tally.came m.cl,boxes:=Bk s.boxes m.cl m.ns} else if m.k=5 then {s with tally:=s.tally.came m.cl,rows:=Bk s.rows m.cl m.xs} else {s with tally:=s.tally.came m.cl,pub:=Bk s.pub m.cl m.nu}
def LfS.peers (s:LfS) (ids:List Int):List Pr:=ids.map fun id=>(id,(Aq s.pub id).getD 0)
def LfS.again (s:LfS):List SnS:=if s.phase≠3 then [] else [⟨false,s.parent,s.sum⟩]
def LfS.roster (s:LfS):LfS×List SnS:=
 ({({s with joined:=s.tally.inn}:LfS).wait s.tally.inn with phase:=1},Cq s.tally.inn fun _=>{Cp 2 with ge:=s.gen,ps:=s.peers s.tally.inn})
def F5 (l:List Int) (x:Int):Nat:=l.findIdx fun y=>decide (y=x)
def LfS.boxOf (s:LfS) (ids:List Int) (id:Int):List UInt64:=ids.flatMap fun f=>(((Aq s.boxes f).getD []).drop (2*F5 s.joined id)).take 2
def LfS.box (s:LfS):LfS×List SnS:=
 ({({s with boxes:=[]}:LfS).wait s.tally.inn with phase:=2},Cq s.tally.inn fun id=>{Cp 4 with ge:=s.gen,ids:=s.tally.inn,ns:=s.boxOf s.tally.inn id})
def Im (a b:List UInt32):List UInt32:=List.zipWith (·+·) a b
def LfS.rowSum (s:LfS) (ids:List Int):List UInt32:=ids.foldl (fun r id=>Im r ((Aq s.rows id).getD [])) (List.replicate s.dim.toNat 0)
def LfS.tell (s:LfS):LfS×List SnS:=
 let m:MgS:={Cp 6 with pl:=s.place,ge:=s.gen,ids:=s.tally.inn,ns:=[UInt64.ofInt s.place,UInt64.ofInt s.gen],ps:=s.peers s.waits,xs:=s.rowSum s.tally.inn}
 ({s with sum:=m,phase:=3},[⟨false,s.parent,m⟩])
def LfS.on (s:LfS):LfS×List SnS:=
 if 2 < s.phase then (s,[]) else if s.tally.st=1 then (if s.phase=0 then s.roster else if s.phase=1 then s.box else s.tell)
 else if s.tally.st=2 then ({s with phase:=4},[⟨false,s.parent,{Cp 17 with ge:=s.gen,ids:=[s.place]}⟩]) else (s,[])
def LfS.hear (s:LfS) (m:MgS):LfS×List SnS×Int:=
 if Cd m=false then (s,[],1)
 else if m.k=1∨m.k=3∨m.k=5 then (if s.cameE m≠0 then (s,[],s.cameE m) else ((s.cameS m).on.1,(s.cameS m).on.2,0))
 else if m.k=9 then (if A8 s.group m.cl=false then (s,[],6) else (s,[⟨false,0,{Cp 10 with pl:=s.place,cl:=m.cl,ge:=m.ge,ns:=m.ns}⟩],0))
 else if m.k=8 then (if m.pl≠s.place then (s,[],2) else (s,Cq s.group (fun _=>{Cp 8 with pl:=m.pl,ge:=m.ge,ids:=m.ids}),0))
 else if m.k=16 then (if m.pl≠s.place∨m.ot∉s.above then (s,[],2) else ({s with parent:=m.ot},({s with parent:=m.ot}:LfS).again,0))
 else if m.k=15 then (if m.pl≠s.parent then (s,[],2) else (s,s.again,0))
 else if m.k=7 then (if m.pl≠s.place then (s,[],2) else (s,[],0))
 else (s,[],1)
def LfS.tick (s:LfS):LfS×List SnS:=if 2 < s.phase then (s,[]) else ({s with tally:=s.tally.tick}:LfS).on
structure LfInv (s:LfS) (R:List (Int×List UInt32)) (told:Option MgS):Prop where
 need:1≤s.need
 tneed:s.tally.need=s.need
 twho:s.tally.who=s.waits
 wlen:s.phase≤2→s.need≤s.waits.length
 wset:Br (-1) s.waits=true
 inset:Br (-1) s.tally.inn=true
 sub:∀x∈s.tally.inn,x∈s.waits
 dim:0≤s.dim∧s.dim≤32
 ph:s.phase=0∨s.phase=1∨s.phase=2∨s.phase=3∨s.phase=4
 early:s.phase < 2→R=[]∧s.rows=[]
 rows:s.phase=2∨s.phase=3→R=s.rows∧R.length=s.tally.inn.length∧(∀x,x∈s.tally.inn↔∃r,Aq R x=some r)∧∀x r,Aq R x=some r→(r.length:Int)=s.dim
 untold:s.phase≠3→told=none
 told:s.phase=3→(told=none∨told=some s.sum)∧s.sum.k=6∧s.sum.ids=s.tally.inn∧s.sum.xs=s.rowSum s.tally.inn∧s.sum.ids.length≤s.sum.ps.length∧1≤s.sum.ids.length
end Go.Proofs.YtedaafmfjhjfmaaGreatDoor
/- The plain law of layer 28: what is told of a leaf's partial holds, whatever is heard. No program in sight. -/
namespace Go.Proofs.YtedaafmfjhjfmaaGreatDoor
set_option linter.unusedVariables false
theorem Ro {α:Type}:∀(l:List (Int×α)) (k:Int) (v:α) (i:Int),Aq (Bk l k v) i=if i=k then some v else Aq l i
 |[],k,v,i=>by
  by_cases h:i=k
  ·rw[if_pos h,h];exact if_pos rfl
  ·rw[if_neg h];exact if_neg fun e=>h e.symm
 |(a,x)::l,k,v,i=>by
  rw[Bk]
  by_cases h:a=k
  ·rw[if_pos h,Aq,Aq]
   by_cases e:i=k
   ·rw[if_pos e,if_pos (h.trans e.symm)]
   ·rw[if_neg e,if_neg fun q=>e (q.symm.trans h),if_neg fun q=>e (q.symm.trans h)]
  ·rw[if_neg h,Aq,Aq,Ro l k v i]
   by_cases e:a=i
   ·rw[if_pos e,if_pos e,if_neg fun q=>h (e.trans q)]
   ·rw[if_neg e,if_neg e]
theorem Abh {α:Type}:∀(l:List (Int×α)) (k:Int) (v:α),Aq l k=none→(Bk l k v).length=l.length+1
 |[],_,_,_=>rfl
 |(a,x)::l,k,v,h=>by
  rw[Aq] at h
  by_cases e:a=k
  ·rw[if_pos e] at h;cases h
  ·rw[if_neg e] at h
   rw[Bk,if_neg e,List.length_cons,Abh l k v h,List.length_cons]
theorem Vy {l:List Int} (h:Br (-1) l=true):∀x∈l,0≤x∧x < 64:=fun x hx=>⟨((Km.1 h).1 x hx).2.1,((Km.1 h).1 x hx).2.2⟩
theorem Rp {l:List Int} (h:l.Pairwise (· < ·)):l.Nodup:=h.imp fun h e=>by omega
theorem Vz:∀{l m:List Int},l.Nodup→(∀x∈l,x∈m)→l.length≤m.length
 |[],m,_,_=>Nat.zero_le _
 |a::l,m,h,hs=>by
  obtain⟨h1,h2⟩:=List.nodup_cons.1 h
  have ha:=hs a (List.mem_cons_self ..)
  have:=Vz (m:=m.erase a) h2 fun x hx=>(List.mem_erase_of_ne (fun e:x=a=>h1 (e▸hx))).2 (hs x (List.mem_cons_of_mem _ hx))
  have hl:=List.length_erase_of_mem ha
  have hp:=List.length_pos_of_mem ha
  rw[List.length_cons]
  omega
theorem Abi {l:List Int} (hl:Br (-1) l=true) {id:Int} (h0:0≤id) (h1:id < 64) (hn:id∉l):
  Br (-1) (Bj l [id])=true∧(∀x,x∈Bj l [id]↔x∈l∨x=id)∧(Bj l [id]).length=l.length+1:=by
 have hm:∀x,x∈Bj l [id]↔x∈l∨x=id:=fun x=>by
  rw[Azc,List.mem_singleton]
  constructor
  ·exact fun h=>h.2.2
  ·rintro (h|h)
   ·exact⟨(Vy hl x h).1,(Vy hl x h).2,.inl h⟩
   ·exact⟨by omega,by omega,.inr h⟩
 refine⟨Azd _,hm,?_⟩
 have p:(Bj l [id]).Perm (id::l):=by
  refine (List.perm_ext_iff_of_nodup (Rp (Aaf _)) (List.nodup_cons.2 ⟨hn,Rp (Km.1 hl).2⟩)).2 fun x=>?_
  refine (hm x).trans ?_
  rw[List.mem_cons]
  exact Or.comm
 rw[p.length_eq,List.length_cons]
theorem A2b {t:Tal} (h:t.st=1):t.inn.length=t.who.length∨t.need≤(t.inn.length:Int):=by
 unfold Tal.st at h
 by_cases h1:t.inn.length=t.who.length
 ·exact .inl h1
 ·rw[if_neg h1] at h
  by_cases h2:t.need≤(t.inn.length:Int)∧(t.term≤t.went∨(t.who.length:Int) - t.inn.length - t.gone.length=0)
  ·exact .inr h2.1
  ·rw[if_neg h2] at h
   split at h<;>cases h
theorem LfInv.enough {s:LfS} {R:List (Int×List UInt32)} {told:Option MgS} (h:LfInv s R told) (hp:s.phase≤2) (h1:s.tally.st=1):s.need≤(s.tally.inn.length:Int):=by
 rcases A2b h1 with e|e
 ·rw[e,h.twho];exact h.wlen hp
 ·rw[h.tneed] at e;exact e
theorem Abj {s:LfS} {R:List (Int×List UInt32)} (h:LfInv s R none) (hp:s.phase≤2):LfInv s.on.1 R none∧∀o∈s.on.2,o.m.k=6→o.c=false∧s.on.1.phase=3∧o.m=s.on.1.sum:=by
 unfold LfS.on
 rw[if_neg (by omega)]
 by_cases h1:s.tally.st=1
 ·rw[if_pos h1]
  have he:=h.enough hp h1
  by_cases p0:s.phase=0
  ·rw[if_pos p0]
   obtain⟨e1,e2⟩:=h.early (by omega)
   exact⟨⟨h.need,rfl,rfl,fun _=>he,h.inset,rfl,fun x hx=>(by cases hx),h.dim,.inr (.inl rfl),fun _=>⟨e1,e2⟩,fun q=>(by rcases q with q|q<;>cases q),fun _=>rfl,fun q=>(by cases q)⟩,
    fun o ho hk=>by
     obtain⟨id,_,rfl⟩:=List.mem_map.1 ho
     cases hk⟩
  rw[if_neg p0]
  by_cases p1:s.phase=1
  ·rw[if_pos p1]
   obtain⟨e1,e2⟩:=h.early (by omega)
   exact⟨⟨h.need,rfl,rfl,fun _=>he,h.inset,rfl,fun x hx=>(by cases hx),h.dim,.inr (.inr (.inl rfl)),fun q=>(by cases q),fun _=>⟨(e1.trans e2.symm:R=s.rows),(by rw[e1];rfl),fun x=>⟨fun q=>(by cases q),fun⟨r,q⟩=>(by rw[e1] at q;cases q)⟩,fun x r q=>(by rw[e1] at q;cases q)⟩,fun _=>rfl,fun q=>(by cases q)⟩,
    fun o ho hk=>by
     obtain⟨id,_,rfl⟩:=List.mem_map.1 ho
     cases hk⟩
  rw[if_neg p1]
  have p2:s.phase=2:=by rcases h.ph with q|q|q|q|q<;>omega
  refine⟨⟨h.need,h.tneed,h.twho,fun q=>(by cases q),h.wset,h.inset,h.sub,h.dim,.inr (.inr (.inr (.inl rfl))),fun q=>(by cases q),fun _=>h.rows (.inl p2),fun _=>rfl,fun _=>⟨.inl rfl,rfl,rfl,rfl,?_,?_⟩⟩,fun o ho hk=>?_⟩
  ·show s.tally.inn.length≤(s.peers s.waits).length
   unfold LfS.peers
   rw[List.length_map]
   have hnd:=Rp (Km.1 h.inset).2
   exact Vz hnd h.sub
  ·show 1≤s.tally.inn.length
   have:=h.need
   omega
  ·obtain rfl:=List.mem_singleton.1 ho
   exact⟨rfl,rfl,rfl⟩
 rw[if_neg h1]
 by_cases h2:s.tally.st=2
 ·rw[if_pos h2]
  refine⟨⟨h.need,h.tneed,h.twho,fun q=>(by cases q),h.wset,h.inset,h.sub,h.dim,.inr (.inr (.inr (.inr rfl))),fun q=>(by cases q),fun q=>(by rcases q with q|q<;>cases q),fun _=>rfl,fun q=>(by cases q)⟩,fun o ho hk=>?_⟩
  obtain rfl:=List.mem_singleton.1 ho
  cases hk
 ·rw[if_neg h2]
  exact⟨h,fun o ho=>by cases ho⟩
theorem Abk {t:Tal} {id:Int} (h:t.can id=0):t.st=0∧A8 t.who id=true∧A8 t.inn id=false:=by
 unfold Tal.can at h
 by_cases h1:t.st≠0
 ·rw[if_pos h1] at h;cases h
 rw[if_neg h1] at h
 by_cases h2:A8 t.who id=false
 ·rw[if_pos h2] at h;cases h
 rw[if_neg h2] at h
 by_cases h3:A8 t.inn id=true∨A8 t.gone id=true
 ·rw[if_pos h3] at h;cases h
 rw[not_or] at h3
 exact⟨Decidable.not_not.1 h1,Bool.not_eq_false _▸h2,Bool.not_eq_true _▸h3.1⟩
theorem Abl {s:LfS} {m:MgS} (h:s.cameE m=0):s.phase=F0 m.k∧s.fits m=true∧s.tally.can m.cl=0:=by
 unfold LfS.cameE at h
 by_cases h1:m.ge≠s.gen
 ·rw[if_pos h1] at h;cases h
 rw[if_neg h1] at h
 by_cases h2:s.phase≠F0 m.k
 ·rw[if_pos h2] at h;cases h
 rw[if_neg h2] at h
 by_cases h3:A8 s.waits m.cl=false
 ·rw[if_pos h3] at h;cases h
 rw[if_neg h3] at h
 by_cases h4:s.fits m=false
 ·rw[if_pos h4] at h;cases h
 rw[if_neg h4] at h
 exact⟨Decidable.not_not.1 h2,Bool.not_eq_false _▸h4,h⟩
theorem Np {s:LfS} {R:List (Int×List UInt32)} {told:Option MgS} (h:LfInv s R told) {m:MgS} (hk:m.k=1∨m.k=3∨m.k=5) (he:s.cameE m=0):
  s.phase≤2∧told=none∧(s.cameS m).phase=s.phase∧(m.k=5→s.phase=2∧Aq R m.cl=none)∧LfInv (s.cameS m) (if m.k=5 then Bk R m.cl m.xs else R) none:=by
 obtain⟨h1,h2,h3⟩:=Abl he
 obtain⟨c1,c2,c3⟩:=Abk h3
 rw[Q4,decide_eq_true_eq] at c2
 rw[Q4,decide_eq_false_iff_not] at c3
 have hn:m.cl∉s.tally.inn:=fun e=>c3 ⟨c2.1,c2.2.1,e⟩
 obtain⟨i1,i2,i3⟩:=Abi h.inset c2.1 c2.2.1 hn
 have hph:s.phase≤2:=by
  rw[h1]
  unfold F0
  split
  ·decide
  ·split<;>decide
 have ht:told=none:=h.untold (by omega)
 have hsub:∀x∈Bj s.tally.inn [m.cl],x∈s.waits:=fun x hx=>by
  rcases (i2 x).1 hx with e|e
  ·exact h.sub x e
  ·rw[e,←h.twho];exact c2.2.2
 rcases hk with k1|k1|k1
 ·have n3:¬m.k=3:=by rw[k1];decide
  have n5:¬m.k=5:=by rw[k1];decide
  have p0:s.phase=0:=by rw[h1];unfold F0;rw[if_neg n3,if_neg n5]
  unfold LfS.cameS
  rw[if_neg n3,if_neg n5,if_neg n5]
  exact⟨hph,ht,rfl,fun e=>absurd e n5,⟨h.need,h.tneed,h.twho,h.wlen,h.wset,i1,hsub,h.dim,h.ph,h.early,fun q=>(by have q:s.phase=2∨s.phase=3:=q;omega),fun _=>rfl,fun q=>(by have q:s.phase=3:=q;omega)⟩⟩
 ·have n5:¬m.k=5:=by rw[k1];decide
  have p0:s.phase=1:=by rw[h1];unfold F0;rw[if_pos k1]
  unfold LfS.cameS
  rw[if_pos k1,if_neg n5]
  exact⟨hph,ht,rfl,fun e=>absurd e n5,⟨h.need,h.tneed,h.twho,h.wlen,h.wset,i1,hsub,h.dim,h.ph,h.early,fun q=>(by have q:s.phase=2∨s.phase=3:=q;omega),fun _=>rfl,fun q=>(by have q:s.phase=3:=q;omega)⟩⟩
 ·have n3:¬m.k=3:=by rw[k1];decide
  have p0:s.phase=2:=by rw[h1];unfold F0;rw[if_neg n3,if_pos k1]
  obtain⟨r1,r2,r3,r4⟩:=h.rows (.inl p0)
  have hnone:Aq R m.cl=none:=by
   cases hh:Aq R m.cl with
   |none=>rfl
   |some r=>exact absurd ((r3 _).2 ⟨r,hh⟩) hn
  have hfit:(m.xs.length:Int)=s.dim:=by
   unfold LfS.fits at h2
   rw[if_neg n3,if_pos k1] at h2
   exact of_decide_eq_true h2
  unfold LfS.cameS
  rw[if_neg n3,if_pos k1,if_pos k1]
  refine⟨hph,ht,rfl,fun _=>⟨p0,hnone⟩,⟨h.need,h.tneed,h.twho,h.wlen,h.wset,i1,hsub,h.dim,h.ph,fun q=>(by have q:s.phase < 2:=q;omega),fun _=>⟨by rw[r1],?_,fun x=>?_,fun x r hx=>?_⟩,fun _=>rfl,fun q=>(by have q:s.phase=3:=q;omega)⟩⟩
  ·rw[Abh R _ _ hnone,r2]
   exact i3.symm
  ·refine (i2 x).trans ?_
   rw[Ro]
   by_cases e:x=m.cl
   ·rw[if_pos e];exact⟨fun _=>⟨_,rfl⟩,fun _=>.inr e⟩
   ·rw[if_neg e,←r3];exact⟨fun q=>q.resolve_right e,.inl⟩
  ·rw[Ro] at hx
   by_cases e:x=m.cl
   ·rw[if_pos e] at hx
    rw[←Option.some.inj hx];exact hfit
   ·rw[if_neg e] at hx
    exact r4 x r hx
theorem LfInv.parent {s:LfS} {R:List (Int×List UInt32)} {told:Option MgS} (h:LfInv s R told) (p:Int):LfInv {s with parent:=p} R told:=
 ⟨h.need,h.tneed,h.twho,h.wlen,h.wset,h.inset,h.sub,h.dim,h.ph,h.early,h.rows,h.untold,h.told⟩
theorem Abm (s:LfS):∀o∈s.again,o.m.k=6→o.c=false∧s.phase=3∧o.m=s.sum:=fun o ho hk=>by
 unfold LfS.again at ho
 by_cases h:s.phase≠3
 ·rw[if_pos h] at ho;cases ho
 ·rw[if_neg h] at ho
  obtain rfl:=List.mem_singleton.1 ho
  exact⟨rfl,Decidable.not_not.1 h,rfl⟩
theorem A2c {s:LfS} {R:List (Int×List UInt32)} {told:Option MgS} (h:LfInv s R told):LfInv s.tick.1 R told∧∀o∈s.tick.2,o.m.k=6→o.c=false∧s.tick.1.phase=3∧o.m=s.tick.1.sum:=by
 unfold LfS.tick
 by_cases hp:2 < s.phase
 ·rw[if_pos hp]
  exact⟨h,fun o ho=>by cases ho⟩
 ·rw[if_neg hp]
  have ht:told=none:=h.untold (by omega)
  subst ht
  have h':LfInv {s with tally:=s.tally.tick} R none:=by
   have e:s.tally.tick.who=s.tally.who∧s.tally.tick.inn=s.tally.inn∧s.tally.tick.need=s.tally.need:=by
    unfold Tal.tick
    split<;>exact⟨rfl,rfl,rfl⟩
   obtain⟨e1,e2,e3⟩:=e
   exact⟨h.need,e3.trans h.tneed,e1.trans h.twho,h.wlen,h.wset,by rw[e2];exact h.inset,by rw[e2];exact h.sub,h.dim,h.ph,h.early,by rw[e2];exact h.rows,h.untold,by rw[e2];exact h.told⟩
  exact Abj h' (by show s.phase≤2;omega)
theorem Nq {s:LfS} {R:List (Int×List UInt32)} {told:Option MgS} (h:LfInv s R told) (m:MgS):
  ((s.hear m).2.2=0→m.k=5→s.phase=2∧Aq R m.cl=none)∧LfInv (s.hear m).1 (if (s.hear m).2.2=0∧m.k=5 then Bk R m.cl m.xs else R) told∧
  ∀o∈(s.hear m).2.1,o.m.k=6→o.c=false∧(s.hear m).1.phase=3∧o.m=(s.hear m).1.sum:=by
 have stay:∀(e:Int) (l:List SnS),(m.k=5→e≠0)→(∀o∈l,o.m.k=6→o.c=false∧s.phase=3∧o.m=s.sum)→
   (e=0→m.k=5→s.phase=2∧Aq R m.cl=none)∧LfInv s (if e=0∧m.k=5 then Bk R m.cl m.xs else R) told∧∀o∈l,o.m.k=6→o.c=false∧s.phase=3∧o.m=s.sum:=fun e l he hl=>
  ⟨fun e0 k5=>absurd e0 (he k5),by rw[if_neg fun q=>he q.2 q.1];exact h,hl⟩
 have none_:∀o∈([]:List SnS),o.m.k=6→o.c=false∧s.phase=3∧o.m=s.sum:=fun o ho=>by cases ho
 unfold LfS.hear
 by_cases h0:Cd m=false
 ·rw[if_pos h0];exact stay 1 [] (fun _=>by decide) none_
 rw[if_neg h0]
 by_cases hk:m.k=1∨m.k=3∨m.k=5
 ·rw[if_pos hk]
  by_cases he:s.cameE m≠0
  ·rw[if_pos he];exact stay _ [] (fun _=>he) none_
  rw[if_neg he]
  obtain⟨hp,ht,hph,h5,hi⟩:=Np h hk (Decidable.not_not.1 he)
  obtain⟨o1,o2⟩:=Abj hi (by rw[hph];exact hp)
  refine⟨fun _=>h5,?_,o2⟩
  rw[ht]
  by_cases k5:m.k=5
  ·rw[if_pos k5] at o1;rw[if_pos ⟨rfl,k5⟩];exact o1
  ·rw[if_neg k5] at o1;rw[if_neg fun q=>k5 q.2];exact o1
 rw[if_neg hk]
 have k5:¬m.k=5:=fun e=>hk (.inr (.inr e))
 by_cases h9:m.k=9
 ·rw[if_pos h9]
  by_cases hh:A8 s.group m.cl=false
  ·rw[if_pos hh];exact stay 6 [] (fun _=>by decide) none_
  ·rw[if_neg hh]
   refine stay 0 _ (fun e=>absurd e k5) fun o ho q=>?_
   obtain rfl:=List.mem_singleton.1 ho
   cases q
 rw[if_neg h9]
 by_cases h8:m.k=8
 ·rw[if_pos h8]
  by_cases hh:m.pl≠s.place
  ·rw[if_pos hh];exact stay 2 [] (fun _=>by decide) none_
  ·rw[if_neg hh]
   refine stay 0 _ (fun e=>absurd e k5) fun o ho q=>?_
   obtain⟨id,_,rfl⟩:=List.mem_map.1 ho
   cases q
 rw[if_neg h8]
 by_cases h16:m.k=16
 ·rw[if_pos h16]
  by_cases hh:m.pl≠s.place∨m.ot∉s.above
  ·rw[if_pos hh];exact stay 2 [] (fun _=>by decide) none_
  ·rw[if_neg hh]
   exact⟨fun _ e=>absurd e k5,by rw[if_neg fun q=>k5 q.2];exact h.parent m.ot,Abm _⟩
 rw[if_neg h16]
 by_cases h15:m.k=15
 ·rw[if_pos h15]
  by_cases hh:m.pl≠s.parent
  ·rw[if_pos hh];exact stay 2 [] (fun _=>by decide) none_
  ·rw[if_neg hh];exact stay 0 _ (fun e=>absurd e k5) (Abm s)
 rw[if_neg h15]
 by_cases h7:m.k=7
 ·rw[if_pos h7]
  by_cases hh:m.pl≠s.place
  ·rw[if_pos hh];exact stay 2 [] (fun _=>by decide) none_
  ·rw[if_neg hh];exact stay 0 [] (fun e=>absurd e k5) none_
 rw[if_neg h7]
 exact stay 1 [] (fun _=>by decide) none_
end Go.Proofs.YtedaafmfjhjfmaaGreatDoor
