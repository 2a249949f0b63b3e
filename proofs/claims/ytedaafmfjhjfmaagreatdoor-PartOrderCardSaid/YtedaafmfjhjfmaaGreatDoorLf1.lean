import Derived.Test.YtedaafmfjhjfmaaGreatDoorTn0
import Derived.Test.YtedaafmfjhjfmaaGreatDoorPc
/- The plain law of layer 16: messages, their forms, as bytes, of bytes. No program in sight. -/
namespace Go.Proofs.YtedaafmfjhjfmaaGreatDoor
structure MgS where
 k:UInt8
 pl:Int
 ot:Int
 cl:Int
 ge:Int
 nu:UInt64
 sm:List UInt8
 ids:List Int
 ns:List UInt64
 ps:List Pr
 xs:List UInt32
 re:Int
deriving DecidableEq
def Fq:MgS:=⟨0,0,0,0,0,0,List.replicate 32 0,[],[],[],[],0⟩
instance:Inhabited MgS:=⟨Fq⟩
def K6 (k:UInt8):List UInt8×List UInt8:=
 if k=1 then ([106,111,105,110],[99,103,110,115]) else if k=2 then ([114,111,115,116,101,114],[103,112])
 else if k=3 then ([98,111,120],[99,103,118]) else if k=4 then ([98,111,120,101,115],[103,105,118])
 else if k=5 then ([109,97,115,107,101,100],[99,103,120]) else if k=6 then ([112,97,114,116,105,97,108],[97,103,105,120,112,118])
 else if k=7 then ([116,97,107,101,110],[97,103]) else if k=8 then ([97,115,107],[97,103,105])
 else if k=9 then ([103,105,118,101],[99,103,118]) else if k=10 then ([103,105,118,101,110],[97,99,103,118])
 else if k=11 then ([97,98,111,114,116],[114]) else if k=12 then ([100,111,110,101],[105,120])
 else if k=13 then ([112,105,110,103],[97,103]) else if k=14 then ([112,111,110,103],[97,103])
 else if k=15 then ([115,116,101,112],[97,103]) else if k=16 then ([109,111,118,101],[97,111,103])
 else if k=17 then ([108,111,115,116],[103,105]) else if k=18 then ([108,97,116,101],[99,103])
 else if k=19 then ([113,117,105,116],[114]) else ([],[])
def Bn (k:UInt8):List UInt8:=(K6 k).2
def wiM (n most:Int):Bool:=decide (0≤n∧n≤most)
def pm1:UInt64:=2305843009213693950
def Gx (m:MgS) (c:UInt8):Bool:=
 if c=97 then wiM m.pl 15 else if c=111 then wiM m.ot 15 else if c=99 then wiM m.cl 63 else if c=103 then wiM m.ge 1073741824
 else if c=110 then decide (m.nu≤pm1) else if c=115 then true else if c=105 then Bm (-1) m.ids
 else if c=118 then decide (m.ns.length≤128)&&!(m.ns.any fun v=>decide (pm1 < v)) else if c=112 then may m.ps
 else if c=120 then decide (m.xs.length≤32) else if c=114 then wiM m.re 255 else false
def Ju (m:MgS) (c:UInt8):MgS:=
 if c=97 then {m with pl:=0} else if c=111 then {m with ot:=0} else if c=99 then {m with cl:=0} else if c=103 then {m with ge:=0}
 else if c=110 then {m with nu:=0} else if c=115 then {m with sm:=List.replicate 32 0} else if c=105 then {m with ids:=[]}
 else if c=118 then {m with ns:=[]} else if c=112 then {m with ps:=[]} else if c=120 then {m with xs:=[]} else if c=114 then {m with re:=0} else m
def Hk (m:MgS):List UInt8→MgS→Bool
 |[],r=>decide (r=Fq)
 |c::f,r=>if Gx m c=true then Hk m f (Ju r c) else false
def Cj (m:MgS):Bool:=if Bn m.k=[] then false else Hk m (Bn m.k) {m with k:=0}
def Ps (l:List Int):List UInt64:=l.map UInt64.ofInt
def Zg (l:List UInt64):List Int:=l.map fun v=>(v.toNat:Int)
def Ayb (m:MgS) (c:UInt8):List (List UInt8):=
 if c=97 then [Gr (UInt64.ofInt m.pl)] else if c=111 then [Gr (UInt64.ofInt m.ot)] else if c=99 then [Gr (UInt64.ofInt m.cl)] else if c=103 then [Gr (UInt64.ofInt m.ge)]
 else if c=110 then [Gr m.nu] else if c=115 then [m.sm] else if c=105 then [Im (Ps m.ids)++Mi (Ps m.ids)]
 else if c=118 then [Im m.ns++Mi m.ns] else if c=112 then [Im (Ps (m.ps.map (·.1)))++Mi (Ps (m.ps.map (·.1))),Im (m.ps.map (·.2))++Mi (m.ps.map (·.2))]
 else if c=120 then [Im m.xs++Yy m.xs] else if c=114 then [Gr (UInt64.ofInt m.re)] else []
def fbM (m:MgS) (c:UInt8):List UInt8:=(Ayb m c).flatten
def A7r (m:MgS):List UInt8:=Gr m.k.toUInt64++(Bn m.k).flatMap (fbM m)
def Ayc (c:UInt8) (st:Rs) (m:MgS):Option (MgS×Rs):=
 if c=97 then some ({m with pl:=((Ce 15 st).1.toNat:Int)},(Ce 15 st).2.2)
 else if c=111 then some ({m with ot:=((Ce 15 st).1.toNat:Int)},(Ce 15 st).2.2)
 else if c=99 then some ({m with cl:=((Ce 63 st).1.toNat:Int)},(Ce 63 st).2.2)
 else if c=103 then some ({m with ge:=((Ce 1073741824 st).1.toNat:Int)},(Ce 1073741824 st).2.2)
 else if c=110 then some ({m with nu:=(Ce pm1 st).1},(Ce pm1 st).2.2)
 else if c=115 then some ({m with sm:=(Pm st).1},(Pm st).2)
 else if c=105 then some ({m with ids:=Zg (Ev 64 63 st).1},(Ev 64 63 st).2)
 else if c=118 then some ({m with ns:=(Ev 128 pm1 st).1},(Ev 128 pm1 st).2)
 else if c=112 then (if (Ev 64 63 st).1.length=(Ev 64 pm1 (Ev 64 63 st).2).1.length then some ({m with ps:=m.ps++(Zg (Ev 64 63 st).1).zip (Ev 64 pm1 (Ev 64 63 st).2).1},(Ev 64 pm1 (Ev 64 63 st).2).2) else none)
 else if c=120 then some ({m with xs:=(Pn 32 st).1},(Pn 32 st).2)
 else if c=114 then some ({m with re:=((Ce 255 st).1.toNat:Int)},(Ce 255 st).2.2) else some (m,st)
def Zh:List UInt8→MgS→Rs→Option (MgS×Rs)
 |[],m,st=>some (m,st)
 |c::f,m,st=>match Ayc c st m with
  |none=>none
  |some (m',st')=>Zh f m' st'
def Ayd:Option (MgS×Rs)→Option MgS
 |none=>none
 |some (m,st)=>if st=([],false)∧Cj m=true then some m else none
def A7s (b:List UInt8):Option MgS:=Ayd (Zh (Bn (Ce 255 (b,false)).1.toUInt8) {Fq with k:=(Ce 255 (b,false)).1.toUInt8} (Ce 255 (b,false)).2.2)
def Zi (m':MgS) (c:UInt8) (m:MgS):MgS:=
 if c=97 then {m' with pl:=m.pl} else if c=111 then {m' with ot:=m.ot} else if c=99 then {m' with cl:=m.cl} else if c=103 then {m' with ge:=m.ge}
 else if c=110 then {m' with nu:=m.nu} else if c=115 then {m' with sm:=m.sm} else if c=105 then {m' with ids:=m.ids}
 else if c=118 then {m' with ns:=m.ns} else if c=112 then {m' with ps:=m'.ps++m.ps} else if c=120 then {m' with xs:=m.xs} else if c=114 then {m' with re:=m.re} else m'
theorem Aye {l:List Pr} (h:may l=true):l.length≤64∧(∀x∈l.map (·.1),0≤x∧x < 64)∧∀v∈l.map (·.2),v≤pm1:=by
 refine⟨Zc h,fun x hx=>?_,fun v hv=>?_⟩
 ·obtain⟨p,hp,rfl⟩:=List.mem_map.1 hx
  obtain⟨i,hi⟩:=List.mem_iff_getElem?.1 hp
  have hil:=(List.getElem?_eq_some_iff.1 hi).1
  have hg:=Mn.1 h
  have h1:=Zb (l:=l) i fun j hj=>hg j (by omega)
  have h2:=hg i hil
  have e:ix l i=p:=by rw[ix,List.getD_eq_getElem?_getD,hi];rfl
  unfold Hj at h2
  rw[e] at h2
  exact⟨by omega,h2.2.1⟩
 ·obtain⟨p,hp,rfl⟩:=List.mem_map.1 hv
  obtain⟨i,hi⟩:=List.mem_iff_getElem?.1 hp
  have hil:=(List.getElem?_eq_some_iff.1 hi).1
  have h2:=(Mn.1 h i hil).2.2.2
  have e:ix l i=p:=by rw[ix,List.getD_eq_getElem?_getD,hi];rfl
  rw[e,UInt64.lt_iff_toNat_lt,show fpP.toNat=2305843009213693951 from rfl] at h2
  rw[UInt64.le_iff_toNat_le,show pm1.toNat=2305843009213693950 from rfl]
  omega
def A7t (r:Option (MgS×Rs)):Prop:=r=none∨∃m,r=some (m,Gt)
theorem Zj {m:MgS}:∀{f:List UInt8} {r:MgS},Hk m f r=true↔(∀c∈f,Gx m c=true)∧f.foldl Ju r=Fq
 |[],r=>by simp [Hk]
 |c::f,r=>by
  rw[Hk,List.foldl_cons]
  by_cases h:Gx m c=true
  ·rw[if_pos h,Zj]
   refine⟨fun⟨a,b⟩=>⟨fun x hx=>?_,b⟩,fun⟨a,b⟩=>⟨fun x hx=>a x (List.mem_cons_of_mem _ hx),b⟩⟩
   rcases List.mem_cons.1 hx with rfl|hx
   ·exact h
   ·exact a x hx
  ·rw[if_neg h]
   exact⟨(fun e=>nomatch e),fun⟨a,_⟩=>absurd (a c (List.mem_cons_self ..)) h⟩
structure Jn (m m' r:MgS):Prop where
 pl:m'.pl=m.pl∨m'.pl=0∧r.pl=m.pl
 ot:m'.ot=m.ot∨m'.ot=0∧r.ot=m.ot
 cl:m'.cl=m.cl∨m'.cl=0∧r.cl=m.cl
 ge:m'.ge=m.ge∨m'.ge=0∧r.ge=m.ge
 nu:m'.nu=m.nu∨m'.nu=0∧r.nu=m.nu
 sm:m'.sm=m.sm∨m'.sm=List.replicate 32 0∧r.sm=m.sm
 ids:m'.ids=m.ids∨m'.ids=[]∧r.ids=m.ids
 ns:m'.ns=m.ns∨m'.ns=[]∧r.ns=m.ns
 xs:m'.xs=m.xs∨m'.xs=[]∧r.xs=m.xs
 re:m'.re=m.re∨m'.re=0∧r.re=m.re
 k:m'.k=m.k
theorem Jn.step {m m' r:MgS} (h:Jn m m' r) (c:UInt8):Jn m (Zi m' c m) (Ju r c):=by
 unfold Zi Ju
 by_cases h1:c=97
 ·simp only[if_pos h1];exact⟨.inl rfl,h.ot,h.cl,h.ge,h.nu,h.sm,h.ids,h.ns,h.xs,h.re,h.k⟩
 simp only[if_neg h1]
 by_cases h1:c=111
 ·simp only[if_pos h1];exact⟨h.pl,.inl rfl,h.cl,h.ge,h.nu,h.sm,h.ids,h.ns,h.xs,h.re,h.k⟩
 simp only[if_neg h1]
 by_cases h1:c=99
 ·simp only[if_pos h1];exact⟨h.pl,h.ot,.inl rfl,h.ge,h.nu,h.sm,h.ids,h.ns,h.xs,h.re,h.k⟩
 simp only[if_neg h1]
 by_cases h1:c=103
 ·simp only[if_pos h1];exact⟨h.pl,h.ot,h.cl,.inl rfl,h.nu,h.sm,h.ids,h.ns,h.xs,h.re,h.k⟩
 simp only[if_neg h1]
 by_cases h1:c=110
 ·simp only[if_pos h1];exact⟨h.pl,h.ot,h.cl,h.ge,.inl rfl,h.sm,h.ids,h.ns,h.xs,h.re,h.k⟩
 simp only[if_neg h1]
 by_cases h1:c=115
 ·simp only[if_pos h1];exact⟨h.pl,h.ot,h.cl,h.ge,h.nu,.inl rfl,h.ids,h.ns,h.xs,h.re,h.k⟩
 simp only[if_neg h1]
 by_cases h1:c=105
 ·simp only[if_pos h1];exact⟨h.pl,h.ot,h.cl,h.ge,h.nu,h.sm,.inl rfl,h.ns,h.xs,h.re,h.k⟩
 simp only[if_neg h1]
 by_cases h1:c=118
 ·simp only[if_pos h1];exact⟨h.pl,h.ot,h.cl,h.ge,h.nu,h.sm,h.ids,.inl rfl,h.xs,h.re,h.k⟩
 simp only[if_neg h1]
 by_cases h1:c=112
 ·simp only[if_pos h1];exact⟨h.pl,h.ot,h.cl,h.ge,h.nu,h.sm,h.ids,h.ns,h.xs,h.re,h.k⟩
 simp only[if_neg h1]
 by_cases h1:c=120
 ·simp only[if_pos h1];exact⟨h.pl,h.ot,h.cl,h.ge,h.nu,h.sm,h.ids,h.ns,.inl rfl,h.re,h.k⟩
 simp only[if_neg h1]
 by_cases h1:c=114
 ·simp only[if_pos h1];exact⟨h.pl,h.ot,h.cl,h.ge,h.nu,h.sm,h.ids,h.ns,h.xs,.inl rfl,h.k⟩
 simp only[if_neg h1]
 exact h
theorem Zk {m:MgS} (h:Cj m=true):Bn m.k≠[]∧(∀c∈Bn m.k,Gx m c=true)∧(Bn m.k).foldl Ju {m with k:=0}=Fq:=by
 unfold Cj at h
 split at h
 ·cases h
 ·rename_i hf
  exact⟨hf,Zj.1 h⟩
end Go.Proofs.YtedaafmfjhjfmaaGreatDoor
/- The plain law of layers 23 and 28: whether there are enough; who gathers a group. No program in sight. -/
namespace Go.Proofs.YtedaafmfjhjfmaaGreatDoor
set_option linter.unusedVariables false
structure Tal where
 who:List Int
 inn:List Int
 gone:List Int
 need:Int
 term:Int
 went:Int
def Tal.st (t:Tal):Int:=
 if t.inn.length=t.who.length then 1
 else if t.need≤(t.inn.length:Int)∧(t.term≤t.went∨(t.who.length:Int) - t.inn.length - t.gone.length=0) then 1
 else if (t.inn.length:Int) < t.need∧(t.term≤t.went∨(t.inn.length:Int)+((t.who.length:Int) - t.inn.length - t.gone.length) < t.need) then 2 else 0
def Tal.can (t:Tal) (id:Int):Int:=if t.st≠0 then 9 else if B1 t.who id=false then 6 else if B1 t.inn id=true∨B1 t.gone id=true then 8 else 0
def Tal.came (t:Tal) (id:Int):Tal:={t with inn:=Ay t.inn [id]}
def Tal.tick (t:Tal):Tal:=if t.st=0 then {t with went:=t.went+1} else t
def Tal.new (who:List Int) (need term:Int):Tal:=⟨who,[],[],need,term,0⟩
def Av {α:Type}:List (Int×α)→Int→Option α
 |[],_=>none
 |(k,v)::l,i=>if k=i then some v else Av l i
def Bp {α:Type}:List (Int×α)→Int→α→List (Int×α)
 |[],i,x=>[(i,x)]
 |(k,v)::l,i,x=>if k=i then (k,x)::l else (k,v)::Bp l i x
structure LfS where
 place:Int
 gen:Int
 dim:Int
 term:Int
 need:Int
 parent:Int
 above:List Int
 group:List Int
 phase:Int
 waits:List Int
 tally:Tal
 joined:List Int
 pub:List (Int×UInt64)
 boxes:List (Int×List UInt64)
 rows:List (Int×List UInt32)
 sum:MgS
structure SnS where
 c:Bool
 to:Int
 m:MgS
def F4 (k:UInt8):MgS:={Fq with k:=k}
def LfS.wait (s:LfS) (who:List Int):LfS:={s with waits:=who,tally:=Tal.new who s.need s.term}
def Pt (ids:List Int) (f:Int→MgS):List SnS:=ids.map fun id=>⟨true,id,f id⟩
def LfS.begin_ (s:LfS):List SnS:=Pt s.group fun _=>{F4 15 with pl:=s.place,ge:=s.gen}
def Ayf (k:UInt8):Int:=if k=3 then 1 else if k=5 then 2 else 0
def LfS.fits (s:LfS) (m:MgS):Bool:=if m.k=3 then decide (m.ns.length=2*s.joined.length) else if m.k=5 then decide ((m.xs.length:Int)=s.dim) else decide (m.nu≠0)
def LfS.cameE (s:LfS) (m:MgS):Int:=
 if m.ge≠s.gen then 10 else if s.phase≠Ayf m.k then 9 else if B1 s.waits m.cl=false then 6 else if s.fits m=false then 13 else s.tally.can m.cl
def LfS.cameS (s:LfS) (m:MgS):LfS:=
 if m.k=3 then {s with tally:=s.tally.came m.cl,boxes:=Bp s.boxes m.cl m.ns} else if m.k=5 then {s with tally:=s.tally.came m.cl,rows:=Bp s.rows m.cl m.xs} else {s with tally:=s.tally.came m.cl,pub:=Bp s.pub m.cl m.nu}
def LfS.peers (s:LfS) (ids:List Int):List Pr:=ids.map fun id=>(id,(Av s.pub id).getD 0)
def LfS.again (s:LfS):List SnS:=if s.phase≠3 then [] else [⟨false,s.parent,s.sum⟩]
def LfS.roster (s:LfS):LfS×List SnS:=
 ({({s with joined:=s.tally.inn}:LfS).wait s.tally.inn with phase:=1},Pt s.tally.inn fun _=>{F4 2 with ge:=s.gen,ps:=s.peers s.tally.inn})
def Zl (l:List Int) (x:Int):Nat:=l.findIdx fun y=>decide (y=x)
def LfS.boxOf (s:LfS) (ids:List Int) (id:Int):List UInt64:=ids.flatMap fun f=>(((Av s.boxes f).getD []).drop (2*Zl s.joined id)).take 2
def LfS.box (s:LfS):LfS×List SnS:=
 ({({s with boxes:=[]}:LfS).wait s.tally.inn with phase:=2},Pt s.tally.inn fun id=>{F4 4 with ge:=s.gen,ids:=s.tally.inn,ns:=s.boxOf s.tally.inn id})
def Dk (a b:List UInt32):List UInt32:=List.zipWith (·+·) a b
def LfS.rowSum (s:LfS) (ids:List Int):List UInt32:=ids.foldl (fun r id=>Dk r ((Av s.rows id).getD [])) (List.replicate s.dim.toNat 0)
def LfS.tell (s:LfS):LfS×List SnS:=
 let m:MgS:={F4 6 with pl:=s.place,ge:=s.gen,ids:=s.tally.inn,ns:=[UInt64.ofInt s.place,UInt64.ofInt s.gen],ps:=s.peers s.waits,xs:=s.rowSum s.tally.inn}
 ({s with sum:=m,phase:=3},[⟨false,s.parent,m⟩])
def LfS.on (s:LfS):LfS×List SnS:=
 if 2 < s.phase then (s,[]) else if s.tally.st=1 then (if s.phase=0 then s.roster else if s.phase=1 then s.box else s.tell)
 else if s.tally.st=2 then ({s with phase:=4},[⟨false,s.parent,{F4 17 with ge:=s.gen,ids:=[s.place]}⟩]) else (s,[])
def LfS.hear (s:LfS) (m:MgS):LfS×List SnS×Int:=
 if Cj m=false then (s,[],1)
 else if m.k=1∨m.k=3∨m.k=5 then (if s.cameE m≠0 then (s,[],s.cameE m) else ((s.cameS m).on.1,(s.cameS m).on.2,0))
 else if m.k=9 then (if B1 s.group m.cl=false then (s,[],6) else (s,[⟨false,0,{F4 10 with pl:=s.place,cl:=m.cl,ge:=m.ge,ns:=m.ns}⟩],0))
 else if m.k=8 then (if m.pl≠s.place then (s,[],2) else (s,Pt s.group (fun _=>{F4 8 with pl:=m.pl,ge:=m.ge,ids:=m.ids}),0))
 else if m.k=16 then (if m.pl≠s.place∨m.ot∉s.above then (s,[],2) else ({s with parent:=m.ot},({s with parent:=m.ot}:LfS).again,0))
 else if m.k=15 then (if m.pl≠s.parent then (s,[],2) else (s,s.again,0))
 else if m.k=7 then (if m.pl≠s.place then (s,[],2) else (s,[],0))
 else (s,[],1)
def LfS.tick (s:LfS):LfS×List SnS:=if 2 < s.phase then (s,[]) else ({s with tally:=s.tally.tick}:LfS).on
structure LfInv (s:LfS) (R:List (Int×List UInt32)) (told:Option MgS):Prop where
 need:1≤s.need
 tneed:s.tally.need=s.need
 twho:s.tally.who=s.waits
 wlen:s.phase≤2→s.need≤s.waits.length
 wset:Bm (-1) s.waits=true
 inset:Bm (-1) s.tally.inn=true
 sub:∀x∈s.tally.inn,x∈s.waits
 dim:0≤s.dim∧s.dim≤32
 ph:s.phase=0∨s.phase=1∨s.phase=2∨s.phase=3∨s.phase=4
 early:s.phase < 2→R=[]∧s.rows=[]
 rows:s.phase=2∨s.phase=3→R=s.rows∧R.length=s.tally.inn.length∧(∀x,x∈s.tally.inn↔∃r,Av R x=some r)∧∀x r,Av R x=some r→(r.length:Int)=s.dim
 untold:s.phase≠3→told=none
 told:s.phase=3→(told=none∨told=some s.sum)∧s.sum.k=6∧s.sum.ids=s.tally.inn∧s.sum.xs=s.rowSum s.tally.inn∧s.sum.ids.length≤s.sum.ps.length∧1≤s.sum.ids.length
end Go.Proofs.YtedaafmfjhjfmaaGreatDoor
/- The plain law of layer 28: what is told of a leaf's partial holds, whatever is heard. No program in sight. -/
namespace Go.Proofs.YtedaafmfjhjfmaaGreatDoor
set_option linter.unusedVariables false
theorem Zm {α:Type}:∀(l:List (Int×α)) (k:Int) (v:α) (i:Int),Av (Bp l k v) i=if i=k then some v else Av l i
 |[],k,v,i=>by
  by_cases h:i=k
  ·rw[if_pos h,h];exact if_pos rfl
  ·rw[if_neg h];exact if_neg fun e=>h e.symm
 |(a,x)::l,k,v,i=>by
  rw[Bp]
  by_cases h:a=k
  ·rw[if_pos h,Av,Av]
   by_cases e:i=k
   ·rw[if_pos e,if_pos (h.trans e.symm)]
   ·rw[if_neg e,if_neg fun q=>e (q.symm.trans h),if_neg fun q=>e (q.symm.trans h)]
  ·rw[if_neg h,Av,Av,Zm l k v i]
   by_cases e:a=i
   ·rw[if_pos e,if_pos e,if_neg fun q=>h (e.trans q)]
   ·rw[if_neg e,if_neg e]
theorem Pu {l:List Int} (h:Bm (-1) l=true):∀x∈l,0≤x∧x < 64:=fun x hx=>⟨((Mk.1 h).1 x hx).2.1,((Mk.1 h).1 x hx).2.2⟩
theorem Ayg {l:List Int} (h:l.Pairwise (· < ·)):l.Nodup:=h.imp fun h e=>by omega
theorem Zn:∀{l m:List Int},l.Nodup→(∀x∈l,x∈m)→l.length≤m.length
 |[],m,_,_=>Nat.zero_le _
 |a::l,m,h,hs=>by
  obtain⟨h1,h2⟩:=List.nodup_cons.1 h
  have ha:=hs a (List.mem_cons_self ..)
  have:=Zn (m:=m.erase a) h2 fun x hx=>(List.mem_erase_of_ne (fun e:x=a=>h1 (e▸hx))).2 (hs x (List.mem_cons_of_mem _ hx))
  have hl:=List.length_erase_of_mem ha
  have hp:=List.length_pos_of_mem ha
  rw[List.length_cons]
  omega
theorem Ayh {t:Tal} (h:t.st=1):t.inn.length=t.who.length∨t.need≤(t.inn.length:Int):=by
 unfold Tal.st at h
 by_cases h1:t.inn.length=t.who.length
 ·exact .inl h1
 ·rw[if_neg h1] at h
  by_cases h2:t.need≤(t.inn.length:Int)∧(t.term≤t.went∨(t.who.length:Int) - t.inn.length - t.gone.length=0)
  ·exact .inr h2.1
  ·rw[if_neg h2] at h
   split at h<;>cases h
theorem LfInv.enough {s:LfS} {R:List (Int×List UInt32)} {told:Option MgS} (h:LfInv s R told) (hp:s.phase≤2) (h1:s.tally.st=1):s.need≤(s.tally.inn.length:Int):=by
 rcases Ayh h1 with e|e
 ·rw[e,h.twho];exact h.wlen hp
 ·rw[h.tneed] at e;exact e
theorem LfInv.parent {s:LfS} {R:List (Int×List UInt32)} {told:Option MgS} (h:LfInv s R told) (p:Int):LfInv {s with parent:=p} R told:=
 ⟨h.need,h.tneed,h.twho,h.wlen,h.wset,h.inset,h.sub,h.dim,h.ph,h.early,h.rows,h.untold,h.told⟩
end Go.Proofs.YtedaafmfjhjfmaaGreatDoor
