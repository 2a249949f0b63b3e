import Derived.Test.YtedaafmfjhjfmaaGreatDoorPk0
import Derived.Test.YtedaafmfjhjfmaaGreatDoorPc
/- The plain law of layer 16: messages, their forms, as bytes, of bytes. No program in sight. -/
namespace Go.Proofs.YtedaafmfjhjfmaaGreatDoor
set_option linter.unusedVariables false
section
structure MgS where
 k:UInt8
 pl:Int
 ot:Int
 cl:Int
 ge:Int
 nu:UInt64
 sm:List UInt8
 ids:List Int
 ns:List UInt64
 ps:List Pr
 xs:List UInt32
 re:Int
deriving DecidableEq
def Fk:MgS:=⟨0,0,0,0,0,0,List.replicate 32 0,[],[],[],[],0⟩
instance:Inhabited MgS:=⟨Fk⟩
def Mh (k:UInt8):List UInt8×List UInt8:=
 if k=1 then ([106,111,105,110],[99,103,110,115]) else if k=2 then ([114,111,115,116,101,114],[103,112])
 else if k=3 then ([98,111,120],[99,103,118]) else if k=4 then ([98,111,120,101,115],[103,105,118])
 else if k=5 then ([109,97,115,107,101,100],[99,103,120]) else if k=6 then ([112,97,114,116,105,97,108],[97,103,105,120,112,118])
 else if k=7 then ([116,97,107,101,110],[97,103]) else if k=8 then ([97,115,107],[97,103,105])
 else if k=9 then ([103,105,118,101],[99,103,118]) else if k=10 then ([103,105,118,101,110],[97,99,103,118])
 else if k=11 then ([97,98,111,114,116],[114]) else if k=12 then ([100,111,110,101],[105,120])
 else if k=13 then ([112,105,110,103],[97,103]) else if k=14 then ([112,111,110,103],[97,103])
 else if k=15 then ([115,116,101,112],[97,103]) else if k=16 then ([109,111,118,101],[97,111,103])
 else if k=17 then ([108,111,115,116],[103,105]) else if k=18 then ([108,97,116,101],[99,103])
 else if k=19 then ([113,117,105,116],[114]) else ([],[])
def B7 (k:UInt8):List UInt8:=(Mh k).2
def wiM (n most:Int):Bool:=decide (0≤n∧n≤most)
def pm1:UInt64:=2305843009213693950
def H7 (m:MgS) (c:UInt8):Bool:=
 if c=97 then wiM m.pl 15 else if c=111 then wiM m.ot 15 else if c=99 then wiM m.cl 63 else if c=103 then wiM m.ge 1073741824
 else if c=110 then decide (m.nu≤pm1) else if c=115 then true else if c=105 then Bn (-1) m.ids
 else if c=118 then decide (m.ns.length≤128)&&!(m.ns.any fun v=>decide (pm1 < v)) else if c=112 then may m.ps
 else if c=120 then decide (m.xs.length≤32) else if c=114 then wiM m.re 255 else false
def K3 (m:MgS) (c:UInt8):MgS:=
 if c=97 then {m with pl:=0} else if c=111 then {m with ot:=0} else if c=99 then {m with cl:=0} else if c=103 then {m with ge:=0}
 else if c=110 then {m with nu:=0} else if c=115 then {m with sm:=List.replicate 32 0} else if c=105 then {m with ids:=[]}
 else if c=118 then {m with ns:=[]} else if c=112 then {m with ps:=[]} else if c=120 then {m with xs:=[]} else if c=114 then {m with re:=0} else m
def I3 (m:MgS):List UInt8→MgS→Bool
 |[],r=>decide (r=Fk)
 |c::f,r=>if H7 m c=true then I3 m f (K3 r c) else false
def Bq (m:MgS):Bool:=if B7 m.k=[] then false else I3 m (B7 m.k) {m with k:=0}
def R0 (l:List Int):List UInt64:=l.map UInt64.ofInt
def Ab6 (l:List UInt64):List Int:=l.map fun v=>(v.toNat:Int)
def Aqq (m:MgS) (c:UInt8):List (List UInt8):=
 if c=97 then [Hy (UInt64.ofInt m.pl)] else if c=111 then [Hy (UInt64.ofInt m.ot)] else if c=99 then [Hy (UInt64.ofInt m.cl)] else if c=103 then [Hy (UInt64.ofInt m.ge)]
 else if c=110 then [Hy m.nu] else if c=115 then [m.sm] else if c=105 then [Jq (R0 m.ids)++N9 (R0 m.ids)]
 else if c=118 then [Jq m.ns++N9 m.ns] else if c=112 then [Jq (R0 (m.ps.map (·.1)))++N9 (R0 (m.ps.map (·.1))),Jq (m.ps.map (·.2))++N9 (m.ps.map (·.2))]
 else if c=120 then [Jq m.xs++Abn m.xs] else if c=114 then [Hy (UInt64.ofInt m.re)] else []
def fbM (m:MgS) (c:UInt8):List UInt8:=(Aqq m c).flatten
def A2f (m:MgS):List UInt8:=Hy m.k.toUInt64++(B7 m.k).flatMap (fbM m)
def Aqr (c:UInt8) (st:Rs) (m:MgS):Option (MgS×Rs):=
 if c=97 then some ({m with pl:=((Cw 15 st).1.toNat:Int)},(Cw 15 st).2.2)
 else if c=111 then some ({m with ot:=((Cw 15 st).1.toNat:Int)},(Cw 15 st).2.2)
 else if c=99 then some ({m with cl:=((Cw 63 st).1.toNat:Int)},(Cw 63 st).2.2)
 else if c=103 then some ({m with ge:=((Cw 1073741824 st).1.toNat:Int)},(Cw 1073741824 st).2.2)
 else if c=110 then some ({m with nu:=(Cw pm1 st).1},(Cw pm1 st).2.2)
 else if c=115 then some ({m with sm:=(Rp st).1},(Rp st).2)
 else if c=105 then some ({m with ids:=Ab6 (Fj 64 63 st).1},(Fj 64 63 st).2)
 else if c=118 then some ({m with ns:=(Fj 128 pm1 st).1},(Fj 128 pm1 st).2)
 else if c=112 then (if (Fj 64 63 st).1.length=(Fj 64 pm1 (Fj 64 63 st).2).1.length then some ({m with ps:=m.ps++(Ab6 (Fj 64 63 st).1).zip (Fj 64 pm1 (Fj 64 63 st).2).1},(Fj 64 pm1 (Fj 64 63 st).2).2) else none)
 else if c=120 then some ({m with xs:=(Rq 32 st).1},(Rq 32 st).2)
 else if c=114 then some ({m with re:=((Cw 255 st).1.toNat:Int)},(Cw 255 st).2.2) else some (m,st)
def Ab7:List UInt8→MgS→Rs→Option (MgS×Rs)
 |[],m,st=>some (m,st)
 |c::f,m,st=>match Aqr c st m with
  |none=>none
  |some (m',st')=>Ab7 f m' st'
def Aqs:Option (MgS×Rs)→Option MgS
 |none=>none
 |some (m,st)=>if st=([],false)∧Bq m=true then some m else none
def A2g (b:List UInt8):Option MgS:=Aqs (Ab7 (B7 (Cw 255 (b,false)).1.toUInt8) {Fk with k:=(Cw 255 (b,false)).1.toUInt8} (Cw 255 (b,false)).2.2)
def Ab8 (m':MgS) (c:UInt8) (m:MgS):MgS:=
 if c=97 then {m' with pl:=m.pl} else if c=111 then {m' with ot:=m.ot} else if c=99 then {m' with cl:=m.cl} else if c=103 then {m' with ge:=m.ge}
 else if c=110 then {m' with nu:=m.nu} else if c=115 then {m' with sm:=m.sm} else if c=105 then {m' with ids:=m.ids}
 else if c=118 then {m' with ns:=m.ns} else if c=112 then {m' with ps:=m'.ps++m.ps} else if c=120 then {m' with xs:=m.xs} else if c=114 then {m' with re:=m.re} else m'
theorem Aqt {l:List Pr} (h:may l=true):l.length≤64∧(∀x∈l.map (·.1),0≤x∧x < 64)∧∀v∈l.map (·.2),v≤pm1:=by
 refine⟨Ab2 h,fun x hx=>?_,fun v hv=>?_⟩
 ·obtain⟨p,hp,rfl⟩:=List.mem_map.1 hx
  obtain⟨i,hi⟩:=List.mem_iff_getElem?.1 hp
  have hil:=(List.getElem?_eq_some_iff.1 hi).1
  have hg:=Od.1 h
  have h1:=Ab1 (l:=l) i fun j hj=>hg j (by omega)
  have h2:=hg i hil
  have e:ix l i=p:=by rw[ix,List.getD_eq_getElem?_getD,hi];rfl
  unfold I2 at h2
  rw[e] at h2
  exact⟨by omega,h2.2.1⟩
 ·obtain⟨p,hp,rfl⟩:=List.mem_map.1 hv
  obtain⟨i,hi⟩:=List.mem_iff_getElem?.1 hp
  have hil:=(List.getElem?_eq_some_iff.1 hi).1
  have h2:=(Od.1 h i hil).2.2.2
  have e:ix l i=p:=by rw[ix,List.getD_eq_getElem?_getD,hi];rfl
  rw[e,UInt64.lt_iff_toNat_lt,show fpP.toNat=2305843009213693951 from rfl] at h2
  rw[UInt64.le_iff_toNat_le,show pm1.toNat=2305843009213693950 from rfl]
  omega
def A2h (r:Option (MgS×Rs)):Prop:=r=none∨∃m,r=some (m,Hz)
theorem Ab9 {m:MgS}:∀{f:List UInt8} {r:MgS},I3 m f r=true↔(∀c∈f,H7 m c=true)∧f.foldl K3 r=Fk
 |[],r=>by simp [I3]
 |c::f,r=>by
  rw[I3,List.foldl_cons]
  by_cases h:H7 m c=true
  ·rw[if_pos h,Ab9]
   refine⟨fun⟨a,b⟩=>⟨fun x hx=>?_,b⟩,fun⟨a,b⟩=>⟨fun x hx=>a x (List.mem_cons_of_mem _ hx),b⟩⟩
   rcases List.mem_cons.1 hx with rfl|hx
   ·exact h
   ·exact a x hx
  ·rw[if_neg h]
   exact⟨(fun e=>nomatch e),fun⟨a,_⟩=>absurd (a c (List.mem_cons_self ..)) h⟩
structure Jn (m m' r:MgS):Prop where
 pl:m'.pl=m.pl∨m'.pl=0∧r.pl=m.pl
 ot:m'.ot=m.ot∨m'.ot=0∧r.ot=m.ot
 cl:m'.cl=m.cl∨m'.cl=0∧r.cl=m.cl
 ge:m'.ge=m.ge∨m'.ge=0∧r.ge=m.ge
 nu:m'.nu=m.nu∨m'.nu=0∧r.nu=m.nu
 sm:m'.sm=m.sm∨m'.sm=List.replicate 32 0∧r.sm=m.sm
 ids:m'.ids=m.ids∨m'.ids=[]∧r.ids=m.ids
 ns:m'.ns=m.ns∨m'.ns=[]∧r.ns=m.ns
 xs:m'.xs=m.xs∨m'.xs=[]∧r.xs=m.xs
 re:m'.re=m.re∨m'.re=0∧r.re=m.re
 k:m'.k=m.k
theorem Jn.step {m m' r:MgS} (h:Jn m m' r) (c:UInt8):Jn m (Ab8 m' c m) (K3 r c):=by
 unfold Ab8 K3
 by_cases h1:c=97
 ·simp only[if_pos h1];exact⟨.inl rfl,h.ot,h.cl,h.ge,h.nu,h.sm,h.ids,h.ns,h.xs,h.re,h.k⟩
 simp only[if_neg h1]
 by_cases h1:c=111
 ·simp only[if_pos h1];exact⟨h.pl,.inl rfl,h.cl,h.ge,h.nu,h.sm,h.ids,h.ns,h.xs,h.re,h.k⟩
 simp only[if_neg h1]
 by_cases h1:c=99
 ·simp only[if_pos h1];exact⟨h.pl,h.ot,.inl rfl,h.ge,h.nu,h.sm,h.ids,h.ns,h.xs,h.re,h.k⟩
 simp only[if_neg h1]
 by_cases h1:c=103
 ·simp only[if_pos h1];exact⟨h.pl,h.ot,h.cl,.inl rfl,h.nu,h.sm,h.ids,h.ns,h.xs,h.re,h.k⟩
 simp only[if_neg h1]
 by_cases h1:c=110
 ·simp only[if_pos h1];exact⟨h.pl,h.ot,h.cl,h.ge,.inl rfl,h.sm,h.ids,h.ns,h.xs,h.re,h.k⟩
 simp only[if_neg h1]
 by_cases h1:c=115
 ·simp only[if_pos h1];exact⟨h.pl,h.ot,h.cl,h.ge,h.nu,.inl rfl,h.ids,h.ns,h.xs,h.re,h.k⟩
 simp only[if_neg h1]
 by_cases h1:c=105
 ·simp only[if_pos h1];exact⟨h.pl,h.ot,h.cl,h.ge,h.nu,h.sm,.inl rfl,h.ns,h.xs,h.re,h.k⟩
 simp only[if_neg h1]
 by_cases h1:c=118
 ·simp only[if_pos h1];exact⟨h.pl,h.ot,h.cl,h.ge,h.nu,h.sm,h.ids,.inl rfl,h.xs,h.re,h.k⟩
 simp only[if_neg h1]
 by_cases h1:c=112
 ·simp only[if_pos h1];exact⟨h.pl,h.ot,h.cl,h.ge,h.nu,h.sm,h.ids,h.ns,h.xs,h.re,h.k⟩
 simp only[if_neg h1]
 by_cases h1:c=120
 ·simp only[if_pos h1];exact⟨h.pl,h.ot,h.cl,h.ge,h.nu,h.sm,h.ids,h.ns,.inl rfl,h.re,h.k⟩
 simp only[if_neg h1]
 by_cases h1:c=114
 ·simp only[if_pos h1];exact⟨h.pl,h.ot,h.cl,h.ge,h.nu,h.sm,h.ids,h.ns,h.xs,.inl rfl,h.k⟩
 simp only[if_neg h1]
 exact h
theorem Aqu {m:MgS} (h:Bq m=true):B7 m.k≠[]∧(∀c∈B7 m.k,H7 m c=true)∧(B7 m.k).foldl K3 {m with k:=0}=Fk:=by
 unfold Bq at h
 split at h
 ·cases h
 ·rename_i hf
  exact⟨hf,Ab9.1 h⟩
end
section
structure Tal where
 who:List Int
 inn:List Int
 gone:List Int
 need:Int
 term:Int
 went:Int
def Tal.st (t:Tal):Int:=
 if t.inn.length=t.who.length then 1
 else if t.need≤(t.inn.length:Int)∧(t.term≤t.went∨(t.who.length:Int) - t.inn.length - t.gone.length=0) then 1
 else if (t.inn.length:Int) < t.need∧(t.term≤t.went∨(t.inn.length:Int)+((t.who.length:Int) - t.inn.length - t.gone.length) < t.need) then 2 else 0
def Tal.can (t:Tal) (id:Int):Int:=if t.st≠0 then 9 else if A9 t.who id=false then 6 else if A9 t.inn id=true∨A9 t.gone id=true then 8 else 0
def Tal.came (t:Tal) (id:Int):Tal:={t with inn:=Ak t.inn [id]}
def Tal.tick (t:Tal):Tal:=if t.st=0 then {t with went:=t.went+1} else t
def Tal.new (who:List Int) (need term:Int):Tal:=⟨who,[],[],need,term,0⟩
def Az {α:Type}:List (Int×α)→Int→Option α
 |[],_=>none
 |(k,v)::l,i=>if k=i then some v else Az l i
def Bv {α:Type}:List (Int×α)→Int→α→List (Int×α)
 |[],i,x=>[(i,x)]
 |(k,v)::l,i,x=>if k=i then (k,x)::l else (k,v)::Bv l i x
structure LfS where
 place:Int
 gen:Int
 dim:Int
 term:Int
 need:Int
 parent:Int
 above:List Int
 group:List Int
 phase:Int
 waits:List Int
 tally:Tal
 joined:List Int
 pub:List (Int×UInt64)
 boxes:List (Int×List UInt64)
 rows:List (Int×List UInt32)
 sum:MgS
structure SnS where
 c:Bool
 to:Int
 m:MgS
def D1 (k:UInt8):MgS:={Fk with k:=k}
def LfS.wait (s:LfS) (who:List Int):LfS:={s with waits:=who,tally:=Tal.new who s.need s.term}
def R2 (ids:List Int) (f:Int→MgS):List SnS:=ids.map fun id=>⟨true,id,f id⟩
def LfS.begin_ (s:LfS):List SnS:=R2 s.group fun _=>{D1 15 with pl:=s.place,ge:=s.gen}
def Aqv (k:UInt8):Int:=if k=3 then 1 else if k=5 then 2 else 0
def LfS.fits (s:LfS) (m:MgS):Bool:=if m.k=3 then decide (m.ns.length=2*s.joined.length) else if m.k=5 then decide ((m.xs.length:Int)=s.dim) else decide (m.nu≠0)
def LfS.cameE (s:LfS) (m:MgS):Int:=
 if m.ge≠s.gen then 10 else if s.phase≠Aqv m.k then 9 else if A9 s.waits m.cl=false then 6 else if s.fits m=false then 13 else s.tally.can m.cl
def LfS.cameS (s:LfS) (m:MgS):LfS:=
 if m.k=3 then {s with tally:=s.tally.came m.cl,boxes:=Bv s.boxes m.cl m.ns} else if m.k=5 then {s with tally:=s.tally.came m.cl,rows:=Bv s.rows m.cl m.xs} else {s with tally:=s.tally.came m.cl,pub:=Bv s.pub m.cl m.nu}
def LfS.peers (s:LfS) (ids:List Int):List Pr:=ids.map fun id=>(id,(Az s.pub id).getD 0)
def LfS.again (s:LfS):List SnS:=if s.phase≠3 then [] else [⟨false,s.parent,s.sum⟩]
def LfS.roster (s:LfS):LfS×List SnS:=
 ({({s with joined:=s.tally.inn}:LfS).wait s.tally.inn with phase:=1},R2 s.tally.inn fun _=>{D1 2 with ge:=s.gen,ps:=s.peers s.tally.inn})
def Aca (l:List Int) (x:Int):Nat:=l.findIdx fun y=>decide (y=x)
def LfS.boxOf (s:LfS) (ids:List Int) (id:Int):List UInt64:=ids.flatMap fun f=>(((Az s.boxes f).getD []).drop (2*Aca s.joined id)).take 2
def LfS.box (s:LfS):LfS×List SnS:=
 ({({s with boxes:=[]}:LfS).wait s.tally.inn with phase:=2},R2 s.tally.inn fun id=>{D1 4 with ge:=s.gen,ids:=s.tally.inn,ns:=s.boxOf s.tally.inn id})
def Bz (a b:List UInt32):List UInt32:=List.zipWith (·+·) a b
def LfS.rowSum (s:LfS) (ids:List Int):List UInt32:=ids.foldl (fun r id=>Bz r ((Az s.rows id).getD [])) (List.replicate s.dim.toNat 0)
def LfS.tell (s:LfS):LfS×List SnS:=
 let m:MgS:={D1 6 with pl:=s.place,ge:=s.gen,ids:=s.tally.inn,ns:=[UInt64.ofInt s.place,UInt64.ofInt s.gen],ps:=s.peers s.waits,xs:=s.rowSum s.tally.inn}
 ({s with sum:=m,phase:=3},[⟨false,s.parent,m⟩])
def LfS.on (s:LfS):LfS×List SnS:=
 if 2 < s.phase then (s,[]) else if s.tally.st=1 then (if s.phase=0 then s.roster else if s.phase=1 then s.box else s.tell)
 else if s.tally.st=2 then ({s with phase:=4},[⟨false,s.parent,{D1 17 with ge:=s.gen,ids:=[s.place]}⟩]) else (s,[])
def LfS.hear (s:LfS) (m:MgS):LfS×List SnS×Int:=
 if Bq m=false then (s,[],1)
 else if m.k=1∨m.k=3∨m.k=5 then (if s.cameE m≠0 then (s,[],s.cameE m) else ((s.cameS m).on.1,(s.cameS m).on.2,0))
 else if m.k=9 then (if A9 s.group m.cl=false then (s,[],6) else (s,[⟨false,0,{D1 10 with pl:=s.place,cl:=m.cl,ge:=m.ge,ns:=m.ns}⟩],0))
 else if m.k=8 then (if m.pl≠s.place then (s,[],2) else (s,R2 s.group (fun _=>{D1 8 with pl:=m.pl,ge:=m.ge,ids:=m.ids}),0))
 else if m.k=16 then (if m.pl≠s.place∨m.ot∉s.above then (s,[],2) else ({s with parent:=m.ot},({s with parent:=m.ot}:LfS).again,0))
 else if m.k=15 then (if m.pl≠s.parent then (s,[],2) else (s,s.again,0))
 else if m.k=7 then (if m.pl≠s.place then (s,[],2) else (s,[],0))
 else (s,[],1)
def LfS.tick (s:LfS):LfS×List SnS:=if 2 < s.phase then (s,[]) else ({s with tally:=s.tally.tick}:LfS).on
structure LfInv (s:LfS) (R:List (Int×List UInt32)) (told:Option MgS):Prop where
 need:1≤s.need
 tneed:s.tally.need=s.need
 twho:s.tally.who=s.waits
 wlen:s.phase≤2→s.need≤s.waits.length
 wset:Bn (-1) s.waits=true
 inset:Bn (-1) s.tally.inn=true
 sub:∀x∈s.tally.inn,x∈s.waits
 dim:0≤s.dim∧s.dim≤32
 ph:s.phase=0∨s.phase=1∨s.phase=2∨s.phase=3∨s.phase=4
 early:s.phase < 2→R=[]∧s.rows=[]
 rows:s.phase=2∨s.phase=3→R=s.rows∧R.length=s.tally.inn.length∧(∀x,x∈s.tally.inn↔∃r,Az R x=some r)∧∀x r,Az R x=some r→(r.length:Int)=s.dim
 untold:s.phase≠3→told=none
 told:s.phase=3→(told=none∨told=some s.sum)∧s.sum.k=6∧s.sum.ids=s.tally.inn∧s.sum.xs=s.rowSum s.tally.inn∧s.sum.ids.length≤s.sum.ps.length∧1≤s.sum.ids.length
end
section
theorem K4 {l:List Int} (h:Bn (-1) l=true):∀x∈l,0≤x∧x < 64:=fun x hx=>⟨((Jr.1 h).1 x hx).2.1,((Jr.1 h).1 x hx).2.2⟩
theorem Aqw {l:List Int} (h:l.Pairwise (· < ·)):l.Nodup:=h.imp fun h e=>by omega
theorem Acb:∀{l m:List Int},l.Nodup→(∀x∈l,x∈m)→l.length≤m.length
 |[],m,_,_=>Nat.zero_le _
 |a::l,m,h,hs=>by
  obtain⟨h1,h2⟩:=List.nodup_cons.1 h
  have ha:=hs a (List.mem_cons_self ..)
  have:=Acb (m:=m.erase a) h2 fun x hx=>(List.mem_erase_of_ne (fun e:x=a=>h1 (e▸hx))).2 (hs x (List.mem_cons_of_mem _ hx))
  have hl:=List.length_erase_of_mem ha
  have hp:=List.length_pos_of_mem ha
  rw[List.length_cons]
  omega
theorem Aqx {t:Tal} (h:t.st=1):t.inn.length=t.who.length∨t.need≤(t.inn.length:Int):=by
 unfold Tal.st at h
 by_cases h1:t.inn.length=t.who.length
 ·exact .inl h1
 ·rw[if_neg h1] at h
  by_cases h2:t.need≤(t.inn.length:Int)∧(t.term≤t.went∨(t.who.length:Int) - t.inn.length - t.gone.length=0)
  ·exact .inr h2.1
  ·rw[if_neg h2] at h
   split at h<;>cases h
theorem LfInv.enough {s:LfS} {R:List (Int×List UInt32)} {told:Option MgS} (h:LfInv s R told) (hp:s.phase≤2) (h1:s.tally.st=1):s.need≤(s.tally.inn.length:Int):=by
 rcases Aqx h1 with e|e
 ·rw[e,h.twho];exact h.wlen hp
 ·rw[h.tneed] at e;exact e
theorem LfInv.parent {s:LfS} {R:List (Int×List UInt32)} {told:Option MgS} (h:LfInv s R told) (p:Int):LfInv {s with parent:=p} R told:=
 ⟨h.need,h.tneed,h.twho,h.wlen,h.wset,h.inset,h.sub,h.dim,h.ph,h.early,h.rows,h.untold,h.told⟩
end
section
structure Spt where
 above:List Int
 clients:List Int
 need:Int
instance:Inhabited Spt:=⟨⟨[],[],0⟩⟩
structure Sms where
 place:Int
 dim:Int
 spots:List Spt
 heard:List (Int×Int)
 taken:List (Int×MgS)
def Sms.und (s:Sms) (q p:Int):Bool:=decide (0≤q∧q < s.spots.length)&&decide (p∈(ix s.spots q.toNat).above)
def idsP (l:List Pr):List Int:=l.map (·.1)
def Ek (s:Sms) (pl:Int) (ids peers:List Int):List UInt64→Int→List Int→Bool
 |a::b::r,last,rest=>
  if s.spots.length≤a.toNat∨b.toNat < 1∨1073741824 < b.toNat then false
  else if (a.toNat:Int)≤last∨(¬(a.toNat:Int)=pl∧s.und a.toNat pl=false)∨(ix s.spots a.toNat).need=0 then false
  else if ((By peers (ix s.spots a.toNat).clients).length:Int) < (ix s.spots a.toNat).need∨((By ids (ix s.spots a.toNat).clients).length:Int) < (ix s.spots a.toNat).need then false
  else Ek s pl ids peers r a.toNat (Cs rest (ix s.spots a.toNat).clients)
 |_,_,rest=>rest.isEmpty
def Sms.may (s:Sms) (m:MgS):Bool:=
 Bq m&&(decide (m.k=6)&&(s.und m.pl s.place&&(decide (m.ge≠0)&&(decide ((m.xs.length:Int)=s.dim)&&(!m.ids.isEmpty&&(decide (m.ns.length % 2=0)&&((Cs m.ids (idsP m.ps)).isEmpty&&Ek s m.pl m.ids (idsP m.ps) m.ns (-1) (idsP m.ps))))))))
def evN:List UInt64→List UInt64
 |a::_::r=>a::evN r
 |l=>l
def Aqy (a b:List UInt64):Bool:=(evN a).any fun x=>(evN b).any fun y=>decide (x=y)
def E0 (a b:MgS):Bool:=!(By (idsP a.ps) (idsP b.ps)).isEmpty||Aqy a.ns b.ns
def Sms.takeE (s:Sms) (m:MgS):Int:=
 if s.may m=false then 13 else if m.ge < (Az s.heard m.pl).getD 0 then 10 else if (Az s.taken m.pl).isSome=true then 8 else if s.taken.any (fun t=>E0 t.2 m)=true then 11 else 0
def Sms.take (s:Sms) (m:MgS):Sms:=
 if s.may m=false∨m.ge < (Az s.heard m.pl).getD 0 then s else {s with heard:=Bv s.heard m.pl m.ge,taken:=if s.takeE m=0 then Bv s.taken m.pl m else s.taken}
theorem V0 {α:Type}:∀{l:List (Int×α)} {k:Int},Az l k=none→∀x∈l,x.1≠k
 |[],_,_,x,hx=>by cases hx
 |(a,v)::l,k,h,x,hx=>by
  rw[Az] at h
  by_cases e:a=k
  ·rw[if_pos e] at h;cases h
  ·rw[if_neg e] at h
   rcases List.mem_cons.1 hx with rfl|hx
   ·exact e
   ·exact V0 h x hx
theorem Acc {α:Type}:∀{l:List (Int×α)} {k:Int} (v:α),Az l k=none→Bv l k v=l++[(k,v)]
 |[],_,_,_=>rfl
 |(a,x)::l,k,v,h=>by
  rw[Az] at h
  by_cases e:a=k
  ·rw[if_pos e] at h;cases h
  ·rw[if_neg e] at h
   rw[Bv,if_neg e,Acc v h]
   rfl
theorem Acd {α:Type}:∀{l:List (Int×α)} (hn:(l.map (·.1)).Nodup) {x:Int×α},x∈l→Az l x.1=some x.2
 |(a,v)::l,hn,x,hx=>by
  rw[List.map_cons,List.nodup_cons] at hn
  rw[Az]
  rcases List.mem_cons.1 hx with rfl|hx
  ·exact if_pos rfl
  ·rw[if_neg fun e:a=x.1=>hn.1 (by show a∈_;rw[e];exact List.mem_map_of_mem hx)]
   exact Acd hn.2 hx
structure SmInv (s:Sms):Prop where
 ok:∀t∈s.taken,s.may t.2=true∧t.2.pl=t.1
 apart:s.taken.Pairwise fun a b=>a.1≠b.1∧E0 a.2 b.2=false
theorem Aqz {s s':Sms} (h1:s'.spots=s.spots) (h2:s'.place=s.place) (h3:s'.dim=s.dim) (m:MgS):s'.may m=s.may m:=by
 have hu:s'.und=s.und:=by funext q p;unfold Sms.und;rw[h1]
 have hg:∀(pl:Int) (ids peers:List Int) (n:Nat) (l:List UInt64),l.length≤n→∀last rest,Ek s' pl ids peers l last rest=Ek s pl ids peers l last rest:=fun pl ids peers n=>by
  induction n with
  |zero=>
   intro l hl last rest
   obtain rfl:=List.length_eq_zero_iff.1 (Nat.le_zero.1 hl)
   rfl
  |succ n ih=>
   intro l hl last rest
   match l,hl with
   |[],_=>rfl
   |[a],_=>rfl
   |a::b::r,hl=>
    rw[Ek,Ek,h1,hu,ih r (by simp only[List.length_cons] at hl;omega)]
 unfold Sms.may
 rw[hu,h2,h3,hg _ _ _ _ _ (Nat.le_refl _)]
theorem Oe (s:Sms) (m:MgS):(s.take m).spots=s.spots∧(s.take m).place=s.place∧(s.take m).dim=s.dim∧(s.take m).taken=if s.takeE m=0 then s.taken++[(m.pl,m)] else s.taken:=by
 unfold Sms.take
 split
 ·rename_i h
  refine⟨rfl,rfl,rfl,?_⟩
  have:s.takeE m≠0:=by
   unfold Sms.takeE
   rcases h with h|h
   ·rw[if_pos h];decide
   ·by_cases h2:s.may m=false
    ·rw[if_pos h2];decide
    ·rw[if_neg h2,if_pos h];decide
  rw[if_neg this]
 ·refine⟨rfl,rfl,rfl,?_⟩
  show (if s.takeE m=0 then Bv s.taken m.pl m else s.taken)=_
  by_cases h:s.takeE m=0
  ·rw[if_pos h,if_pos h]
   refine Acc m ?_
   unfold Sms.takeE at h
   repeat' split at h
   all_goals first|(exact absurd h (by decide))|skip
   rename_i h3 _
   simpa using h3
  ·rw[if_neg h,if_neg h]
theorem Ace {s:Sms} {m:MgS} (h:s.takeE m=0):s.may m=true∧Az s.taken m.pl=none∧∀t∈s.taken,E0 t.2 m=false:=by
 unfold Sms.takeE at h
 by_cases h1:s.may m=false
 ·rw[if_pos h1] at h;exact absurd h (by decide)
 rw[if_neg h1] at h
 by_cases h2:m.ge < (Az s.heard m.pl).getD 0
 ·rw[if_pos h2] at h;exact absurd h (by decide)
 rw[if_neg h2] at h
 by_cases h3:(Az s.taken m.pl).isSome=true
 ·rw[if_pos h3] at h;exact absurd h (by decide)
 rw[if_neg h3] at h
 by_cases h4:s.taken.any (fun t=>E0 t.2 m)=true
 ·rw[if_pos h4] at h;exact absurd h (by decide)
 refine⟨by simpa using h1,by simpa using h3,fun t ht=>?_⟩
 rw[←Bool.not_eq_true]
 exact fun e=>h4 (List.any_eq_true.2 ⟨t,ht,e⟩)
theorem V1 {s:Sms} (h:SmInv s) (m:MgS):SmInv (s.take m):=by
 obtain⟨e1,e2,e3,e4⟩:=Oe s m
 have hm:=Aqz e1 e2 e3
 by_cases h0:s.takeE m=0
 ·rw[if_pos h0] at e4
  obtain⟨k1,k2,k3⟩:=Ace h0
  refine⟨fun t ht=>?_,?_⟩
  ·rw[hm]
   rw[e4] at ht
   rcases List.mem_append.1 ht with ht|ht
   ·exact h.ok t ht
   ·rw[List.mem_singleton.1 ht]
    exact⟨k1,rfl⟩
  ·rw[e4]
   refine List.pairwise_append.2 ⟨h.apart,List.pairwise_singleton _ _,fun a ha b hb=>?_⟩
   rw[List.mem_singleton.1 hb]
   exact⟨V0 k2 a ha,k3 a ha⟩
 ·rw[if_neg h0] at e4
  exact⟨fun t ht=>by rw[hm];rw[e4] at ht;exact h.ok t ht,by rw[e4];exact h.apart⟩
structure MayP (s:Sms) (m:MgS):Prop where
 chk:Bq m=true
 k:m.k=6
 und:s.und m.pl s.place=true
 len:(m.xs.length:Int)=s.dim
 some_:m.ids≠[]
 ids:Bn (-1) m.ids=true
 ps:may m.ps=true
 sub:∀x∈m.ids,x∈idsP m.ps
 few:m.xs.length≤32∧m.ns.length≤128
 ev:m.ns.length % 2=0
 go:Ek s m.pl m.ids (idsP m.ps) m.ns (-1) (idsP m.ps)=true
theorem K5 {s:Sms} {m:MgS} (h:s.may m=true):MayP s m:=by
 unfold Sms.may at h
 simp only[Bool.and_eq_true,decide_eq_true_eq,Bool.not_eq_true'] at h
 obtain⟨h1,h2,h3,h4,h5,h6,h7,h8,h9⟩:=h
 obtain⟨_,hf,_⟩:=Aqu h1
 rw[h2] at hf
 have f6:B7 6=[97,103,105,120,112,118]:=by decide
 rw[f6] at hf
 have fi:=hf 105 (by simp)
 have fp:=hf 112 (by simp)
 have fx:=hf 120 (by simp)
 have fv:=hf 118 (by simp)
 have fi:Bn (-1) m.ids=true:=fi
 have fp:may m.ps=true:=fp
 have fx:decide (m.xs.length≤32)=true:=fx
 have fv:(decide (m.ns.length≤128)&&!(m.ns.any fun v=>decide (pm1 < v)))=true:=fv
 rw[Bool.and_eq_true] at fv
 refine⟨h1,h2,h3,h5,fun e=>(by rw[e] at h6;cases h6),fi,fp,fun x hx=>?_,⟨of_decide_eq_true fx,of_decide_eq_true fv.1⟩,h7,h9⟩
 have hb:=K4 fi x hx
 by_cases hp:x∈idsP m.ps
 ·exact hp
 ·have:x∈Cs m.ids (idsP m.ps):=Aqd.2 ⟨hb.1,hb.2,hx,hp⟩
  rw[List.isEmpty_iff] at h8
  rw[h8] at this
  cases this
theorem Aq0 {s:Sms} {a b:MgS} (ha:MayP s a) (hb:MayP s b) (h:E0 a b=false):∀x∈a.ids,x∉b.ids:=fun x h1 h2=>by
 unfold E0 at h
 rw[Bool.or_eq_false_iff] at h
 have hx:=K4 ha.ids x h1
 have:x∈By (idsP a.ps) (idsP b.ps):=Abt.2 ⟨hx.1,hx.2,ha.sub x h1,hb.sub x h2⟩
 have h3:(By (idsP a.ps) (idsP b.ps)).isEmpty=true:=by simpa using h.1
 rw[List.isEmpty_iff] at h3
 rw[h3] at this
 cases this
def Mi (s:Sms):List UInt32:=s.taken.foldl (fun r t=>Bz r t.2.xs) (List.replicate s.dim.toNat 0)
structure PaInv (s:Sms) (inn:List Int) (sum:List UInt32) (many:Nat):Prop where
 inv:SmInv s
 asc:Bn (-1) inn=true
 mem:∀x,x∈inn↔∃t∈s.taken,x∈t.2.ids
 eq:sum=Mi s
 many:many=s.taken.length
 len:sum.length=s.dim.toNat
theorem Acf {a b:List UInt32} (h:a.length=b.length):(Bz a b).length=a.length:=by unfold Bz;rw[List.length_zipWith,h,Nat.min_self]
theorem Aq1 {s:Sms} {inn:List Int} {sum:List UInt32} {many:Nat} (h:PaInv s inn sum many) {m:MgS} (h0:s.takeE m=0):
  By inn m.ids=[]∧m.ids≠[]∧sum.length=m.xs.length∧PaInv (s.take m) (Ak inn m.ids) (Bz sum m.xs) (many+1):=by
 obtain⟨e1,e2,e3,e4⟩:=Oe s m
 rw[if_pos h0] at e4
 obtain⟨k1,k2,k3⟩:=Ace h0
 have km:=K5 k1
 have hl:sum.length=m.xs.length:=by rw[h.len];have:=km.len;omega
 refine⟨?_,km.some_,hl,V1 h.inv m,Abv _,fun x=>?_,?_,?_,?_⟩
 ·refine List.eq_nil_iff_forall_not_mem.2 fun x hx=>?_
  obtain⟨_,_,hx1,hx2⟩:=Abt.1 hx
  obtain⟨t,ht,hxt⟩:=(h.mem x).1 hx1
  exact Aq0 (K5 (h.inv.ok t ht).1) km (k3 t ht) x hxt hx2
 ·rw[Abr,e4]
  constructor
  ·rintro⟨_,_,hx|hx⟩
   ·obtain⟨t,ht,hxt⟩:=(h.mem x).1 hx
    exact⟨t,List.mem_append_left _ ht,hxt⟩
   ·exact⟨(m.pl,m),List.mem_append_right _ (List.mem_singleton.2 rfl),hx⟩
  ·rintro⟨t,ht,hxt⟩
   rcases List.mem_append.1 ht with ht|ht
   ·have hx:=(h.mem x).2 ⟨t,ht,hxt⟩
    have:=K4 h.asc x hx
    exact⟨this.1,this.2,.inl hx⟩
   ·rw[List.mem_singleton.1 ht] at hxt
    have:=K4 km.ids x hxt
    exact⟨this.1,this.2,.inr hxt⟩
 ·unfold Mi
  rw[e4,e3,List.foldl_append,h.eq]
  rfl
 ·rw[e4,h.many,List.length_append]
  rfl
 ·rw[Acf hl,h.len,e3]
def Sms.from_ (s:Sms):List Int:=(s.taken.map (·.1)).mergeSort fun a b=>decide (a≤b)
def Sms.msgs (s:Sms):List MgS:=s.from_.map fun q=>(Az s.taken q).getD Fk
theorem V2 {s:Sms} (h:SmInv s):(s.taken.map (·.1)).Nodup:=by
 unfold List.Nodup
 rw[List.pairwise_map]
 exact h.apart.imp fun h=>h.1
theorem R3 (s:Sms):s.from_.Perm (s.taken.map (·.1)):=List.mergeSort_perm _ _
theorem V3 {s:Sms} (h:SmInv s):s.msgs.Perm (s.taken.map (·.2)):=by
 refine ((R3 s).map _).trans (List.Perm.of_eq ?_)
 rw[List.map_map]
 refine List.map_congr_left fun t ht=>?_
 show (Az s.taken t.1).getD Fk=t.2
 rw[Acd (V2 h) ht]
 rfl
def Mj (s:Sms):List Int:=s.msgs.foldl (fun a t=>Ak a t.ids) []
def Jv (s:Sms):List UInt32:=s.msgs.foldl (fun r t=>Bz r t.xs) (List.replicate s.dim.toNat 0)
theorem V4:∀(l:List MgS) (a:List Int),Bn (-1) a=true→(∀t∈l,Bn (-1) t.ids=true)→Bn (-1) (l.foldl (fun a t=>Ak a t.ids) a)=true∧∀x,x∈l.foldl (fun a t=>Ak a t.ids) a↔x∈a∨∃t∈l,x∈t.ids
 |[],a,h,_=>⟨h,fun x=>⟨.inl,fun h=>h.elim id fun⟨t,ht,_⟩=>by cases ht⟩⟩
 |t::l,a,h,hl=>by
  obtain⟨h1,h2⟩:=V4 l (Ak a t.ids) (Abv _) fun t ht=>hl t (List.mem_cons_of_mem _ ht)
  refine⟨h1,fun x=>(h2 x).trans ?_⟩
  rw[Abr]
  constructor
  ·rintro (⟨_,_,hx|hx⟩|⟨u,hu,hx⟩)
   ·exact .inl hx
   ·exact .inr ⟨t,List.mem_cons_self ..,hx⟩
   ·exact .inr ⟨u,List.mem_cons_of_mem _ hu,hx⟩
  ·rintro (hx|⟨u,hu,hx⟩)
   ·have:=K4 h x hx
    exact .inl ⟨this.1,this.2,.inl hx⟩
   ·rcases List.mem_cons.1 hu with rfl|hu
    ·have:=K4 (hl u (List.mem_cons_self ..)) x hx
     exact .inl ⟨this.1,this.2,.inr hx⟩
    ·exact .inr ⟨u,hu,hx⟩
theorem Aq2 {a b:List Int} (ha:Bn (-1) a=true) (hb:Bn (-1) b=true) (h:∀x,x∈a↔x∈b):a=b:=Abu (Jr.1 ha).2 (Jr.1 hb).2 h
theorem Aq3 {s:Sms} {inn:List Int} {sum:List UInt32} {many:Nat} (h:PaInv s inn sum many):Mj s=inn:=by
 have hp:=V3 h.inv
 have hok:∀t∈s.msgs,Bn (-1) t.ids=true:=fun t ht=>by
  obtain⟨u,hu,rfl⟩:=List.mem_map.1 (hp.mem_iff.1 ht)
  exact (K5 (h.inv.ok u hu).1).ids
 obtain⟨h1,h2⟩:=V4 s.msgs [] rfl hok
 refine Aq2 h1 h.asc fun x=>(h2 x).trans ?_
 rw[h.mem]
 constructor
 ·rintro (hx|⟨t,ht,hx⟩)
  ·cases hx
  ·obtain⟨u,hu,rfl⟩:=List.mem_map.1 (hp.mem_iff.1 ht)
   exact⟨u,hu,hx⟩
 ·rintro⟨u,hu,hx⟩
  exact .inr ⟨u.2,hp.mem_iff.2 (List.mem_map_of_mem hu),hx⟩
theorem Aq4 (r x y:List UInt32):Bz (Bz r x) y=Bz (Bz r y) x:=by
 induction r generalizing x y with
 |nil=>cases x<;>cases y<;>rfl
 |cons a r ih=>
  cases x with
  |nil=>cases y<;>rfl
  |cons b x=>
   cases y with
   |nil=>rfl
   |cons c y=>
    show (a+b+c)::Bz (Bz r x) y=(a+c+b)::Bz (Bz r y) x
    rw[ih,UInt32.add_assoc,UInt32.add_comm b c,←UInt32.add_assoc]
theorem Acg {s:Sms} (h:SmInv s):Jv s=Mi s:=by
 have:=(V3 h).foldl_eq' (f:=fun r t=>Bz r t.xs) (fun x _ y _ z=>Aq4 z x.xs y.xs) (List.replicate s.dim.toNat 0)
 unfold Jv Mi
 rw[this,List.foldl_map]
end
end Go.Proofs.YtedaafmfjhjfmaaGreatDoor
